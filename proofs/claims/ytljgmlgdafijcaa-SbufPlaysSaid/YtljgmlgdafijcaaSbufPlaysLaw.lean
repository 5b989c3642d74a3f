/- Proved: the statement Rows.SbufPlaysSaid: for every input the Go function blockyardlaw13.SbufPlays returns true and leaves its arguments as they were. Conditions: none beyond the row's own. -/
import Derived.Test.YtljgmlgdafijcaaRows
import Derived.Test.YtljgmlgdafijcaaSbufPlaysP
import Derived.WalkKit
import Derived.ProofKit
import Derived.OpenShut
import Derived.ShutString
import Derived.ChangeOld
import Derived.Below
namespace Go.Proofs.Ytljgmlgdafijcaa.sbufPlays
open Go.ChangeShapes Go.WideShapes Go.ChangeAt Go.RowKit
open Go.ChangeMaps (open_string shut_string)
set_option linter.unusedVariables false

theorem own : ownKnob Try.prog.godebug = none := by kernel_rfl
theorem laidOut : laidOutB Try.prog = true := by kernel_rfl

theorem wrap_small {a : Int} (h0 : -9223372036854775808 ≤ a) (h1 : a ≤ 9223372036854775807) : IntKind.i64.wrap a = a := by
  simp [IntKind.wrap, IntKind.signed, IntKind.bits] <;> (try split) <;> omega
theorem meas_lt {gk len k : Nat} (h : gk = len - k) (h2 : k < len) : len - (k + 1) < gk := by omega
set_option maxRecDepth 100000 in
set_option maxHeartbeats 4000000 in
theorem walk (a0 : Int) (a1 : Int) (a2 : Option Addr) (len2 cap2 : Nat) (w : World) (w0 : (Lit.int .u32 a0).wf = true) (w1 : (Lit.int .i64 a1).wf = true) (z2 : _) (w2 : Acts w a2 len2 cap2 z2) : Calls Try.prog 4 #[.int .u32 a0, .int .i64 a1, .slice a2 len2 cap2] w fun e w' => e = .returned (.bool true) ∧ Below w.heap.size w w' := by
  obtain ⟨u0, u1⟩ := u32_of_wf w0
  obtain ⟨r0, r1⟩ := i64_of_wf w1
  clear w0 w1
  go_enter Try.func4, Try.ntmps4
  go_wp2_with (go_at_call 12; refine (awake_any _).mono ?_; rintro e w1 ⟨rfl, hf1⟩)
  refine (great_any a2 len2 cap2 z2 _ w w2 hf1).mono ?_
  rintro e w1' ⟨B, rfl, hB, rfl⟩
  rcases B with _ | _
  · obtain ⟨hB1, hB2⟩ := hB rfl
    clear hB
    obtain ⟨hlc, hcm, hel⟩ := w2
    have hlm : cap2 ≤ 9223372036854775807 := hcm
    clear hcm
    have HEL := Lib.hid hel
    clear hel
    by_cases hbad : a1 < 1 ∨ 2048 < a1
    · rcases hbad with hb1 | hb2
      · go_wp2_with fail
        refine (snew_bad _ _ _ (.inl hb1)).mono ?_
        rintro e w3 ⟨rfl, rfl⟩
        go_wp2_with fail
        go_ret
        exact ⟨rfl, hf1.below (Nat.le_refl _) (by simp)⟩
      · go_wp2_with fail
        refine (snew_bad _ _ _ (.inr hb2)).mono ?_
        rintro e w3 ⟨rfl, rfl⟩
        go_wp2_with fail
        go_ret
        exact ⟨rfl, hf1.below (Nat.le_refl _) (by simp)⟩
    · by_cases h3 : 300 < a1
      · have h4 : a1 ≤ 2048 := by omega
        go_wp2_with fail
        go_ret
        exact ⟨rfl, hf1.below (Nat.le_refl _) (by simp)⟩
      · have q1 : 1 ≤ a1 := by omega
        have q2 : a1 ≤ 300 := by omega
        have q3 : a1 ≤ 2048 := by omega
        go_wp2_with fail
        refine (snew_ok _ _ _ q1 q3).mono ?_
        rintro e wa ⟨rfl, hb0, hf0⟩
        have hsr0 := SR.start a1 a0 q1 q2 u0 u1
        obtain ⟨G1, hG1⟩ : ∃ G1, G1 = w1.heap.size := ⟨_, rfl⟩
        rw [← hG1] at hb0 ⊢
        have hlt0 : w.heap.size ≤ G1 := hG1 ▸ hf1.size
        have hfr0 := hf1.next0 hf0
        clear hf0 hf1 hG1
        go_upto_region 11 with fail
        obtain ⟨G2, hG2⟩ : ∃ G2, G2 = wa.heap.size := ⟨_, rfl⟩
        rw [← hG2]
        refine wp_world (fun wx => PS w wx G1 G2 (SB.mk a1 a0 []) a1 a0 (.slice none 0 0) []) ⟨hfr0.alloc _, hb0.alloc _, Blk.new_at hG2.symm _ _, ⟨none, 0, rfl, Nat.le_refl _, by simp, fun _ => rfl, fun h => absurd rfl h⟩, hsr0, hlt0, by have := hfr0.size; omega⟩ ?_
        clear hb0 hfr0 hsr0 hG2 hlt0
        intro wx hps0
        go_wp2_with fail
        go_loopg [10] (len2 - 0) (fun gk i wr => ∃ (k : Nat) (b : SB) (ee : Int) (v : Value) (l : List (Int × UInt8)), k ≤ len2 ∧ gk = len2 - k ∧ i = .int .i64 (k : Int) ∧ PS w wr G1 G2 b a1 ee v l)
        case atStart => exact ⟨0, _, _, _, _, by omega, rfl, rfl, hps0⟩
        case round =>
          clear hps0
          obtain ⟨k, b, ee, v, l, hk, hgk, rfl, hps⟩ := hrel
          by_cases hlt : k < len2
          · obtain ⟨bb, o, rfl, hbl, hat⟩ := HEL.out (by omega)
            obtain ⟨c0, c1, c2, c3, c4, hN, hsm⟩ := hat k hlt
            have hfr := hps.frm
            have d0 := (hfr.cell (p := ⟨bb, o + k * 5, none⟩) hbl (by simp)).trans c0
            have d1 := (hfr.cell (p := ⟨bb, o + k * 5 + 1, none⟩) hbl (by simp)).trans c1
            have d2 := (hfr.cell (p := ⟨bb, o + k * 5 + 2, none⟩) hbl (by simp)).trans c2
            have d3 := (hfr.cell (p := ⟨bb, o + k * 5 + 3, none⟩) hbl (by simp)).trans c3
            have d4 := (hfr.cell (p := ⟨bb, o + k * 5 + 4, none⟩) hbl (by simp)).trans c4
            clear c0 c1 c2 c3 c4 hat hfr
            have hsl2 : (z2 k).s.length ≤ 20000 := Nat.le_trans (Nat.le_trans (Nat.le_add_left _ (tot z2 k)) (tot_mono z2 (a := k + 1) hlt)) hB2
            generalize z2 k = x at *
            obtain ⟨xd, xn, xb, xm, xs⟩ := x
            simp only at d0 d1 d2 d3 d4 hN hsm hsl2
            have hsl : xs.length ≤ 9223372036854775807 := hsm
            have HSM := Lib.hid hsm
            have HN := Lib.hid hN
            clear hsm hN
            go_upto_region 15 with fail
            obtain ⟨Ga, hGa⟩ : ∃ Ga, Ga = wr.heap.size := ⟨_, rfl⟩
            rw [← hGa]
            refine wp_world (fun wx => PS w wx G1 G2 b a1 ee v l ∧ Blk wx Ga 38 #[.int .i64 xd, .int .u32 xn, .bool xb, .int .i64 xm, .string ⟨xs.toArray⟩]) ⟨hps.frm_ ((Frm.refl _ _).alloc _), Blk.new_at hGa.symm _ _⟩ ?_
            have HK := Lib.hid hk
            clear hps hGa d0 d1 d2 d3 d4 hbl
            rintro wy ⟨hps, hba⟩
            obtain ⟨k0, k1, k2, f0, f1, f2, hl2⟩ := hps.rules
            have b0 : wy.cell? ⟨Ga, 0, none⟩ = some (.int .i64 xd) := hba.cell 0
            have b1 : wy.cell? ⟨Ga, 1, none⟩ = some (.int .u32 xn) := hba.cell 1
            have b2 : wy.cell? ⟨Ga, 2, none⟩ = some (.bool xb) := hba.cell 2
            go_upto_if 65 with fail
            go_cut [12] (fun aa wz => aa = .int .u32 (if xb = true then (b.una + xn) % 4294967296 else xn) ∧ PS w wz G1 G2 b a1 ee v l ∧ Blk wz Ga 38 #[.int .i64 xd, .int .u32 xn, .bool xb, .int .i64 xm, .string ⟨xs.toArray⟩])
            case first =>
              rcases xb with _ | _
              · go_wp2_with fail
                go_meet
                exact ⟨rfl, hps, hba⟩
              · have HU := Lib.hid hps.sr.una
                go_upto_region 17 with fail
                have HS : ∀ w', PS w w' G1 G2 b a1 ee v l ∧ Blk w' Ga 38 #[.int .i64 xd, .int .u32 xn, .bool true, .int .i64 xm, .string ⟨xs.toArray⟩] → (fun w' => w'.cell? ⟨G2, 0, none⟩ = some (.int .i64 a1) ∧ w'.cell? ⟨G2, 1, none⟩ = some (.int .u32 ee) ∧ w'.cell? ⟨G2, 2, none⟩ = some v ∧ w'.cell? ⟨Ga, 1, none⟩ = some (.int .u32 xn) ∧ w'.cell? ⟨Ga, 3, none⟩ = some (.int .i64 xm) ∧ (PS w w' G1 G2 b a1 ee v l ∧ Blk w' Ga 38 #[.int .i64 xd, .int .u32 xn, .bool true, .int .i64 xm, .string ⟨xs.toArray⟩])) w' := fun w' h => ⟨h.1.rules.1, h.1.rules.2.1, h.1.rules.2.2.1, h.2.cell 1, h.2.cell 3, h⟩
                have HS0 := Lib.hid HS
                have HP0 := Lib.hid hps
                have HA0 := Lib.hid hba
                clear HS hps hba
                have hnow : PS w wy.drew G1 G2 b a1 ee v l ∧ Blk wy.drew Ga 38 #[.int .i64 xd, .int .u32 xn, .bool true, .int .i64 xm, .string ⟨xs.toArray⟩] := ⟨HP0.out.frm_ (Frm.drew (Frm.refl [] _)), HA0.out.frm (Frm.drew (Frm.refl [] _)) (by simp)⟩
                go_region_held3 (fun w' => w'.cell? ⟨G2, 0, none⟩ = some (.int .i64 a1) ∧ w'.cell? ⟨G2, 1, none⟩ = some (.int .u32 ee) ∧ w'.cell? ⟨G2, 2, none⟩ = some v ∧ w'.cell? ⟨Ga, 1, none⟩ = some (.int .u32 xn) ∧ w'.cell? ⟨Ga, 3, none⟩ = some (.int .i64 xm) ∧ (PS w w' G1 G2 b a1 ee v l ∧ Blk w' Ga 38 #[.int .i64 xd, .int .u32 xn, .bool true, .int .i64 xm, .string ⟨xs.toArray⟩]))
                  (exact HS0.out _ hnow)
                  (first
                    | (go_at_call 16; refine (runa_any a1 ee v l _ hnow.1.num).mono ?_; rw [HU.out]; rintro e' wb ⟨rfl, hfa⟩; have hnow : PS w wb G1 G2 b a1 ee v l ∧ Blk wb Ga 38 #[.int .i64 xd, .int .u32 xn, .bool true, .int .i64 xm, .string ⟨xs.toArray⟩] := ⟨hnow.1.frm_ hfa, hnow.2.frm hfa (by simp)⟩))
                go_wp2_with fail
                go_meet
                exact ⟨rfl, hnow⟩
            case rest =>
              clear hps hba k0 k1 k2 f0 f1 f2 hl2 b0 b1 b2
              obtain ⟨rfl, hps, hba⟩ := hcut
              have hNN : 0 ≤ (if xb = true then (b.una + xn) % 4294967296 else xn) ∧ (if xb = true then (b.una + xn) % 4294967296 else xn) < 4294967296 := by
                have := HN.out
                split <;> omega
              have hM := HN.out.2.2
              have HM := Lib.hid hM
              clear hM
              generalize (if xb = true then (b.una + xn) % 4294967296 else xn) = N at *
              have HNN := Lib.hid hNN
              clear hNN
              obtain ⟨k0, k1, k2, f0, f1, f2, hl2⟩ := hps.rules
              have b0 := hba.cell 0
              have b3 := hba.cell 3
              have b4 := hba.cell 4
              have HPS := Lib.hid hps
              have HBA := Lib.hid hba
              have hne9 : Ga ≠ G2 := Blk.ne_ hba hps.rf (by decide)
              clear hps hba
              simp only [List.getElem?_toArray, List.getElem?_cons_succ, List.getElem?_cons_zero] at b0 b3 b4
              go_upto_block 2 with fail
              go_cut [] (fun wz => ∃ b' e' v' l', PS w wz G1 G2 b' a1 e' v' l')
              case first =>
                by_cases h0 : xd = 0
                · have t0 : (xd == 0) = true := by simpa using h0
                  clear h0
                  go_wp2_with fail
                  refine (rwrite_any a1 ee v l xs _ HPS.out.num HPS.out.sr.e0 (by omega)).mono ?_
                  rintro e wb ⟨v', kk, rfl, hn', hf', hk1, hk2, hk3⟩
                  obtain ⟨hkf, hsr'⟩ := HPS.out.sr.write xs hk1 hk2 hk3
                  clear hk1 hk2 hk3
                  obtain ⟨A', cap', n', hv'⟩ : ∃ A' cap' n', v' = .slice A' n' cap' := by obtain ⟨A, cap, h, -⟩ := hn'; exact ⟨A, cap, _, h⟩
                  subst hv'
                  obtain ⟨m0, m1, m2, g0, g1, g2, hl9⟩ := (HPS.out.frm_ hf').rules
                  have hb9 := HBA.out.frm hf' (by simp)
                  have j4 := hb9.cell 4
                  simp only [List.getElem?_toArray, List.getElem?_cons_succ, List.getElem?_cons_zero] at j4
                  have HB9 := Lib.hid hb9
                  have HN9 := Lib.hid hn'
                  have HF9 := Lib.hid hf'
                  have HSR9 := Lib.hid hsr'
                  have HK9 := Lib.hid hkf
                  clear hb9 hn' hf' hsr' hkf
                  go_upto_region 22 with fail
                  have hf3 : Frm [G2] wb ((((wb.setCell ⟨G2, 0, none⟩ (.int .i64 a1)).setCell ⟨G2, 1, none⟩ (.int .u32 ((ee + (kk : Nat)) % 4294967296))).setCell ⟨G2, 2, none⟩ (.slice A' n' cap')).alloc (.cells #[.int .i64 a1, .int .u32 ((ee + (kk : Nat)) % 4294967296), (.slice A' n' cap')] 36)) :=
                    ((((Frm.refl _ _).setCell (.inl (by simp)) _).setCell (.inl (by simp)) _).setCell (.inl (by simp)) _).alloc _
                  have hb3 : Blk ((((wb.setCell ⟨G2, 0, none⟩ (.int .i64 a1)).setCell ⟨G2, 1, none⟩ (.int .u32 ((ee + (kk : Nat)) % 4294967296))).setCell ⟨G2, 2, none⟩ (.slice A' n' cap')).alloc (.cells #[.int .i64 a1, .int .u32 ((ee + (kk : Nat)) % 4294967296), (.slice A' n' cap')] 36)) G2 36 (refC a1 ((ee + (kk : Nat)) % 4294967296) (.slice A' n' cap')) :=
                    (((((HPS.out.frm_ HF9.out).rf.set_ 0 _).set_ 1 _).set_ 2 _).as_ rfl).alloc _
                  refine wp_world (fun w3 => Frm [G2] wb w3 ∧ Blk w3 G2 36 (refC a1 ((ee + (kk : Nat)) % 4294967296) (.slice A' n' cap'))) ⟨hf3, hb3⟩ ?_
                  clear hf3 hb3 hl9 m0 m1 m2 g0 g1 g2 j4 k0 k1 k2 f0 f1 f2 hl2
                  rintro w3 ⟨hf3, hb3⟩
                  have j4 := (HB9.out.frm hf3 (by simpa using hne9)).cell 4
                  simp only [List.getElem?_toArray, List.getElem?_cons_succ, List.getElem?_cons_zero] at j4
                  have hsb := (HPS.out.frm_ HF9.out).sb.frm hf3 (by simpa using Blk.ne_ HPS.out.sb HPS.out.rf (by decide))
                  go_wp2_with fail
                  refine (swrite_blk G1 b xs _ HPS.out.sr.ok HSM.out hsb).mono ?_
                  rw [← HK9.out]
                  rintro e w4 ⟨rfl, hb4, hf4⟩
                  go_wp2_with fail
                  go_meet
                  exact ⟨_, _, _, _, HPS.out.next HF9.out HN9.out hf3 hb3 hf4 hb4 HSR9.out⟩

                · have t0 : (xd == 0) = false := by simpa using h0
                  by_cases h1 : xd = 1
                  · have t1 : (xd == 1) = true := by simpa using h1
                    clear h0 h1
                    go_wp2_with fail
                    refine (rack_any a1 ee N v l _ HPS.out.num (by intro j x hx; rw [HPS.out.sr.ns] at hx; exact nums_range j x hx)).mono ?_
                    rintro e wb ⟨v', l', kk, rfl, hn', hf', hak⟩
                    obtain ⟨hkf, hsr'⟩ := HPS.out.sr.ack HNN.out.1 HNN.out.2 hak
                    clear hak
                    obtain ⟨A', cap', n', hv'⟩ : ∃ A' cap' n', v' = .slice A' n' cap' := by obtain ⟨A, cap, h, -⟩ := hn'; exact ⟨A, cap, _, h⟩
                    subst hv'
                    obtain ⟨m0, m1, m2, g0, g1, g2, hl9⟩ := (HPS.out.frm_ hf').rules
                    have hb9 := HBA.out.frm hf' (by simp)
                    have j4 := hb9.cell 4
                    simp only [List.getElem?_toArray, List.getElem?_cons_succ, List.getElem?_cons_zero] at j4
                    have HB9 := Lib.hid hb9
                    have HN9 := Lib.hid hn'
                    have HF9 := Lib.hid hf'
                    have HSR9 := Lib.hid hsr'
                    have HK9 := Lib.hid hkf
                    clear hb9 hn' hf' hsr' hkf
                    go_upto_region 27 with fail
                    have hf3 : Frm [G2] wb ((((wb.setCell ⟨G2, 0, none⟩ (.int .i64 a1)).setCell ⟨G2, 1, none⟩ (.int .u32 ee)).setCell ⟨G2, 2, none⟩ (.slice A' n' cap')).alloc (.cells #[.int .i64 a1, .int .u32 ee, (.slice A' n' cap')] 36)) :=
                      ((((Frm.refl _ _).setCell (.inl (by simp)) _).setCell (.inl (by simp)) _).setCell (.inl (by simp)) _).alloc _
                    have hb3 : Blk ((((wb.setCell ⟨G2, 0, none⟩ (.int .i64 a1)).setCell ⟨G2, 1, none⟩ (.int .u32 ee)).setCell ⟨G2, 2, none⟩ (.slice A' n' cap')).alloc (.cells #[.int .i64 a1, .int .u32 ee, (.slice A' n' cap')] 36)) G2 36 (refC a1 ee (.slice A' n' cap')) :=
                      (((((HPS.out.frm_ HF9.out).rf.set_ 0 _).set_ 1 _).set_ 2 _).as_ rfl).alloc _
                    refine wp_world (fun w3 => Frm [G2] wb w3 ∧ Blk w3 G2 36 (refC a1 ee (.slice A' n' cap'))) ⟨hf3, hb3⟩ ?_
                    clear hf3 hb3 hl9 m0 m1 m2 g0 g1 g2 j4 k0 k1 k2 f0 f1 f2 hl2
                    rintro w3 ⟨hf3, hb3⟩
                    have j4 := (HB9.out.frm hf3 (by simpa using hne9)).cell 4
                    simp only [List.getElem?_toArray, List.getElem?_cons_succ, List.getElem?_cons_zero] at j4
                    have hsb := (HPS.out.frm_ HF9.out).sb.frm hf3 (by simpa using Blk.ne_ HPS.out.sb HPS.out.rf (by decide))
                    go_wp2_with fail
                    refine (sack_blk G1 b N _ HPS.out.sr.ok hsb).mono ?_
                    rw [← HK9.out]
                    rintro e w4 ⟨rfl, hb4, hf4⟩
                    go_wp2_with fail
                    go_meet
                    exact ⟨_, _, _, _, HPS.out.next HF9.out HN9.out hf3 hb3 hf4 hb4 HSR9.out⟩

                  · have t1 : (xd == 1) = false := by simpa using h1
                    by_cases h2 : xd = 2
                    · have t2 : (xd == 2) = true := by simpa using h2
                      clear h0 h1 h2
                      have hps := HPS.out
                      have hba := HBA.out
                      have HG := Lib.hid (hps.sr.get xm HNN.out.1 HNN.out.2)
                      go_upto_region 30 with fail
                      have HS : ∀ w', PS w w' G1 G2 b a1 ee v l ∧ Blk w' Ga 38 #[.int .i64 xd, .int .u32 xn, .bool xb, .int .i64 xm, .string ⟨xs.toArray⟩] → (fun w' => w'.cell? ⟨G2, 0, none⟩ = some (.int .i64 a1) ∧ w'.cell? ⟨G2, 1, none⟩ = some (.int .u32 ee) ∧ w'.cell? ⟨G2, 2, none⟩ = some v ∧ w'.cell? ⟨Ga, 1, none⟩ = some (.int .u32 xn) ∧ w'.cell? ⟨Ga, 3, none⟩ = some (.int .i64 xm) ∧ (PS w w' G1 G2 b a1 ee v l ∧ Blk w' Ga 38 #[.int .i64 xd, .int .u32 xn, .bool xb, .int .i64 xm, .string ⟨xs.toArray⟩])) w' := fun w' h => ⟨h.1.rules.1, h.1.rules.2.1, h.1.rules.2.2.1, h.2.cell 1, h.2.cell 3, h⟩
                      have HS0 := Lib.hid HS
                      have HP0 := Lib.hid hps
                      have HA0 := Lib.hid hba
                      clear HS hps hba
                      have hnow : PS w wc.drew G1 G2 b a1 ee v l ∧ Blk wc.drew Ga 38 #[.int .i64 xd, .int .u32 xn, .bool xb, .int .i64 xm, .string ⟨xs.toArray⟩] := ⟨HP0.out.frm_ (Frm.drew (Frm.refl [] _)), HA0.out.frm (Frm.drew (Frm.refl [] _)) (by simp)⟩
                      go_region_held3 (fun w' => w'.cell? ⟨G2, 0, none⟩ = some (.int .i64 a1) ∧ w'.cell? ⟨G2, 1, none⟩ = some (.int .u32 ee) ∧ w'.cell? ⟨G2, 2, none⟩ = some v ∧ w'.cell? ⟨Ga, 1, none⟩ = some (.int .u32 xn) ∧ w'.cell? ⟨Ga, 3, none⟩ = some (.int .i64 xm) ∧ (PS w w' G1 G2 b a1 ee v l ∧ Blk w' Ga 38 #[.int .i64 xd, .int .u32 xn, .bool xb, .int .i64 xm, .string ⟨xs.toArray⟩]))
                        (exact HS0.out _ hnow)
                        (first
                          | (go_at_call 10; refine (sget_blk G1 b N xm _ HP0.out.sr.ok hnow.1.sb).mono ?_; rintro e' wb ⟨rfl, hdr⟩; have hfa := hdr.frm; have hnow : PS w wb G1 G2 b a1 ee v l ∧ Blk wb Ga 38 #[.int .i64 xd, .int .u32 xn, .bool xb, .int .i64 xm, .string ⟨xs.toArray⟩] := ⟨hnow.1.frm_ hfa, hnow.2.frm hfa (by simp)⟩)
                          | (go_at_call 19; refine (rget_any a1 ee N xm v l _ hnow.1.num HM.out).mono ?_; rw [HG.out]; rintro e' wb ⟨rfl, hfa⟩; have hnow : PS w wb G1 G2 b a1 ee v l ∧ Blk wb Ga 38 #[.int .i64 xd, .int .u32 xn, .bool xb, .int .i64 xm, .string ⟨xs.toArray⟩] := ⟨hnow.1.frm_ hfa, hnow.2.frm hfa (by simp)⟩))
                      go_wp2_with fail
                      go_meet
                      exact ⟨_, _, _, _, hnow.1⟩
                    · have t2 : (xd == 2) = false := by simpa using h2
                      clear h0 h1 h2
                      go_wp2_with fail
                      go_meet
                      exact ⟨_, _, _, _, HPS.out⟩
              case rest =>
                clear k0 k1 k2 f0 f1 f2 hl2 b0 b3 b4 hne9 HPS HBA
                obtain ⟨b', ee', v', l', hps⟩ := hcut
                obtain ⟨A', cap', hv', -⟩ := hps.num
                subst hv'
                have hl3 : l'.length ≤ 300 := by rw [hps.sr.len]; exact hps.sr.short
                go_upto_region 32 with fail
                have hwr : IntKind.i64.wrap (a1 - (l'.length : Int)) = a1 - (l'.length : Int) := wrap_small (by omega) (by omega)
                have HU := Lib.hid hps.sr.una
                have HE := Lib.hid hps.sr.end_.symm
                have HL : Hid ((b'.s.length : Int) = (l'.length : Int)) := Lib.hid (by rw [hps.sr.len])
                have HR : Hid (b'.room - (b'.s.length : Int) = a1 - (l'.length : Int)) := Lib.hid (by rw [hps.sr.len, hps.sr.rm])
                have HS : ∀ w', PS w w' G1 G2 b' a1 ee' (.slice A' l'.length cap') l' → (fun w' => w'.cell? ⟨G2, 0, none⟩ = some (.int .i64 a1) ∧ w'.cell? ⟨G2, 1, none⟩ = some (.int .u32 ee') ∧ w'.cell? ⟨G2, 2, none⟩ = some (.slice A' l'.length cap') ∧ PS w w' G1 G2 b' a1 ee' (.slice A' l'.length cap') l') w' := fun w' h => ⟨h.rules.1, h.rules.2.1, h.rules.2.2.1, h⟩
                have HS0 := Lib.hid HS
                have HP0 := Lib.hid hps
                clear HS hps
                have hnow : PS w wc.drew G1 G2 b' a1 ee' (.slice A' l'.length cap') l' := HP0.out.frm_ (Frm.drew (Frm.refl [] _))
                go_region_held3 (fun w' => w'.cell? ⟨G2, 0, none⟩ = some (.int .i64 a1) ∧ w'.cell? ⟨G2, 1, none⟩ = some (.int .u32 ee') ∧ w'.cell? ⟨G2, 2, none⟩ = some (.slice A' l'.length cap') ∧ PS w w' G1 G2 b' a1 ee' (.slice A' l'.length cap') l')
                  (exact HS0.out _ hnow)
                  (first
                    | (go_at_call 20; refine (suna_blk G1 b' _ HP0.out.sr.ok hnow.sb).mono ?_; rintro e' wb ⟨rfl, rfl⟩)
                    | (go_at_call 16; refine (runa_any a1 ee' (.slice A' l'.length cap') l' _ hnow.num).mono ?_; rw [HU.out]; rintro e' wb ⟨rfl, hfa⟩; have hnow : PS w wb G1 G2 b' a1 ee' (.slice A' l'.length cap') l' := hnow.frm_ hfa)
                    | (go_at_call 21; refine (send_blk G1 b' _ HP0.out.sr.ok hnow.sb).mono ?_; rw [HE.out]; rintro e' wb ⟨rfl, rfl⟩)
                    | (go_at_call 13; refine (slen_blk G1 b' _ HP0.out.sr.ok hnow.sb).mono ?_; rw [HL.out]; rintro e' wb ⟨rfl, rfl⟩)
                    | (go_at_call 14; refine (sroom_blk G1 b' _ HP0.out.sr.ok hnow.sb).mono ?_; rw [HR.out]; rintro e' wb ⟨rfl, hdr⟩; have hfa := hdr.frm; have hnow : PS w wb G1 G2 b' a1 ee' (.slice A' l'.length cap') l' := hnow.frm_ hfa))
                go_wp2_with fail
                go_roundg (len2 - (k + 1))
                case measure => exact meas_lt hgk hlt
                case rel => exact ⟨k + 1, _, _, _, _, by omega, rfl, by go_num, hnow⟩
          · obtain rfl : k = len2 := by omega
            go_wp2_with fail
            go_ret
            exact ⟨rfl, hps.frm.below (Nat.le_refl _) (by simp)⟩
  · clear hB w2
    go_wp2_with fail
    go_ret
    exact ⟨rfl, hf1.below (Nat.le_refl _) (by simp)⟩

set_option maxRecDepth 100000 in
theorem lifted (os : Os) (started : os.Started) (H : Type) (enc : TypeId × Value → H) :
    ReturnsInHanded {} Try.checked os 4 .any (Rows.sbufPlaysSpec.pre6 enc Try.prog Try.f4 Rows.sbufPlaysRow.domain false) (Rows.sbufPlaysSpec.post enc Try.prog Try.f4 false true false false) := by
  refine returnsInHanded_of_change (C := Try.checked) own started (by kernel_rfl) Try.func4
    (ChangeSpec.witness6 (enc := enc) (C := Try.checked) false ⟨#[], #[.int .u32 0, .int .i64 0, .slice none 0 0], []⟩ 8 (by kernel_rfl) (by kernel_rfl) (by kernel_rfl) (by kernel_rfl)) ?_
  intro W base args ds gs before hval0 hW hcnd _
  have hval : ∀ (j : Nat) t v, Try.f4.params[j]? = some t → args[j]? = some v → Value.okWide Try.prog W .any base t v := hval0
  have hW' := hW
  obtain ⟨p, q, hA0, hV, rfl, hfz, hnd⟩ := hW
  have hA : DataW.TrodAll enc Try.prog W 0 (fun _ => true) true Try.f4.params.toList args.toList ds p := hA0
  rw [Try.params4] at hA hval
  obtain ⟨v0, vs0, d0, ds0, p0, q0, hargs, rfl, rfl, h0, r0⟩ := trodAll_cons hA
  obtain ⟨v1, vs1, d1, ds1, p1, q1, rfl, rfl, rfl, h1, r1⟩ := trodAll_cons r0
  obtain ⟨v2, vs2, d2, ds2, p2, q2, rfl, rfl, rfl, h2, r2⟩ := trodAll_cons r1
  obtain ⟨rfl, rfl, rfl⟩ := trodAll_nil r2
  obtain rfl : args = #[v0, v1, v2] := by cases args; simp_all
  obtain ⟨rfl, rfl⟩ := trodVars_none hV
  obtain ⟨a0, rfl, rfl, rfl, w0⟩ := open_int Try.underlying26 (hval 0 26 v0 rfl rfl) h0
  obtain ⟨a1, rfl, rfl, rfl, w1⟩ := open_int Try.underlying3 (hval 1 3 v1 rfl rfl) h1
  obtain ⟨a2, len2, cap2, rfl⟩ := okWide_slice Try.underlying32 (hval 2 32 v2 rfl rfl)
  have k2 := h2
  have lt2 : ∀ x ∈ p2, x.block < W.heap.size := by obtain ⟨m, hm⟩ := k2; exact DataW.trod_lt m _ _ _ hm
  obtain ⟨z2, w2⟩ := acts_open h2
  clear hA0 hval0
  refine (walk a0 a1 a2 len2 cap2 W w0 w1 z2 w2).mono fun e W' ⟨he, bel⟩ => ?_
  subst he
  exact ⟨_, rfl, _, _, _, [], _, [], hW', trodAll_mk1 (shut_bool Try.underlying4 _), (trodAll_cons_mk (shut_int Try.underlying26 w0) (trodAll_cons_mk (shut_int Try.underlying3 w1) (trodAll_cons_mk (Below.trod laidOut (by kernel_rfl) (of_decide_eq_true (by kernel_rfl)) k2 bel lt2) trodAll_mk0))), rfl, bel.frame _, fun h => by cases h⟩

theorem over : Rows.sbufPlaysRow.holds Try.pinned (OpenSpec.ofChange Rows.sbufPlaysSpec) :=
  OpenClaim.holds_of_wide 4 Try.f4 rfl rfl rfl rfl rfl rfl rfl ⟨rfl, rfl, rfl, rfl, rfl⟩ rfl rfl rfl rfl rfl (by kernel_rfl) Try.func4 (by kernel_rfl)
    (of_decide_eq_true (by kernel_rfl)) (by unfold Func.isWrapper; first | (rw [if_pos (by decide +kernel)]; kernel_rfl) | (rw [if_neg (by decide +kernel)]; exact ⟨rfl, rfl⟩))
    (fun os started H enc _ => lifted os started H enc)

theorem proved : Rows.SbufPlaysSaid := over
#print axioms proved
end Go.Proofs.Ytljgmlgdafijcaa.sbufPlays
