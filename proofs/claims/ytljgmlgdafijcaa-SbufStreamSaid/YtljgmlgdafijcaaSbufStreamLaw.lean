/- Proved: the statement Rows.SbufStreamSaid: for every input the Go function blockyardlaw13.SbufStream returns true and leaves its arguments as they were. Conditions: none beyond the row's own. -/
import Derived.Test.YtljgmlgdafijcaaRows
import Derived.Test.YtljgmlgdafijcaaSbufGreat
import Derived.Test.YtljgmlgdafijcaaSbufStreamPlain
import Derived.WalkKit
import Derived.ProofKit
import Derived.OpenShut
import Derived.ShutString
import Derived.ChangeOld
import Derived.Below
namespace Go.Proofs.Ytljgmlgdafijcaa.sbufStream
open Go.ChangeShapes Go.WideShapes Go.ChangeAt Go.RowKit
open Go.ChangeMaps (open_string shut_string)
set_option linter.unusedVariables false

theorem own : ownKnob Try.prog.godebug = none := by kernel_rfl
theorem laidOut : laidOutB Try.prog = true := by kernel_rfl

theorem meas_lt {gk len k : Nat} (h : gk = len - k) (h2 : k < len) : len - (k + 1) < gk := by omega
set_option maxRecDepth 100000 in
set_option maxHeartbeats 2000000 in
theorem walk (a0 : Int) (a1 : Int) (a2 : Option Addr) (len2 cap2 : Nat) (w : World) (w0 : (Lit.int .u32 a0).wf = true) (w1 : (Lit.int .u16 a1).wf = true) (z2 : _) (w2 : Acts w a2 len2 cap2 z2) : Calls Try.prog 6 #[.int .u32 a0, .int .u16 a1, .slice a2 len2 cap2] w fun e w' => e = .returned (.bool true) ∧ Below w.heap.size w w' := by
  obtain ⟨u0, u1⟩ := u32_of_wf w0
  obtain ⟨r0, r1⟩ := u16_of_wf w1
  clear w0 w1
  go_enter Try.func6, Try.ntmps6
  go_wp2_with (go_at_call 12; refine (awake_any _).mono ?_; rintro e w1 ⟨rfl, hf1⟩)
  refine (great_any a2 len2 cap2 z2 _ w w2 hf1).mono ?_
  rintro e w1' ⟨B, rfl, hB, rfl⟩
  rcases B with _ | _
  · obtain ⟨hB1, hB2⟩ := hB rfl
    clear hB
    obtain ⟨hlc, hcm, hel⟩ := w2
    have hlm : cap2 ≤ 9223372036854775807 := hcm
    clear hcm
    have q1 : 1 ≤ 1 + a1 % 300 := by omega
    have q2 : 1 + a1 % 300 ≤ 300 := by omega
    have q3 : 1 + a1 % 300 ≤ 2048 := by omega
    have ho0 := SB.new_ok q1 q3 u0 u1
    go_wp2_with fail
    refine (snew_ok _ _ _ q1 q3).mono ?_
    rintro e wa ⟨rfl, hb0, hf0⟩
    have hsi0 : SI a0 (1 + a1 % 300) [] 0 _ := ⟨ho0, Nat.le_refl _, rfl, by show a0 = (a0 + ((0 : Nat) : Int)) % 4294967296; omega, rfl⟩
    have hlt0 : w.heap.size ≤ w1.heap.size := hf1.size
    have hfr0 := hf1.next0 hf0
    clear ho0 hf0 hf1
    generalize hG1 : w1.heap.size = G1 at *
    clear hG1
    generalize hnn : 1 + a1 % 300 = nn at *
    clear hnn
    go_wp2_with fail
    go_loopg [10, 11, 12] (len2 - 0) (fun gk all gone i wr => ∃ (k : Nat) (A : List UInt8) (g : Nat) (b : SB), k ≤ len2 ∧ gk = len2 - k ∧ all = .string ⟨A.toArray⟩ ∧ gone = .int .i64 (g : Int) ∧ i = .int .i64 (k : Int) ∧ A.length ≤ tot z2 k ∧ SI a0 nn A g b ∧ Blk wr G1 45 b.cells ∧ Frm [] w wr)
    case atStart => exact ⟨0, [], 0, _, by omega, rfl, rfl, rfl, rfl, Nat.zero_le _, hsi0, hb0, hfr0⟩
    case round =>
      clear hsi0 hb0 hfr0
      obtain ⟨k, A, g, b, hk, hgk, rfl, rfl, rfl, hA, hsi, hb, hfr⟩ := hrel
      have hA2 : A.length ≤ 20000 := Nat.le_trans hA (Nat.le_trans (tot_mono z2 hk) hB2)
      have hgl := hsi.le
      by_cases hlt : k < len2
      · obtain ⟨bb, o, rfl, hbl, hat⟩ := hel (by omega)
        obtain ⟨c0, c1, c2, c3, c4, hN, hsm⟩ := hat k hlt
        have hts : tot z2 (k + 1) = tot z2 k + (z2 k).s.length := rfl
        have hts2 : tot z2 (k + 1) ≤ 20000 := Nat.le_trans (tot_mono z2 (by omega)) hB2
        have HTS := Lib.hid hts
        clear hts hat
        have d0 := (hfr.cell (p := ⟨bb, o + k * 5, none⟩) hbl (by simp)).trans c0
        have d1 := (hfr.cell (p := ⟨bb, o + k * 5 + 1, none⟩) hbl (by simp)).trans c1
        have d2 := (hfr.cell (p := ⟨bb, o + k * 5 + 2, none⟩) hbl (by simp)).trans c2
        have d3 := (hfr.cell (p := ⟨bb, o + k * 5 + 3, none⟩) hbl (by simp)).trans c3
        have d4 := (hfr.cell (p := ⟨bb, o + k * 5 + 4, none⟩) hbl (by simp)).trans c4
        clear c0 c1 c2 c3 c4
        generalize z2 k = x at *
        obtain ⟨xd, xn, xb, xm, xs⟩ := x
        simp only at d0 d1 d2 d3 d4 hN hsm
        obtain ⟨N, rfl⟩ := Int.eq_ofNat_of_zero_le hN.1
        have hsl : xs.length ≤ 9223372036854775807 := hsm
        have HSM := Lib.hid hsm
        clear hsm
        by_cases h0 : xd = 0
        · have k0 : (xd == 0) = true := by simpa using h0
          clear h0 hN
          obtain ⟨s1, s2, s3⟩ := hsi.write xs
          have HS3 := Lib.hid s3
          clear s3
          go_wp2_with fail
          refine (swrite_blk G1 b xs _ hsi.ok HSM.out (hb.alloc _)).mono ?_
          rintro e wz ⟨rfl, hb9, hf9⟩
          have hfr9 := (hfr.alloc _).next1 hf9 (.inr hlt0)
          have hxa := Blk.new_at (w := wr) rfl 38 #[.int .i64 xd, .int .u32 N, .bool xb, .int .i64 xm, .string ⟨xs.toArray⟩]
          have hxb := hxa.frm hf9 (by have := hb.lt; simp; omega)
          obtain ⟨rc, rf⟩ := hxb.rules
          have s3 := HS3.out
          generalize b.fits xs = F at *
          generalize b.write xs = b' at *
          have hcat : (⟨A.toArray⟩ : ByteArray) ++ (⟨xs.toArray⟩ : ByteArray).extract 0 F = ⟨(A ++ xs.take F).toArray⟩ := by rw [ba_extract, ba_append]; rfl
          have hA9 : (A ++ xs.take F).length ≤ tot z2 (k + 1) := by
            have := HTS.out
            rw [List.length_append, List.length_take]
            omega
          obtain ⟨A9, hA9e⟩ : ∃ A9, A ++ xs.take F = A9 := ⟨_, rfl⟩
          rw [hA9e] at s1 hcat hA9
          have hA92 : A9.length ≤ 20000 := by omega
          have hsi9 := s1
          clear s1 HS3 hb hfr hf9 hxa hxb hA9e hsi
          have F0 : (0 : Int) ≤ (F : Int) := by omega
          have hlen := hsi9.len
          have huna := hsi9.una
          have hend := hsi9.end_
          have hroom := hsi9.room
          have hok9 := hsi9.ok
          have hl9 := hsi9.le
          have HLEN := Lib.hid hlen
          have HUNA := Lib.hid huna
          have HEND := Lib.hid hend
          have HROOM := Lib.hid hroom
          have HSI := Lib.hid hsi9
          clear hlen huna hend hroom hsi9
          go_wp2_with fail
          refine (suna_blk G1 _ _ hok9 hb9).mono ?_
          rintro e w' ⟨rfl, rfl⟩
          rw [HUNA.out]
          go_wp2_with fail
          refine (send_blk G1 _ _ hok9 hb9).mono ?_
          rintro e w' ⟨rfl, rfl⟩
          rw [HEND.out]
          go_wp2_with fail
          refine (slen_blk G1 _ _ hok9 hb9).mono ?_
          rintro e w' ⟨rfl, rfl⟩
          rw [HLEN.out]
          go_wp2_with fail
          refine (slen_blk G1 _ _ hok9 hb9).mono ?_
          rintro e w' ⟨rfl, rfl⟩
          rw [HLEN.out]
          go_wp2_with fail
          refine (sroom_blk G1 _ _ hok9 hb9).mono ?_
          rintro e wz2 ⟨rfl, hdz⟩
          have hb10 := hdz.blk hb9
          have hfr10 := hdz.next hfr9
          rw [HLEN.out, HROOM.out]
          have e10 : ((A9.length : Int) - (g : Nat)) + (nn - ((A9.length : Int) - (g : Nat))) = nn := by omega
          clear hb9 hfr9 hdz d0 d1 d2 d3 d4
          go_wp2_with fail
          go_roundg (len2 - (k + 1))
          case measure => exact meas_lt hgk hlt
          case rel => exact ⟨k + 1, A9, g, b', by omega, rfl, rfl, rfl, by go_num, hA9, HSI.out, hb10, hfr10⟩
        by_cases h1 : xd = 1
        · subst h1
          have hNN : (N : Int) < 4294967296 := hN.2
          obtain ⟨s1, s2⟩ := hsi.ack' hNN
          by_cases hc : g + N ≤ A.length
          · rw [if_pos hc] at s1 s2
            have hci : (N : Int) ≤ (A.length : Int) - (g : Int) := by omega
            have hgN : (g : Int) + (N : Int) = ((g + N : Nat) : Int) := by omega
            have hgN1 : g + N ≤ A.length := hc
            generalize g + N = g' at s2 hgN hgN1
            have HS1 := Lib.hid s1
            have HS2 := Lib.hid s2
            clear s1 s2 h0 hN hNN hc
            go_wp2_with fail
            refine (sack_blk G1 b _ _ hsi.ok (hb.alloc _)).mono ?_
            rintro e wz ⟨rfl, hb9, hf9⟩
            have hfr9 := (hfr.alloc _).next1 hf9 (.inr hlt0)
            have hxa := Blk.new_at (w := wr) rfl 38 #[.int .i64 1, .int .u32 N, .bool xb, .int .i64 xm, .string ⟨xs.toArray⟩]
            have hxb := hxa.frm hf9 (by have := hb.lt; simp; omega)
            obtain ⟨rc, rf⟩ := hxb.rules
            rw [HS1.out]
            generalize b.ack ((a0 + (g : Int) + (N : Int)) % 4294967296) = b' at *
            have hsi9 := HS2.out
            have hA9 : A.length ≤ tot z2 (k + 1) := by have := HTS.out; omega
            clear HS1 HS2 hb hfr hf9 hxa hxb hsi
            have hlen := hsi9.len
            have huna := hsi9.una
            have hend := hsi9.end_
            have hroom := hsi9.room
            have hok9 := hsi9.ok
            have hl9 := hsi9.le
            have HLEN := Lib.hid hlen
            have HUNA := Lib.hid huna
            have HEND := Lib.hid hend
            have HROOM := Lib.hid hroom
            have HSI := Lib.hid hsi9
            clear hlen huna hend hroom hsi9
            go_wp2_with fail
            refine (suna_blk G1 _ _ hok9 hb9).mono ?_
            rintro e w' ⟨rfl, rfl⟩
            rw [HUNA.out]
            go_wp2_with fail
            refine (send_blk G1 _ _ hok9 hb9).mono ?_
            rintro e w' ⟨rfl, rfl⟩
            rw [HEND.out]
            go_wp2_with fail
            refine (slen_blk G1 _ _ hok9 hb9).mono ?_
            rintro e w' ⟨rfl, rfl⟩
            rw [HLEN.out]
            go_wp2_with fail
            refine (slen_blk G1 _ _ hok9 hb9).mono ?_
            rintro e w' ⟨rfl, rfl⟩
            rw [HLEN.out]
            go_wp2_with fail
            refine (sroom_blk G1 _ _ hok9 hb9).mono ?_
            rintro e wz2 ⟨rfl, hdz⟩
            have hb10 := hdz.blk hb9
            have hfr10 := hdz.next hfr9
            rw [HLEN.out, HROOM.out]
            have e10 : ((A.length : Int) - (g' : Nat)) + (nn - ((A.length : Int) - (g' : Nat))) = nn := by omega
            clear hb9 hfr9 hdz
            go_wp2_with fail
            go_roundg (len2 - (k + 1))
            case measure => exact meas_lt hgk hlt
            case rel => exact ⟨k + 1, A, g', b', by omega, rfl, rfl, rfl, by go_num, hA9, HSI.out, hb10, hfr10⟩
          · rw [if_neg hc] at s1 s2
            have s1i : ((b.gone ((a0 + (g : Int) + (N : Int)) % 4294967296) : Nat) : Int) = 0 := by rw [s1]; rfl
            have hci : (A.length : Int) - (g : Int) < (N : Int) := by omega
            have hcd : decide ((N : Int) ≤ (A.length : Int) - (g : Int)) = false := by simp; omega
            have HS1 := Lib.hid s1i
            have HS2 := Lib.hid s2
            clear s1 s1i s2 h0 hNN hc
            obtain ⟨hn0, hn1⟩ := hN
            generalize (N : Int) = xn at *
            go_wp2_with fail
            refine (sack_blk G1 b _ _ hsi.ok (hb.alloc _)).mono ?_
            rintro e wz ⟨rfl, hb9, hf9⟩
            have hfr9 := (hfr.alloc _).next1 hf9 (.inr hlt0)
            have hxa := Blk.new_at (w := wr) rfl 38 #[.int .i64 1, .int .u32 xn, .bool xb, .int .i64 xm, .string ⟨xs.toArray⟩]
            have hxb := hxa.frm hf9 (by have := hb.lt; simp; omega)
            obtain ⟨rc, rf⟩ := hxb.rules
            rw [HS1.out]
            generalize b.ack ((a0 + (g : Int) + xn) % 4294967296) = b' at *
            have hsi9 := HS2.out
            have hA9 : A.length ≤ tot z2 (k + 1) := by have := HTS.out; omega
            clear HS1 HS2 hb hfr hf9 hxa hxb hsi
            have hlen := hsi9.len
            have huna := hsi9.una
            have hend := hsi9.end_
            have hroom := hsi9.room
            have hok9 := hsi9.ok
            have hl9 := hsi9.le
            have HLEN := Lib.hid hlen
            have HUNA := Lib.hid huna
            have HEND := Lib.hid hend
            have HROOM := Lib.hid hroom
            have HSI := Lib.hid hsi9
            clear hlen huna hend hroom hsi9
            go_wp2_with fail
            refine (suna_blk G1 _ _ hok9 hb9).mono ?_
            rintro e w' ⟨rfl, rfl⟩
            rw [HUNA.out]
            go_wp2_with fail
            refine (send_blk G1 _ _ hok9 hb9).mono ?_
            rintro e w' ⟨rfl, rfl⟩
            rw [HEND.out]
            go_wp2_with fail
            refine (slen_blk G1 _ _ hok9 hb9).mono ?_
            rintro e w' ⟨rfl, rfl⟩
            rw [HLEN.out]
            go_wp2_with fail
            refine (slen_blk G1 _ _ hok9 hb9).mono ?_
            rintro e w' ⟨rfl, rfl⟩
            rw [HLEN.out]
            go_wp2_with fail
            refine (sroom_blk G1 _ _ hok9 hb9).mono ?_
            rintro e wz2 ⟨rfl, hdz⟩
            have hb10 := hdz.blk hb9
            have hfr10 := hdz.next hfr9
            rw [HLEN.out, HROOM.out]
            have e10 : ((A.length : Int) - (g : Nat)) + (nn - ((A.length : Int) - (g : Nat))) = nn := by omega
            clear hb9 hfr9 hdz
            go_wp2_with fail
            go_roundg (len2 - (k + 1))
            case measure => exact meas_lt hgk hlt
            case rel => exact ⟨k + 1, A, g, b', by omega, rfl, rfl, rfl, by go_num, hA9, HSI.out, hb10, hfr10⟩
        by_cases h2 : xd = 2
        · subst h2
          have hNr : N % 400 < 400 := Nat.mod_lt _ (by omega)
          have eN : (N : Int) % 400 = ((N % 400 : Nat) : Int) := by omega
          generalize N % 400 = R at *
          have hg1 := hsi.get xm hNr hA2
          rw [show (a0 + ((g + R : Nat) : Int)) = a0 + ((g : Int) + (R : Int)) from by omega] at hg1
          have hok := hsi.ok
          have hA9 : A.length ≤ tot z2 (k + 1) := by have := HTS.out; omega
          have hsi9 := hsi
          clear hsi h0 h1 hN
          by_cases hc : g + R < A.length ∧ 0 < xm
          · rw [if_pos hc] at hg1
            obtain ⟨hc1, hc2⟩ := hc
            have eM1 : (if (100000 : Int) < xm then 100000 else xm) = (((min xm 100000).toNat : Nat) : Int) := by split <;> omega
            generalize (min xm 100000).toNat = T1 at *
            have hci1 : (g : Int) + (R : Int) < (A.length : Int) := by omega
            have eM2 : (if (g : Int) + (R : Int) + (T1 : Int) < (A.length : Int) then (g : Int) + (R : Int) + (T1 : Int) else (A.length : Int)) = ((min A.length (g + R + T1) : Nat) : Int) := by split <;> omega
            have hm1 : g + R ≤ min A.length (g + R + T1) := by omega
            have hm2 : min A.length (g + R + T1) ≤ A.length := by omega
            generalize min A.length (g + R + T1) = M at *
            have hex : (⟨A.toArray⟩ : ByteArray).extract (g + R) M = ⟨((A.drop (g + R)).take (M - (g + R))).toArray⟩ := ba_extract _ _ _
            have HG := Lib.hid hg1
            clear hg1
            go_wp2_with fail
            refine (sget_blk G1 b _ _ _ hok (hb.alloc _)).mono ?_
            rintro e wz ⟨rfl, hdw⟩
            have hb9 := hdw.blk (hb.alloc (.cells #[.int .i64 2, .int .u32 N, .bool xb, .int .i64 xm, .string ⟨xs.toArray⟩] 38))
            have hfr9 := hdw.next (hfr.alloc _)
            rw [HG.out]
            clear hb hfr hdw HG
            have hlen := hsi9.len
            have huna := hsi9.una
            have hend := hsi9.end_
            have hroom := hsi9.room
            have hok9 := hsi9.ok
            have hl9 := hsi9.le
            have HLEN := Lib.hid hlen
            have HUNA := Lib.hid huna
            have HEND := Lib.hid hend
            have HROOM := Lib.hid hroom
            have HSI := Lib.hid hsi9
            clear hlen huna hend hroom hsi9
            go_wp2_with fail
            refine (suna_blk G1 _ _ hok9 hb9).mono ?_
            rintro e w' ⟨rfl, rfl⟩
            rw [HUNA.out]
            go_wp2_with fail
            refine (send_blk G1 _ _ hok9 hb9).mono ?_
            rintro e w' ⟨rfl, rfl⟩
            rw [HEND.out]
            go_wp2_with fail
            refine (slen_blk G1 _ _ hok9 hb9).mono ?_
            rintro e w' ⟨rfl, rfl⟩
            rw [HLEN.out]
            go_wp2_with fail
            refine (slen_blk G1 _ _ hok9 hb9).mono ?_
            rintro e w' ⟨rfl, rfl⟩
            rw [HLEN.out]
            go_wp2_with fail
            refine (sroom_blk G1 _ _ hok9 hb9).mono ?_
            rintro e wz2 ⟨rfl, hdz⟩
            have hb10 := hdz.blk hb9
            have hfr10 := hdz.next hfr9
            rw [HLEN.out, HROOM.out]
            have e10 : ((A.length : Int) - (g : Nat)) + (nn - ((A.length : Int) - (g : Nat))) = nn := by omega
            clear hb9 hfr9 hdz
            go_wp2_with fail
            go_roundg (len2 - (k + 1))
            case measure => exact meas_lt hgk hlt
            case rel => exact ⟨k + 1, A, g, b, by omega, rfl, rfl, rfl, by go_num, hA9, HSI.out, hb10, hfr10⟩
          · rw [if_neg hc] at hg1
            have HG := Lib.hid hg1
            clear hg1
            by_cases hc1 : g + R < A.length
            · have hc2 : ¬ 0 < xm := fun h => hc ⟨hc1, h⟩
              have hci1 : (g : Int) + (R : Int) < (A.length : Int) := by omega
              clear hc
              go_wp2_with fail
              refine (sget_blk G1 b _ _ _ hok (hb.alloc _)).mono ?_
              rintro e wz ⟨rfl, hdw⟩
              have hb9 := hdw.blk (hb.alloc (.cells #[.int .i64 2, .int .u32 N, .bool xb, .int .i64 xm, .string ⟨xs.toArray⟩] 38))
              have hfr9 := hdw.next (hfr.alloc _)
              rw [HG.out]
              clear hb hfr hdw HG
              have hlen := hsi9.len
              have huna := hsi9.una
              have hend := hsi9.end_
              have hroom := hsi9.room
              have hok9 := hsi9.ok
              have hl9 := hsi9.le
              have HLEN := Lib.hid hlen
              have HUNA := Lib.hid huna
              have HEND := Lib.hid hend
              have HROOM := Lib.hid hroom
              have HSI := Lib.hid hsi9
              clear hlen huna hend hroom hsi9
              go_wp2_with fail
              refine (suna_blk G1 _ _ hok9 hb9).mono ?_
              rintro e w' ⟨rfl, rfl⟩
              rw [HUNA.out]
              go_wp2_with fail
              refine (send_blk G1 _ _ hok9 hb9).mono ?_
              rintro e w' ⟨rfl, rfl⟩
              rw [HEND.out]
              go_wp2_with fail
              refine (slen_blk G1 _ _ hok9 hb9).mono ?_
              rintro e w' ⟨rfl, rfl⟩
              rw [HLEN.out]
              go_wp2_with fail
              refine (slen_blk G1 _ _ hok9 hb9).mono ?_
              rintro e w' ⟨rfl, rfl⟩
              rw [HLEN.out]
              go_wp2_with fail
              refine (sroom_blk G1 _ _ hok9 hb9).mono ?_
              rintro e wz2 ⟨rfl, hdz⟩
              have hb10 := hdz.blk hb9
              have hfr10 := hdz.next hfr9
              rw [HLEN.out, HROOM.out]
              have e10 : ((A.length : Int) - (g : Nat)) + (nn - ((A.length : Int) - (g : Nat))) = nn := by omega
              clear hb9 hfr9 hdz
              go_wp2_with fail
              go_roundg (len2 - (k + 1))
              case measure => exact meas_lt hgk hlt
              case rel => exact ⟨k + 1, A, g, b, by omega, rfl, rfl, rfl, by go_num, hA9, HSI.out, hb10, hfr10⟩
            · have hci1 : ¬ (g : Int) + (R : Int) < (A.length : Int) := by omega
              clear hc
              go_wp2_with fail
              refine (sget_blk G1 b _ _ _ hok (hb.alloc _)).mono ?_
              rintro e wz ⟨rfl, hdw⟩
              have hb9 := hdw.blk (hb.alloc (.cells #[.int .i64 2, .int .u32 N, .bool xb, .int .i64 xm, .string ⟨xs.toArray⟩] 38))
              have hfr9 := hdw.next (hfr.alloc _)
              rw [HG.out]
              clear hb hfr hdw HG
              have hlen := hsi9.len
              have huna := hsi9.una
              have hend := hsi9.end_
              have hroom := hsi9.room
              have hok9 := hsi9.ok
              have hl9 := hsi9.le
              have HLEN := Lib.hid hlen
              have HUNA := Lib.hid huna
              have HEND := Lib.hid hend
              have HROOM := Lib.hid hroom
              have HSI := Lib.hid hsi9
              clear hlen huna hend hroom hsi9
              go_wp2_with fail
              refine (suna_blk G1 _ _ hok9 hb9).mono ?_
              rintro e w' ⟨rfl, rfl⟩
              rw [HUNA.out]
              go_wp2_with fail
              refine (send_blk G1 _ _ hok9 hb9).mono ?_
              rintro e w' ⟨rfl, rfl⟩
              rw [HEND.out]
              go_wp2_with fail
              refine (slen_blk G1 _ _ hok9 hb9).mono ?_
              rintro e w' ⟨rfl, rfl⟩
              rw [HLEN.out]
              go_wp2_with fail
              refine (slen_blk G1 _ _ hok9 hb9).mono ?_
              rintro e w' ⟨rfl, rfl⟩
              rw [HLEN.out]
              go_wp2_with fail
              refine (sroom_blk G1 _ _ hok9 hb9).mono ?_
              rintro e wz2 ⟨rfl, hdz⟩
              have hb10 := hdz.blk hb9
              have hfr10 := hdz.next hfr9
              rw [HLEN.out, HROOM.out]
              have e10 : ((A.length : Int) - (g : Nat)) + (nn - ((A.length : Int) - (g : Nat))) = nn := by omega
              clear hb9 hfr9 hdz
              go_wp2_with fail
              go_roundg (len2 - (k + 1))
              case measure => exact meas_lt hgk hlt
              case rel => exact ⟨k + 1, A, g, b, by omega, rfl, rfl, rfl, by go_num, hA9, HSI.out, hb10, hfr10⟩
        · have k0 : (xd == 0) = false := by simpa using h0
          have k1 : (xd == 1) = false := by simpa using h1
          have k2 : (xd == 2) = false := by simpa using h2
          have hA9 : A.length ≤ tot z2 (k + 1) := by have := HTS.out; omega
          have hfr9 := hfr.alloc (.cells #[.int .i64 xd, .int .u32 N, .bool xb, .int .i64 xm, .string ⟨xs.toArray⟩] 38)
          have hb9 := hb.alloc (.cells #[.int .i64 xd, .int .u32 N, .bool xb, .int .i64 xm, .string ⟨xs.toArray⟩] 38)
          have hsi9 := hsi
          clear h0 h1 h2 hN hsi hb hfr
          have hlen := hsi9.len
          have huna := hsi9.una
          have hend := hsi9.end_
          have hroom := hsi9.room
          have hok9 := hsi9.ok
          have hl9 := hsi9.le
          have HLEN := Lib.hid hlen
          have HUNA := Lib.hid huna
          have HEND := Lib.hid hend
          have HROOM := Lib.hid hroom
          have HSI := Lib.hid hsi9
          clear hlen huna hend hroom hsi9
          go_wp2_with fail
          refine (suna_blk G1 _ _ hok9 hb9).mono ?_
          rintro e w' ⟨rfl, rfl⟩
          rw [HUNA.out]
          go_wp2_with fail
          refine (send_blk G1 _ _ hok9 hb9).mono ?_
          rintro e w' ⟨rfl, rfl⟩
          rw [HEND.out]
          go_wp2_with fail
          refine (slen_blk G1 _ _ hok9 hb9).mono ?_
          rintro e w' ⟨rfl, rfl⟩
          rw [HLEN.out]
          go_wp2_with fail
          refine (slen_blk G1 _ _ hok9 hb9).mono ?_
          rintro e w' ⟨rfl, rfl⟩
          rw [HLEN.out]
          go_wp2_with fail
          refine (sroom_blk G1 _ _ hok9 hb9).mono ?_
          rintro e wz2 ⟨rfl, hdz⟩
          have hb10 := hdz.blk hb9
          have hfr10 := hdz.next hfr9
          rw [HLEN.out, HROOM.out]
          have e10 : ((A.length : Int) - (g : Nat)) + (nn - ((A.length : Int) - (g : Nat))) = nn := by omega
          clear hb9 hfr9 hdz d0 d1 d2 d3 d4
          go_wp2_with fail
          go_roundg (len2 - (k + 1))
          case measure => exact meas_lt hgk hlt
          case rel => exact ⟨k + 1, A, g, b, by omega, rfl, rfl, rfl, by go_num, hA9, HSI.out, hb10, hfr10⟩
      · have hget := hsi.all
        have hu := hsi.una
        have hgA : (g : Int) ≤ (A.length : Int) := by omega
        have hg0 : (0 : Int) ≤ (g : Int) := by omega
        have hex : (⟨A.toArray⟩ : ByteArray).extract g A.length = ⟨(A.drop g).toArray⟩ := by rw [ba_extract, List.take_of_length_le (by simp)]
        have HU := Lib.hid hu
        have hok := hsi.ok
        clear hu hsi hA
        go_wp2_with fail
        go_quiet ((first | (go_at_call 20; exact quiet_left (suna_blk G1 b _ hok (hb.drewN _))) | (go_at_call 10; exact Drw.quiet (sget_blk G1 b _ _ _ hok (hb.drewN _)))))
        go_wp2_with fail
        go_ret
        exact ⟨rfl, (hfr.drewN _).below (Nat.le_refl _) (by simp)⟩
  · clear hB w2
    go_wp2_with fail
    go_ret
    exact ⟨rfl, hf1.below (Nat.le_refl _) (by simp)⟩

set_option maxRecDepth 100000 in
theorem lifted (os : Os) (started : os.Started) (H : Type) (enc : TypeId × Value → H) :
    ReturnsInHanded {} Try.checked os 6 .any (Rows.sbufStreamSpec.pre6 enc Try.prog Try.f6 Rows.sbufStreamRow.domain false) (Rows.sbufStreamSpec.post enc Try.prog Try.f6 false true false false) := by
  refine returnsInHanded_of_change (C := Try.checked) own started (by kernel_rfl) Try.func6
    (ChangeSpec.witness6 (enc := enc) (C := Try.checked) false ⟨#[], #[.int .u32 0, .int .u16 0, .slice none 0 0], []⟩ 8 (by kernel_rfl) (by kernel_rfl) (by kernel_rfl) (by kernel_rfl)) ?_
  intro W base args ds gs before hval0 hW hcnd _
  have hval : ∀ (j : Nat) t v, Try.f6.params[j]? = some t → args[j]? = some v → Value.okWide Try.prog W .any base t v := hval0
  have hW' := hW
  obtain ⟨p, q, hA0, hV, rfl, hfz, hnd⟩ := hW
  have hA : DataW.TrodAll enc Try.prog W 0 (fun _ => true) true Try.f6.params.toList args.toList ds p := hA0
  rw [Try.params6] at hA hval
  obtain ⟨v0, vs0, d0, ds0, p0, q0, hargs, rfl, rfl, h0, r0⟩ := trodAll_cons hA
  obtain ⟨v1, vs1, d1, ds1, p1, q1, rfl, rfl, rfl, h1, r1⟩ := trodAll_cons r0
  obtain ⟨v2, vs2, d2, ds2, p2, q2, rfl, rfl, rfl, h2, r2⟩ := trodAll_cons r1
  obtain ⟨rfl, rfl, rfl⟩ := trodAll_nil r2
  obtain rfl : args = #[v0, v1, v2] := by cases args; simp_all
  obtain ⟨rfl, rfl⟩ := trodVars_none hV
  obtain ⟨a0, rfl, rfl, rfl, w0⟩ := open_int Try.underlying26 (hval 0 26 v0 rfl rfl) h0
  obtain ⟨a1, rfl, rfl, rfl, w1⟩ := open_int Try.underlying47 (hval 1 47 v1 rfl rfl) h1
  obtain ⟨a2, len2, cap2, rfl⟩ := okWide_slice Try.underlying32 (hval 2 32 v2 rfl rfl)
  have k2 := h2
  have lt2 : ∀ x ∈ p2, x.block < W.heap.size := by obtain ⟨m, hm⟩ := k2; exact DataW.trod_lt m _ _ _ hm
  obtain ⟨z2, w2⟩ := acts_open h2
  clear hA0 hval0
  refine (walk a0 a1 a2 len2 cap2 W w0 w1 z2 w2).mono fun e W' ⟨he, bel⟩ => ?_
  subst he
  exact ⟨_, rfl, _, _, _, [], _, [], hW', trodAll_mk1 (shut_bool Try.underlying4 _), (trodAll_cons_mk (shut_int Try.underlying26 w0) (trodAll_cons_mk (shut_int Try.underlying47 w1) (trodAll_cons_mk (Below.trod laidOut (by kernel_rfl) (of_decide_eq_true (by kernel_rfl)) k2 bel lt2) trodAll_mk0))), rfl, bel.frame _, fun h => by cases h⟩

theorem over : Rows.sbufStreamRow.holds Try.pinned (OpenSpec.ofChange Rows.sbufStreamSpec) :=
  OpenClaim.holds_of_wide 6 Try.f6 rfl rfl rfl rfl rfl rfl rfl ⟨rfl, rfl, rfl, rfl, rfl⟩ rfl rfl rfl rfl rfl (by kernel_rfl) Try.func6 (by kernel_rfl)
    (of_decide_eq_true (by kernel_rfl)) (by unfold Func.isWrapper; first | (rw [if_pos (by decide +kernel)]; kernel_rfl) | (rw [if_neg (by decide +kernel)]; exact ⟨rfl, rfl⟩))
    (fun os started H enc _ => lifted os started H enc)

theorem proved : Rows.SbufStreamSaid := over
#print axioms proved
end Go.Proofs.Ytljgmlgdafijcaa.sbufStream
