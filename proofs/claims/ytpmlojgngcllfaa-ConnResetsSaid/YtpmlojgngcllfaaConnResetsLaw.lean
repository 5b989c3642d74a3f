/- Proved: the statement Rows.ConnResetsSaid: for every input the Go function blockyardlaw15.ConnResets returns true and leaves its arguments as they were. Conditions: none beyond the row's own. -/
import Derived.Test.YtpmlojgngcllfaaRows
import Derived.Test.YtpmlojgngcllfaaConnResetsP
import Derived.WalkKit
import Derived.ProofKit
import Derived.OpenShut
import Derived.ShutString
import Derived.ChangeOld
import Derived.Below
namespace Go.Proofs.Ytpmlojgngcllfaa.connResets
open Go.ChangeShapes Go.WideShapes Go.ChangeAt Go.RowKit
open Go.ChangeMaps (open_string shut_string)
set_option linter.unusedVariables false

theorem own : ownKnob Try.prog.godebug = none := by kernel_rfl
theorem laidOut : laidOutB Try.prog = true := by kernel_rfl

theorem meas_lt {gk len k : Nat} (h : gk = len - k) (h2 : k < len) : len - (k + 1) < gk := by omega
theorem meas_lt2 {gk n j : Nat} (h : gk = n - j) (h2 : j < n) : n - (j + 1) < gk := by omega
def tame (s : Sg) (wd : Int) : Sg := { s with flags := bits .andNot .i64 s.flags 4, window := wd }
theorem tame_ok {s : Sg} (h : s.In) (hd : s.data.length ≤ 30000) {wd : Int} (w0 : 0 ≤ wd) (w1 : wd ≤ 65535) : (tame s wd).Ok := ⟨h.s.1, h.s.2, h.a.1, h.a.2, w0, w1, by show s.data.length ≤ 1000000; omega⟩
set_option maxRecDepth 100000 in
set_option maxHeartbeats 4000000 in
theorem walk (a0 : Option Addr) (len0 cap0 : Nat) (a1 : Int) (w : World) (z0 : _) (w0 : Acts15 w a0 len0 cap0 z0) (w1 : (Lit.int .u32 a1).wf = true) : Calls Try.prog 6 #[.slice a0 len0 cap0, .int .u32 a1] w fun e w' => e = .returned (.bool true) ∧ Below w.heap.size w w' := by
  obtain ⟨u0, u1⟩ := u32_of_wf w1
  clear w1
  go_enter Try.func6, Try.ntmps6
  go_wp2_with fail
  refine (awake_any _).mono ?_
  rintro e w1 ⟨rfl, hf1⟩
  go_wp2_with fail
  refine (great_any a0 len0 cap0 z0 _ w w0 hf1).mono ?_
  rintro e w2 ⟨B, rfl, hB, hd2⟩
  have hf2 := hd2.next hf1
  clear hf1 hd2
  rcases B with _ | _
  · obtain ⟨hB1, hB2⟩ := hB rfl
    clear hB
    obtain ⟨hlc, hcm, hel⟩ := w0
    have hlm : cap0 ≤ 9223372036854775807 := hcm
    clear hcm
    go_wp2_with fail
    refine (syn_any _).mono ?_
    rintro e w3 ⟨rfl, hf3⟩
    go_wp2_with fail
    refine (how_any _).mono ?_
    rintro e w4 ⟨rfl, hf4⟩
    have hfa := (hf2.next0 hf3).next0 hf4
    go_wp2_with fail
    refine (cnew_ok sSyn 500 tHow _ newok_how).mono ?_
    intro e w5 hnew
    obtain ⟨g, fp5, rfl, hl5, -⟩ := Live.of_new hfa hnew
    have HFA := Lib.hid hfa
    have HEL := Lib.hid hel
    clear hnew hf2 hf3 hf4 hfa hel
    have hstart : ∃ (k : Nat) (fp : List Nat) (c : CN), k ≤ len0 ∧ len0 - 0 = len0 - k ∧ (Value.int .i64 0) = .int .i64 (k : Int) ∧ Live w4 w5 fp g c ∧ c.Inv (tot z0 k : Nat) ((19 * k : Nat) : Int) ∧ c.out.length ≤ 1 + 2051 * k := ⟨0, fp5, _, Nat.zero_le _, rfl, rfl, hl5, start_inv, Nat.le_of_eq start_out⟩
    clear hl5
    go_wp2_with fail
    go_loopg [7] (len0 - 0) (fun gk i wr => ∃ (k : Nat) (fp : List Nat) (c : CN), k ≤ len0 ∧ gk = len0 - k ∧ i = .int .i64 (k : Int) ∧ Live w4 wr fp g c ∧ c.Inv (tot z0 k : Nat) ((19 * k : Nat) : Int) ∧ c.out.length ≤ 1 + 2051 * k)
    case atStart => exact hstart
    case round =>
      clear hstart
      obtain ⟨k, fp, c, hk, hgk, rfl, hl, hi, ho⟩ := hrel
      have hTk : tot z0 k ≤ 30000 := Nat.le_trans (tot_mono z0 hk) hB2
      by_cases hlt : k < len0
      · obtain ⟨bb, oo, rfl, hbl, hat⟩ := HEL.out (by omega)
        obtain ⟨c0, cs, c9, c10, c11, hin, hwn, hdl⟩ := hat k hlt
        have hfr := HFA.out.next0 hl.frm
        have hts : tot z0 (k + 1) = tot z0 k + (z0 k).s.data.length + (z0 k).data.length := rfl
        have hts2 : tot z0 (k + 1) ≤ 30000 := Nat.le_trans (tot_mono z0 (by omega)) hB2
        have dd := fun (q : Nat) (u : Value) (h : w.cell? ⟨bb, q, none⟩ = some u) => (hfr.cell (p := ⟨bb, q, none⟩) hbl (by simp)).trans h
        have d0 := dd _ _ c0
        have d1 : wr.cell? ⟨bb, oo + k * 12 + 1, none⟩ = some _ := dd _ _ (cs 0 _ rfl)
        have d2 : wr.cell? ⟨bb, oo + k * 12 + 2, none⟩ = some _ := dd _ _ (cs 1 _ rfl)
        have d3 : wr.cell? ⟨bb, oo + k * 12 + 3, none⟩ = some _ := dd _ _ (cs 2 _ rfl)
        have d4 : wr.cell? ⟨bb, oo + k * 12 + 4, none⟩ = some _ := dd _ _ (cs 3 _ rfl)
        have d5 : wr.cell? ⟨bb, oo + k * 12 + 5, none⟩ = some _ := dd _ _ (cs 4 _ rfl)
        have d6 : wr.cell? ⟨bb, oo + k * 12 + 6, none⟩ = some _ := dd _ _ (cs 5 _ rfl)
        have d7 : wr.cell? ⟨bb, oo + k * 12 + 7, none⟩ = some _ := dd _ _ (cs 6 _ rfl)
        have d8 : wr.cell? ⟨bb, oo + k * 12 + 8, none⟩ = some _ := dd _ _ (cs 7 _ rfl)
        have d9 := dd _ _ c9
        have d10 := dd _ _ c10
        have d11 := dd _ _ c11
        have hsm : (z0 k).s.data.length ≤ 30000 := by omega
        have hdm : (z0 k).data.length ≤ 30000 := by omega
        have hc8 : c.out.length ≤ 800000 := by omega
        have hcalm := hi.calm (by omega)
        clear dd cs c0 c9 c10 c11 hat hfr
        obtain ⟨T', hTP⟩ : ∃ T', tot z0 (k + 1) = T' := ⟨_, rfl⟩
        rw [hTP] at hts hts2
        have HTP := Lib.hid hTP
        have HTS2 := Lib.hid hts2
        clear hTP
        generalize tot z0 k = T at *
        generalize z0 k = x at *
        obtain ⟨xd, xs, xb, xn, xt⟩ := x
        simp only at d0 d1 d2 d3 d4 d5 d6 d7 d8 d9 d10 d11 hts hsm hdm hin hwn hdl
        have HTS := Lib.hid hts
        have HSM := Lib.hid hsm
        have HDM := Lib.hid hdm
        have HIN := Lib.hid hin
        have HWN := Lib.hid hwn
        have HDL := Lib.hid hdl
        have HL := Lib.hid hl
        have HI := Lib.hid hi
        have HO := Lib.hid ho
        have HCALM := Lib.hid hcalm
        have HWW := Lib.hid (And.intro hin.w.1 hin.w.2)
        have l0 : (0 : Int) ≤ (k : Int) := by omega
        have l1 : (k : Int) < (len0 : Int) := by omega
        have l2 : (len0 : Int) ≤ (cap0 : Int) := by omega
        clear hts hsm hdm hin hwn hdl hl hi ho hcalm hTk hts2
        by_cases h0 : xd = 0
        · have q0 : (xd == 0) = true := by simpa using h0
          obtain ⟨ww0, ww1⟩ := HWW.out
          clear h0
          rcases Int.lt_or_le xs.window 0 with hw | hw
          · have q1 : decide (xs.window < 0) = true := by simpa using hw
            go_upto_region 17 with fail
            obtain ⟨b, hb0⟩ : ∃ b, b = wr.heap.size := ⟨_, rfl⟩
            refine wp_world (fun wx => Frm [] wr wx ∧ Blk wx b 60 #[.int .i64 xd, .int .i64 xs.frm, .int .i64 xs.dst, .int .u32 xs.seq, .int .u32 xs.ack, .int .i64 (bits .andNot .i64 xs.flags 4), .int .i64 0, .int .i64 xs.mss, .string ⟨xs.data.toArray⟩, .bool xb, .int .i64 xn, .string ⟨xt.toArray⟩]) ⟨(Frm.refl _ _).alloc _, Blk.new_at hb0.symm _ _⟩ ?_
            rintro wx ⟨hfx, hbx⟩
            rw [← hb0]
            have hlx := HL.out.frm0 hfx
            have hnb : ¬ b ∈ fp := fun hm => by have := HL.out.inn.fp_lt hm; omega
            clear hb0 d0 d1 d2 d3 d4 d5 d6 d7 d8 d9 d10 d11 hfx
            have y1 : wx.cell? ⟨b, 1, none⟩ = some (.int .i64 xs.frm) := hbx.cell 1
            have y2 : wx.cell? ⟨b, 2, none⟩ = some (.int .i64 xs.dst) := hbx.cell 2
            have y3 : wx.cell? ⟨b, 3, none⟩ = some (.int .u32 xs.seq) := hbx.cell 3
            have y4 : wx.cell? ⟨b, 4, none⟩ = some (.int .u32 xs.ack) := hbx.cell 4
            have y5 : wx.cell? ⟨b, 5, none⟩ = some (.int .i64 (bits .andNot .i64 xs.flags 4)) := hbx.cell 5
            have y6 : wx.cell? ⟨b, 6, none⟩ = some (.int .i64 0) := hbx.cell 6
            have y7 : wx.cell? ⟨b, 7, none⟩ = some (.int .i64 xs.mss) := hbx.cell 7
            have y8 : wx.cell? ⟨b, 8, none⟩ = some (.string ⟨xs.data.toArray⟩) := hbx.cell 8
            have hsok := tame_ok HIN.out HSM.out (wd := 0) (by omega) (by omega)
            go_wp2_with fail
            refine (cin_in _ (tame xs 0) hc8 hsok hlx.inn).mono ?_
            rintro e w9 ⟨rfl, hto⟩
            obtain ⟨fp9, hl9, -⟩ := hlx.next hto
            have hi9 : (c.inn (tame xs 0)).Inv (T' : Nat) ((19 * (k + 1) : Nat) : Int) := (HI.out.inn hsok (by have := HTS.out; have := HSM.out; have := HTS2.out; show (T : Int) + (xs.data.length : Int) ≤ 1000000; omega)).more (by have := HTS.out; show (T : Int) + (xs.data.length : Int) ≤ (T' : Int); omega) (by omega)
            have ho9 : (c.inn (tame xs 0)).out.length ≤ 1 + 2051 * (k + 1) := by
              have h1 := HI.out.inn_out hsok (by have := HTS.out; have := HSM.out; have := HTS2.out; show (T : Int) + (xs.data.length : Int) ≤ 1000000; omega)
              have h2 := HO.out
              omega
            clear hto hlx hbx hnb hsok y1 y2 y3 y4 y5 y6 y7 y8
            go_wp2_with fail
            go_roundg (len0 - (k + 1))
            case measure => exact meas_lt hgk hlt
            case rel => exact ⟨k + 1, _, _, by omega, rfl, by go_num, hl9, (by rw [HTP.out]; exact hi9), ho9⟩
          · rcases Int.lt_or_le 65535 xs.window with hw2 | hw2
            · have q1 : decide (xs.window < 0) = false := by simpa using hw
              have q2 : decide (65535 < xs.window) = true := by simpa using hw2
              go_upto_region 17 with fail
              obtain ⟨b, hb0⟩ : ∃ b, b = wr.heap.size := ⟨_, rfl⟩
              refine wp_world (fun wx => Frm [] wr wx ∧ Blk wx b 60 #[.int .i64 xd, .int .i64 xs.frm, .int .i64 xs.dst, .int .u32 xs.seq, .int .u32 xs.ack, .int .i64 (bits .andNot .i64 xs.flags 4), .int .i64 0, .int .i64 xs.mss, .string ⟨xs.data.toArray⟩, .bool xb, .int .i64 xn, .string ⟨xt.toArray⟩]) ⟨(Frm.refl _ _).alloc _, Blk.new_at hb0.symm _ _⟩ ?_
              rintro wx ⟨hfx, hbx⟩
              rw [← hb0]
              have hlx := HL.out.frm0 hfx
              have hnb : ¬ b ∈ fp := fun hm => by have := HL.out.inn.fp_lt hm; omega
              clear hb0 d0 d1 d2 d3 d4 d5 d6 d7 d8 d9 d10 d11 hfx
              have y1 : wx.cell? ⟨b, 1, none⟩ = some (.int .i64 xs.frm) := hbx.cell 1
              have y2 : wx.cell? ⟨b, 2, none⟩ = some (.int .i64 xs.dst) := hbx.cell 2
              have y3 : wx.cell? ⟨b, 3, none⟩ = some (.int .u32 xs.seq) := hbx.cell 3
              have y4 : wx.cell? ⟨b, 4, none⟩ = some (.int .u32 xs.ack) := hbx.cell 4
              have y5 : wx.cell? ⟨b, 5, none⟩ = some (.int .i64 (bits .andNot .i64 xs.flags 4)) := hbx.cell 5
              have y6 : wx.cell? ⟨b, 6, none⟩ = some (.int .i64 0) := hbx.cell 6
              have y7 : wx.cell? ⟨b, 7, none⟩ = some (.int .i64 xs.mss) := hbx.cell 7
              have y8 : wx.cell? ⟨b, 8, none⟩ = some (.string ⟨xs.data.toArray⟩) := hbx.cell 8
              have hsok := tame_ok HIN.out HSM.out (wd := 0) (by omega) (by omega)
              go_wp2_with fail
              refine (cin_in _ (tame xs 0) hc8 hsok hlx.inn).mono ?_
              rintro e w9 ⟨rfl, hto⟩
              obtain ⟨fp9, hl9, -⟩ := hlx.next hto
              have hi9 : (c.inn (tame xs 0)).Inv (T' : Nat) ((19 * (k + 1) : Nat) : Int) := (HI.out.inn hsok (by have := HTS.out; have := HSM.out; have := HTS2.out; show (T : Int) + (xs.data.length : Int) ≤ 1000000; omega)).more (by have := HTS.out; show (T : Int) + (xs.data.length : Int) ≤ (T' : Int); omega) (by omega)
              have ho9 : (c.inn (tame xs 0)).out.length ≤ 1 + 2051 * (k + 1) := by
                have h1 := HI.out.inn_out hsok (by have := HTS.out; have := HSM.out; have := HTS2.out; show (T : Int) + (xs.data.length : Int) ≤ 1000000; omega)
                have h2 := HO.out
                omega
              clear hto hlx hbx hnb hsok y1 y2 y3 y4 y5 y6 y7 y8
              go_wp2_with fail
              go_roundg (len0 - (k + 1))
              case measure => exact meas_lt hgk hlt
              case rel => exact ⟨k + 1, _, _, by omega, rfl, by go_num, hl9, (by rw [HTP.out]; exact hi9), ho9⟩
            · have q1 : decide (xs.window < 0) = false := by simpa using hw
              have q2 : decide (65535 < xs.window) = false := by simpa using hw2
              go_upto_region 17 with fail
              obtain ⟨b, hb0⟩ : ∃ b, b = wr.heap.size := ⟨_, rfl⟩
              refine wp_world (fun wx => Frm [] wr wx ∧ Blk wx b 60 #[.int .i64 xd, .int .i64 xs.frm, .int .i64 xs.dst, .int .u32 xs.seq, .int .u32 xs.ack, .int .i64 (bits .andNot .i64 xs.flags 4), .int .i64 xs.window, .int .i64 xs.mss, .string ⟨xs.data.toArray⟩, .bool xb, .int .i64 xn, .string ⟨xt.toArray⟩]) ⟨(Frm.refl _ _).alloc _, Blk.new_at hb0.symm _ _⟩ ?_
              rintro wx ⟨hfx, hbx⟩
              rw [← hb0]
              have hlx := HL.out.frm0 hfx
              have hnb : ¬ b ∈ fp := fun hm => by have := HL.out.inn.fp_lt hm; omega
              clear hb0 d0 d1 d2 d3 d4 d5 d6 d7 d8 d9 d10 d11 hfx
              have y1 : wx.cell? ⟨b, 1, none⟩ = some (.int .i64 xs.frm) := hbx.cell 1
              have y2 : wx.cell? ⟨b, 2, none⟩ = some (.int .i64 xs.dst) := hbx.cell 2
              have y3 : wx.cell? ⟨b, 3, none⟩ = some (.int .u32 xs.seq) := hbx.cell 3
              have y4 : wx.cell? ⟨b, 4, none⟩ = some (.int .u32 xs.ack) := hbx.cell 4
              have y5 : wx.cell? ⟨b, 5, none⟩ = some (.int .i64 (bits .andNot .i64 xs.flags 4)) := hbx.cell 5
              have y6 : wx.cell? ⟨b, 6, none⟩ = some (.int .i64 xs.window) := hbx.cell 6
              have y7 : wx.cell? ⟨b, 7, none⟩ = some (.int .i64 xs.mss) := hbx.cell 7
              have y8 : wx.cell? ⟨b, 8, none⟩ = some (.string ⟨xs.data.toArray⟩) := hbx.cell 8
              have hsok := tame_ok HIN.out HSM.out (wd := xs.window) (by omega) (by omega)
              go_wp2_with fail
              refine (cin_in _ (tame xs xs.window) hc8 hsok hlx.inn).mono ?_
              rintro e w9 ⟨rfl, hto⟩
              obtain ⟨fp9, hl9, -⟩ := hlx.next hto
              have hi9 : (c.inn (tame xs xs.window)).Inv (T' : Nat) ((19 * (k + 1) : Nat) : Int) := (HI.out.inn hsok (by have := HTS.out; have := HSM.out; have := HTS2.out; show (T : Int) + (xs.data.length : Int) ≤ 1000000; omega)).more (by have := HTS.out; show (T : Int) + (xs.data.length : Int) ≤ (T' : Int); omega) (by omega)
              have ho9 : (c.inn (tame xs xs.window)).out.length ≤ 1 + 2051 * (k + 1) := by
                have h1 := HI.out.inn_out hsok (by have := HTS.out; have := HSM.out; have := HTS2.out; show (T : Int) + (xs.data.length : Int) ≤ 1000000; omega)
                have h2 := HO.out
                omega
              clear hto hlx hbx hnb hsok y1 y2 y3 y4 y5 y6 y7 y8
              go_wp2_with fail
              go_roundg (len0 - (k + 1))
              case measure => exact meas_lt hgk hlt
              case rel => exact ⟨k + 1, _, _, by omega, rfl, by go_num, hl9, (by rw [HTP.out]; exact hi9), ho9⟩
        · by_cases h1 : xd = 1
          · have q0 : (xd == 0) = false := by simpa using h0
            have q1 : (xd == 1) = true := by simpa using h1
            clear h0 h1
            go_upto_region 19 with fail
            obtain ⟨b, hb0⟩ : ∃ b, b = wr.heap.size := ⟨_, rfl⟩
            refine wp_world (fun wx => Frm [] wr wx ∧ Blk wx b 60 #[.int .i64 xd, .int .i64 xs.frm, .int .i64 xs.dst, .int .u32 xs.seq, .int .u32 xs.ack, .int .i64 xs.flags, .int .i64 xs.window, .int .i64 xs.mss, .string ⟨xs.data.toArray⟩, .bool xb, .int .i64 xn, .string ⟨xt.toArray⟩]) ⟨(Frm.refl _ _).alloc _, Blk.new_at hb0.symm _ _⟩ ?_
            rintro wx ⟨hfx, hbx⟩
            rw [← hb0]
            have hlx := HL.out.frm0 hfx
            have hnb : ¬ b ∈ fp := fun hm => by have := HL.out.inn.fp_lt hm; omega
            clear hb0 d0 d1 d2 d3 d4 d5 d6 d7 d8 d9 d10 d11 hfx
            obtain ⟨n, hn⟩ : ∃ n : Nat, n = tk xn % 20 := ⟨_, rfl⟩
            have hn19 : n ≤ 19 := by omega
            have hstart : ∃ (j : Nat) (fq : List Nat) (d : CN), j ≤ n ∧ n - 0 = n - j ∧ (Value.int .i64 0) = .int .i64 (j : Int) ∧ Live w4 wx fq g d ∧ d.Inv (T : Nat) ((19 * k + j : Nat) : Int) ∧ d.out.length ≤ 1 + 2051 * k + j ∧ Blk wx b 60 #[.int .i64 xd, .int .i64 xs.frm, .int .i64 xs.dst, .int .u32 xs.seq, .int .u32 xs.ack, .int .i64 xs.flags, .int .i64 xs.window, .int .i64 xs.mss, .string ⟨xs.data.toArray⟩, .bool xb, .int .i64 xn, .string ⟨xt.toArray⟩] ∧ ¬ b ∈ fq := ⟨0, fp, c, Nat.zero_le _, rfl, rfl, hlx, HI.out, HO.out, hbx, hnb⟩
            have htl := tk_le xn
            have HN := Lib.hid hn
            clear hlx hbx hnb hn
            go_wp2_with fail
            go_loopg [9] (n - 0) (fun gk i wr => ∃ (j : Nat) (fq : List Nat) (d : CN), j ≤ n ∧ gk = n - j ∧ i = .int .i64 (j : Int) ∧ Live w4 wr fq g d ∧ d.Inv (T : Nat) ((19 * k + j : Nat) : Int) ∧ d.out.length ≤ 1 + 2051 * k + j ∧ Blk wr b 60 #[.int .i64 xd, .int .i64 xs.frm, .int .i64 xs.dst, .int .u32 xs.seq, .int .u32 xs.ack, .int .i64 xs.flags, .int .i64 xs.window, .int .i64 xs.mss, .string ⟨xs.data.toArray⟩, .bool xb, .int .i64 xn, .string ⟨xt.toArray⟩] ∧ ¬ b ∈ fq)
            case atStart => exact hstart
            case round =>
              clear hstart
              obtain ⟨j, fq, d, hj, hgj, rfl, hl, hi, ho, hbx, hnb⟩ := hrel
              have y10 := hbx.cell 10
              have htk : ((tk xn : Nat) : Int) % 20 = (n : Int) := by have := HN.out; omega
              have ht0 : (0 : Int) ≤ ((tk xn : Nat) : Int) := by omega
              have ht1 : ((tk xn : Nat) : Int) ≤ 199 := by omega
              by_cases hjn : j < n
              · have qj : decide ((j : Int) < (n : Int)) = true := by simpa using hjn
                go_wp2_with fail
                refine (ticks_any xn _ HWN.out).mono ?_
                rintro e w' ⟨rfl, rfl⟩
                go_wp2_with fail
                refine (ctick_in _ (by omega) (hi.calm (by omega)) hl.inn).mono ?_
                rintro e w9 ⟨rfl, hto⟩
                obtain ⟨fp9, hl9, hst9⟩ := hl.next hto
                have hb9 := hbx.frm hst9.1 hnb
                have hn9 : ¬ b ∈ fp9 := fun hm => by
                  rcases hst9.2 b hm with h1 | h1
                  · exact hnb h1
                  · have := hbx.lt; omega
                have ht9 := d.tick_out
                have hi9 : d.tick.Inv (T : Nat) ((19 * k + (j + 1) : Nat) : Int) := hi.tick.more (Int.le_refl _) (by omega)
                clear hto hbx hnb y10 hl hst9 htk
                go_wp2_with fail
                go_roundg (n - (j + 1))
                case measure => exact meas_lt2 hgj hjn
                case rel => exact ⟨j + 1, fp9, _, by omega, rfl, by go_num, hl9, hi9, by omega, hb9, hn9⟩
              · have qj : decide ((j : Int) < (n : Int)) = false := by simp; omega
                have hi9 : d.Inv (T' : Nat) ((19 * (k + 1) : Nat) : Int) := hi.more (by have := HTS.out; omega) (by omega)
                have ho9 : d.out.length ≤ 1 + 2051 * (k + 1) := by omega
                have hl9 := hl
                clear hl hnb
                go_wp2_with fail
                refine (ticks_any xn _ HWN.out).mono ?_
                rintro e w' ⟨rfl, rfl⟩
                go_wp2_with fail
                go_roundg (len0 - (k + 1))
                case measure => exact meas_lt hgk hlt
                case rel => exact ⟨k + 1, _, _, by omega, rfl, by go_num, hl9, (by rw [HTP.out]; exact hi9), ho9⟩
          · by_cases h2 : xd = 2
            · have q0 : (xd == 0) = false := by simpa using h0
              have q1 : (xd == 1) = false := by simpa using h1
              have q2 : (xd == 2) = true := by simpa using h2
              clear h0 h1 h2
              go_upto_region 24 with fail
              obtain ⟨b, hb0⟩ : ∃ b, b = wr.heap.size := ⟨_, rfl⟩
              refine wp_world (fun wx => Frm [] wr wx ∧ Blk wx b 60 #[.int .i64 xd, .int .i64 xs.frm, .int .i64 xs.dst, .int .u32 xs.seq, .int .u32 xs.ack, .int .i64 xs.flags, .int .i64 xs.window, .int .i64 xs.mss, .string ⟨xs.data.toArray⟩, .bool xb, .int .i64 xn, .string ⟨xt.toArray⟩]) ⟨(Frm.refl _ _).alloc _, Blk.new_at hb0.symm _ _⟩ ?_
              rintro wx ⟨hfx, hbx⟩
              rw [← hb0]
              have hlx := HL.out.frm0 hfx
              have hnb : ¬ b ∈ fp := fun hm => by have := HL.out.inn.fp_lt hm; omega
              clear hb0 d0 d1 d2 d3 d4 d5 d6 d7 d8 d9 d10 d11 hfx
              have y11 := hbx.cell 11
              go_wp2_with fail
              refine (cwrite_in _ xt (by have := HDM.out; unfold maxLen; omega) (by omega) hlx.inn).mono ?_
              rintro e w9 ⟨rfl, hto⟩
              obtain ⟨fp9, hl9, -⟩ := hlx.next hto
              have hi9 : (c.write xt).Inv (T' : Nat) ((19 * (k + 1) : Nat) : Int) := (HI.out.write xt).more (by have := HTS.out; omega) (by omega)
              have ho9 : (c.write xt).out.length ≤ 1 + 2051 * (k + 1) := by
                have h1 := HI.out.write_out xt
                have h2 := HO.out
                omega
              clear hto hlx hbx hnb
              go_wp2_with fail
              go_roundg (len0 - (k + 1))
              case measure => exact meas_lt hgk hlt
              case rel => exact ⟨k + 1, _, _, by omega, rfl, by go_num, hl9, (by rw [HTP.out]; exact hi9), ho9⟩
            · by_cases h3 : xd = 3
              · have q0 : (xd == 0) = false := by simpa using h0
                have q1 : (xd == 1) = false := by simpa using h1
                have q2 : (xd == 2) = false := by simpa using h2
                have q3 : (xd == 3) = true := by simpa using h3
                clear h0 h1 h2 h3
                go_upto_region 26 with fail
                obtain ⟨b, hb0⟩ : ∃ b, b = wr.heap.size := ⟨_, rfl⟩
                refine wp_world (fun wx => Frm [] wr wx ∧ Blk wx b 60 #[.int .i64 xd, .int .i64 xs.frm, .int .i64 xs.dst, .int .u32 xs.seq, .int .u32 xs.ack, .int .i64 xs.flags, .int .i64 xs.window, .int .i64 xs.mss, .string ⟨xs.data.toArray⟩, .bool xb, .int .i64 xn, .string ⟨xt.toArray⟩]) ⟨(Frm.refl _ _).alloc _, Blk.new_at hb0.symm _ _⟩ ?_
                rintro wx ⟨hfx, hbx⟩
                rw [← hb0]
                have hlx := HL.out.frm0 hfx
                have hnb : ¬ b ∈ fp := fun hm => by have := HL.out.inn.fp_lt hm; omega
                clear hb0 d0 d1 d2 d3 d4 d5 d6 d7 d8 d9 d10 d11 hfx
                have y10 := hbx.cell 10
                go_wp2_with fail
                refine (cread_in _ xn (by omega) hlx.inn).mono ?_
                rintro e w9 ⟨rfl, hto⟩
                obtain ⟨fp9, hl9, -⟩ := hlx.next hto
                have hi9 : (c.read xn).Inv (T' : Nat) ((19 * (k + 1) : Nat) : Int) := (HI.out.read xn).more (by have := HTS.out; omega) (by omega)
                have ho9 : (c.read xn).out.length ≤ 1 + 2051 * (k + 1) := by
                  have h1 := c.read_out xn
                  have h2 := HO.out
                  omega
                clear hto hlx hbx hnb
                go_wp2_with fail
                go_roundg (len0 - (k + 1))
                case measure => exact meas_lt hgk hlt
                case rel => exact ⟨k + 1, _, _, by omega, rfl, by go_num, hl9, (by rw [HTP.out]; exact hi9), ho9⟩
              · by_cases h4 : xd = 4
                · have q0 : (xd == 0) = false := by simpa using h0
                  have q1 : (xd == 1) = false := by simpa using h1
                  have q2 : (xd == 2) = false := by simpa using h2
                  have q3 : (xd == 3) = false := by simpa using h3
                  have q4 : (xd == 4) = true := by simpa using h4
                  clear h0 h1 h2 h3 h4
                  go_upto_region 28 with fail
                  obtain ⟨b, hb0⟩ : ∃ b, b = wr.heap.size := ⟨_, rfl⟩
                  refine wp_world (fun wx => Frm [] wr wx ∧ Blk wx b 60 #[.int .i64 xd, .int .i64 xs.frm, .int .i64 xs.dst, .int .u32 xs.seq, .int .u32 xs.ack, .int .i64 xs.flags, .int .i64 xs.window, .int .i64 xs.mss, .string ⟨xs.data.toArray⟩, .bool xb, .int .i64 xn, .string ⟨xt.toArray⟩]) ⟨(Frm.refl _ _).alloc _, Blk.new_at hb0.symm _ _⟩ ?_
                  rintro wx ⟨hfx, hbx⟩
                  rw [← hb0]
                  have hlx := HL.out.frm0 hfx
                  have hnb : ¬ b ∈ fp := fun hm => by have := HL.out.inn.fp_lt hm; omega
                  clear hb0 d0 d1 d2 d3 d4 d5 d6 d7 d8 d9 d10 d11 hfx
                  go_wp2_with fail
                  refine (cclose_in _ (by omega) hlx.inn).mono ?_
                  rintro e w9 ⟨rfl, hto⟩
                  obtain ⟨fp9, hl9, -⟩ := hlx.next hto
                  have hi9 : (c.close).Inv (T' : Nat) ((19 * (k + 1) : Nat) : Int) := (HI.out.close).more (by have := HTS.out; omega) (by omega)
                  have ho9 : (c.close).out.length ≤ 1 + 2051 * (k + 1) := by
                    have h1 := HI.out.close_out
                    have h2 := HO.out
                    omega
                  clear hto hlx hbx hnb
                  go_wp2_with fail
                  go_roundg (len0 - (k + 1))
                  case measure => exact meas_lt hgk hlt
                  case rel => exact ⟨k + 1, _, _, by omega, rfl, by go_num, hl9, (by rw [HTP.out]; exact hi9), ho9⟩
                · have q0 : (xd == 0) = false := by simpa using h0
                  have q1 : (xd == 1) = false := by simpa using h1
                  have q2 : (xd == 2) = false := by simpa using h2
                  have q3 : (xd == 3) = false := by simpa using h3
                  have q4 : (xd == 4) = false := by simpa using h4
                  clear h0 h1 h2 h3 h4
                  have hl9 := HL.out.frm0 (b := wr.alloc (.cells #[.int .i64 xd, .int .i64 xs.frm, .int .i64 xs.dst, .int .u32 xs.seq, .int .u32 xs.ack, .int .i64 xs.flags, .int .i64 xs.window, .int .i64 xs.mss, .string ⟨xs.data.toArray⟩, .bool xb, .int .i64 xn, .string ⟨xt.toArray⟩] 60)) ((Frm.refl _ _).alloc _)
                  have hi9 : c.Inv (T' : Nat) ((19 * (k + 1) : Nat) : Int) := HI.out.more (by have := HTS.out; omega) (by omega)
                  have ho9 : c.out.length ≤ 1 + 2051 * (k + 1) := by have := HO.out; omega
                  go_wp2_with fail
                  go_roundg (len0 - (k + 1))
                  case measure => exact meas_lt hgk hlt
                  case rel => exact ⟨k + 1, _, _, by omega, rfl, by go_num, hl9, (by rw [HTP.out]; exact hi9), ho9⟩
      · obtain rfl : k = len0 := by omega
        clear hlt HEL
        have hfin := HFA.out
        go_wp2_with fail
        refine (cout_in _ hl.inn).mono ?_
        intro e x1 hout
        obtain ⟨vx, fq1, rfl, hq1, -, -⟩ := hl.out hout
        have hi1 := hi.drain
        clear hout hl hi ho
        generalize hD : c.drain = D at *
        have hDo : D.out = [] := by rw [← hD]; rfl
        clear hD
        have hs := cstate_in _ hq1.inn
        go_wp2_with fail
        refine hs.mono ?_
        rintro e w' ⟨rfl, rfl⟩
        clear hs
        by_cases h9 : D.state = 9
        · have q9 : (D.state == 9) = true := by simpa using h9
          go_wp2_with fail
          refine (cin_in _ (sRst a1) (by rw [hDo]; exact Nat.zero_le _) (sRst_ok u0 u1) hq1.inn).mono ?_
          rw [CN.inn_gone h9]
          rintro e x2 ⟨rfl, hto⟩
          obtain ⟨fq2, hq2, -⟩ := hq1.next hto
          clear hto hq1
          go_wp2_with fail
          refine (cout_in _ hq2.inn).mono ?_
          intro e x3 hout
          obtain ⟨v3, fq3, rfl, hq3, -, hr3⟩ := hq2.out hout
          obtain ⟨A3, C3, rfl⟩ := own_form hr3.1
          rw [hDo] at *
          have hs3 := cstate_in _ hq3.inn
          have e9 : D.drain.state = 9 := h9
          rw [e9] at hs3
          have HS3 := Lib.hid hs3
          clear hout hq2 hs3 e9 h9 hr3 hi1 hDo
          go_wp2_with fail
          refine HS3.out.mono ?_
          rintro e w' ⟨rfl, rfl⟩
          go_wp2_with fail
          go_ret
          exact ⟨rfl, (hfin.next0 hq3.frm).below (Nat.le_refl _) (by simp)⟩
        · have q9 : (D.state == 9) = false := by simpa using h9
          have hrs := hi1.rs h9
          have hTk0 : ((tot z0 k : Nat) : Int) ≤ 30000 := by omega
          have hbd := hi1.want_bd hTk0
          go_wp2_with fail
          refine (cin_in _ sX (by rw [hDo]; exact Nat.zero_le _) sX_ok hq1.inn).mono ?_
          rw [CN.inn_X hi1 hTk0 h9]
          rintro e x2 ⟨rfl, hto⟩
          obtain ⟨fq2, hq2, -⟩ := hq1.next hto
          clear hto hq1
          go_wp2_with fail
          refine (cout_in _ hq2.inn).mono ?_
          intro e x3 hout
          obtain ⟨v3, fq3, rfl, hq3, -, hr3⟩ := hq2.out hout
          have hto3 : D.tell.out = [⟨D.frm, D.dst, D.nxt, D.want, 16, ((D.rb.win : Nat) : Int), 0, []⟩] := by
            show D.out ++ _ = _
            rw [hDo]
            rfl
          rw [hto3] at hr3
          obtain ⟨b3, cap3, rfl, hcap3, -, hc3⟩ := hr3.segs (Nat.zero_lt_succ _) (by show (1 : Nat) ≤ 1000000000; decide)
          have y3 : x3.cell? ⟨b3, 3, none⟩ = some (.int .u32 D.want) := hc3 3 _ rfl
          have y5 : x3.cell? ⟨b3, 5, none⟩ = some (.int .i64 ((D.rb.win : Nat) : Int)) := hc3 5 _ rfl
          have hcap : (1 : Int) ≤ (cap3 : Int) := by have : 1 ≤ cap3 := hcap3; omega
          have hi3 : D.tell.drain.Inv (tot z0 k : Nat) ((19 * k : Nat) : Int) := hi1.tell.drain
          have hwin := CN.win_le hi1.rb
          obtain ⟨E, hE⟩ : ∃ E, D.tell.drain = E := ⟨_, rfl⟩
          have hEw : E.want = D.want := by rw [← hE]; rfl
          have hEr : E.rb.win = D.rb.win := by rw [← hE]; rfl
          have hEs : E.state = D.state := by rw [← hE]; rfl
          have hEt : E.reset = false := by rw [← hE]; exact hrs
          have hEo : E.out = [] := by rw [← hE]; rfl
          rw [hE] at hq3 hi3
          have h9E : E.state ≠ 9 := by rw [hEs]; exact h9
          have HI3 := Lib.hid hi3
          have HEW := Lib.hid hEw
          have HER := Lib.hid hEr
          have HES := Lib.hid hEs
          have HET := Lib.hid hEt
          have HEO := Lib.hid hEo
          have H9E := Lib.hid h9E
          obtain ⟨WN, hWN⟩ : ∃ WN : Nat, D.rb.win = WN := ⟨_, rfl⟩
          obtain ⟨WT, hWT⟩ : ∃ WT : Int, D.want = WT := ⟨_, rfl⟩
          obtain ⟨ST, hST⟩ : ∃ ST : Int, D.state = ST := ⟨_, rfl⟩
          rw [hWN] at y5 HER hwin
          rw [hWT] at y3 HEW hbd
          rw [hST] at q9 HES
          rw [hST]
          obtain ⟨hb1, hb2⟩ := hbd
          have HC3 := Lib.hid hc3
          clear hout hq2 hr3 hc3 hcap3 hi1 hDo hrs hto3 hi3 hE hEw hEr hEs hEt hEo h9E h9 hWN hWT hST
          have HQ3 := Lib.hid hq3
          clear hq3
          have HFIN := Lib.hid hfin
          clear hfin
          rcases Int.lt_or_le 0 a1 with hf0 | hf0
          · obtain ⟨M, hM⟩ : ∃ M, (if ((WN : Nat) : Int) < 1 then 1 else ((WN : Nat) : Int)) = M := ⟨_, rfl⟩
            have hMm : max ((WN : Nat) : Int) 1 = M := by rw [← hM]; split <;> omega
            rcases Int.lt_or_le a1 M with hM1 | hM1
            · have qm : decide (a1 < M) = true := by simpa using hM1
              have hM2 : a1 < max ((WN : Nat) : Int) 1 := by omega
              clear hMm
              have qf : decide (0 < a1) = true := by simpa using hf0
              have hxi := cin_in _ (sRst ((WT + a1) % 4294967296)) (by rw [HEO.out]; exact Nat.zero_le _) (sRst_ok (by omega) (by omega)) HQ3.out.inn
              rw [show E.inn (sRst ((WT + a1) % 4294967296)) = E.tell from by rw [← HEW.out, CN.inn_far HI3.out (by omega) H9E.out hf0 u1, HER.out]; exact if_pos hM2] at hxi
              rw [show (WT + a1) % 4294967296 = WT + a1 from by omega] at hxi
              dsimp only [sRst] at hxi
              have HXI := Lib.hid hxi
              clear hxi
              go_wp2_with fail
              refine HXI.out.mono ?_
              rintro e x4 ⟨rfl, hto⟩
              obtain ⟨fq4, hq4, -⟩ := HQ3.out.next hto
              clear hto HXI y3 y5 HC3
              go_wp2_with fail
              refine (cout_in _ hq4.inn).mono ?_
              intro e x5 hout
              obtain ⟨v5, fq5, rfl, hq5, -, hr5⟩ := hq4.out hout
              obtain ⟨A5, C5, hv5⟩ := own_form hr5.1
              rw [show (E.tell).out.length = 1 from by rw [CN.tell_out, HEO.out]; rfl] at hv5
              subst hv5
              have hs5 := cstate_in _ hq5.inn
              rw [show (E.tell).drain.state = ST from HES.out] at hs5
              have hr5 := creset_in _ hq5.inn
              rw [show (E.tell).drain.reset = false from HET.out] at hr5
              have HS5 := Lib.hid hs5
              have HR5 := Lib.hid hr5
              have HQ5 := Lib.hid hq5
              clear hout hq4 hs5 hr5 hq5
              go_wp2_with fail
              refine HS5.out.mono ?_
              rintro e w' ⟨rfl, rfl⟩
              go_wp2_with fail
              refine HR5.out.mono ?_
              rintro e w' ⟨rfl, rfl⟩
              clear HS5 HR5
              have HQF := HQ5
              have HFW : Hid (E.tell.drain.want = WT) := Lib.hid (HEW.out)
              have HFS : Hid (E.tell.drain.state ≠ 9) := Lib.hid (H9E.out)
              have HFO : Hid (E.tell.drain.out = []) := Lib.hid (rfl)
              go_wp2_with fail
              refine (cin_in _ (sRst WT) (by rw [HFO.out]; exact Nat.zero_le _) (sRst_ok (by omega) (by omega)) HQF.out.inn).mono ?_
              rw [show CN.inn E.tell.drain (sRst WT) = CN.finish E.tell.drain true from by rw [← HFW.out]; exact CN.inn_rst HFS.out]
              rintro e y1 ⟨rfl, hto⟩
              obtain ⟨fr1, hr1, -⟩ := HQF.out.next hto
              have hs : Calls Try.prog 10 #[.pointer (some ⟨g, 0, none⟩)] y1 fun e w' => e = .returned (.int .i64 9) ∧ y1 = w' := cstate_in _ hr1.inn
              have hre := creset_in _ hr1.inn
              rw [show (CN.finish E.tell.drain true).reset = true from by simp [CN.finish]] at hre
              have HS := Lib.hid hs
              have HRE := Lib.hid hre
              have HR1 := Lib.hid hr1
              clear hto HQF hs hre hr1
              go_wp2_with fail
              refine HS.out.mono ?_
              rintro e w' ⟨rfl, rfl⟩
              go_wp2_with fail
              refine HRE.out.mono ?_
              rintro e w' ⟨rfl, rfl⟩
              go_wp2_with fail
              refine (cout_in _ HR1.out.inn).mono ?_
              intro e y2 hout
              obtain ⟨vy, fr2, rfl, hr2, -, hry⟩ := HR1.out.out hout
              obtain ⟨Ay, Cy, hvy⟩ := own_form hry.1
              rw [show (CN.finish E.tell.drain true).out.length = 0 from by show (CN.out E.tell.drain).length = 0; rw [HFO.out]; rfl] at hvy
              subst hvy
              have hfr := hr2.frm
              clear hout hry HR1 HS HRE hr2
              go_wp2_with fail
              go_ret
              exact ⟨rfl, (HFIN.out.next0 hfr).below (Nat.le_refl _) (by simp)⟩
            · have qm : decide (a1 < M) = false := by simp; omega
              have hM2 : max ((WN : Nat) : Int) 1 ≤ a1 := by omega
              clear hMm
              have qf : decide (0 < a1) = true := by simpa using hf0
              have hxi := cin_in _ (sRst ((WT + a1) % 4294967296)) (by rw [HEO.out]; exact Nat.zero_le _) (sRst_ok (by omega) (by omega)) HQ3.out.inn
              rw [show E.inn (sRst ((WT + a1) % 4294967296)) = E from by rw [← HEW.out, CN.inn_far HI3.out (by omega) H9E.out hf0 u1, HER.out]; exact if_neg (by omega)] at hxi
              dsimp only [sRst] at hxi
              have HXI := Lib.hid hxi
              clear hxi
              go_wp2_with fail
              refine HXI.out.mono ?_
              rintro e x4 ⟨rfl, hto⟩
              obtain ⟨fq4, hq4, -⟩ := HQ3.out.next hto
              clear hto HXI y3 y5 HC3
              go_wp2_with fail
              refine (cout_in _ hq4.inn).mono ?_
              intro e x5 hout
              obtain ⟨v5, fq5, rfl, hq5, -, hr5⟩ := hq4.out hout
              obtain ⟨A5, C5, hv5⟩ := own_form hr5.1
              rw [show (E).out.length = 0 from by rw [HEO.out]; rfl] at hv5
              subst hv5
              have hs5 := cstate_in _ hq5.inn
              rw [show (E).drain.state = ST from HES.out] at hs5
              have hr5 := creset_in _ hq5.inn
              rw [show (E).drain.reset = false from HET.out] at hr5
              have HS5 := Lib.hid hs5
              have HR5 := Lib.hid hr5
              have HQ5 := Lib.hid hq5
              clear hout hq4 hs5 hr5 hq5
              go_wp2_with fail
              refine HS5.out.mono ?_
              rintro e w' ⟨rfl, rfl⟩
              go_wp2_with fail
              refine HR5.out.mono ?_
              rintro e w' ⟨rfl, rfl⟩
              clear HS5 HR5
              have HQF := HQ5
              have HFW : Hid (E.drain.want = WT) := Lib.hid (HEW.out)
              have HFS : Hid (E.drain.state ≠ 9) := Lib.hid (H9E.out)
              have HFO : Hid (E.drain.out = []) := Lib.hid (rfl)
              go_wp2_with fail
              refine (cin_in _ (sRst WT) (by rw [HFO.out]; exact Nat.zero_le _) (sRst_ok (by omega) (by omega)) HQF.out.inn).mono ?_
              rw [show CN.inn E.drain (sRst WT) = CN.finish E.drain true from by rw [← HFW.out]; exact CN.inn_rst HFS.out]
              rintro e y1 ⟨rfl, hto⟩
              obtain ⟨fr1, hr1, -⟩ := HQF.out.next hto
              have hs : Calls Try.prog 10 #[.pointer (some ⟨g, 0, none⟩)] y1 fun e w' => e = .returned (.int .i64 9) ∧ y1 = w' := cstate_in _ hr1.inn
              have hre := creset_in _ hr1.inn
              rw [show (CN.finish E.drain true).reset = true from by simp [CN.finish]] at hre
              have HS := Lib.hid hs
              have HRE := Lib.hid hre
              have HR1 := Lib.hid hr1
              clear hto HQF hs hre hr1
              go_wp2_with fail
              refine HS.out.mono ?_
              rintro e w' ⟨rfl, rfl⟩
              go_wp2_with fail
              refine HRE.out.mono ?_
              rintro e w' ⟨rfl, rfl⟩
              go_wp2_with fail
              refine (cout_in _ HR1.out.inn).mono ?_
              intro e y2 hout
              obtain ⟨vy, fr2, rfl, hr2, -, hry⟩ := HR1.out.out hout
              obtain ⟨Ay, Cy, hvy⟩ := own_form hry.1
              rw [show (CN.finish E.drain true).out.length = 0 from by show (CN.out E.drain).length = 0; rw [HFO.out]; rfl] at hvy
              subst hvy
              have hfr := hr2.frm
              clear hout hry HR1 HS HRE hr2
              go_wp2_with fail
              go_ret
              exact ⟨rfl, (HFIN.out.next0 hfr).below (Nat.le_refl _) (by simp)⟩
          · have qf : decide (0 < a1) = false := by simp; omega
            have hE9 : E.state ≠ 9 := H9E.out
            have HQF := HQ3
            have HFW : Hid (E.want = WT) := Lib.hid (HEW.out)
            have HFS : Hid (E.state ≠ 9) := Lib.hid (H9E.out)
            have HFO : Hid (E.out = []) := Lib.hid (HEO.out)
            go_wp2_with fail
            refine (cin_in _ (sRst WT) (by rw [HFO.out]; exact Nat.zero_le _) (sRst_ok (by omega) (by omega)) HQF.out.inn).mono ?_
            rw [show CN.inn E (sRst WT) = CN.finish E true from by rw [← HFW.out]; exact CN.inn_rst HFS.out]
            rintro e y1 ⟨rfl, hto⟩
            obtain ⟨fr1, hr1, -⟩ := HQF.out.next hto
            have hs : Calls Try.prog 10 #[.pointer (some ⟨g, 0, none⟩)] y1 fun e w' => e = .returned (.int .i64 9) ∧ y1 = w' := cstate_in _ hr1.inn
            have hre := creset_in _ hr1.inn
            rw [show (CN.finish E true).reset = true from by simp [CN.finish]] at hre
            have HS := Lib.hid hs
            have HRE := Lib.hid hre
            have HR1 := Lib.hid hr1
            clear hto HQF hs hre hr1
            go_wp2_with fail
            refine HS.out.mono ?_
            rintro e w' ⟨rfl, rfl⟩
            go_wp2_with fail
            refine HRE.out.mono ?_
            rintro e w' ⟨rfl, rfl⟩
            go_wp2_with fail
            refine (cout_in _ HR1.out.inn).mono ?_
            intro e y2 hout
            obtain ⟨vy, fr2, rfl, hr2, -, hry⟩ := HR1.out.out hout
            obtain ⟨Ay, Cy, hvy⟩ := own_form hry.1
            rw [show (CN.finish E true).out.length = 0 from by show (CN.out E).length = 0; rw [HFO.out]; rfl] at hvy
            subst hvy
            have hfr := hr2.frm
            clear hout hry HR1 HS HRE hr2
            go_wp2_with fail
            go_ret
            exact ⟨rfl, (HFIN.out.next0 hfr).below (Nat.le_refl _) (by simp)⟩
  · clear hB
    go_wp2_with fail
    go_ret
    exact ⟨rfl, hf2.below (Nat.le_refl _) (by simp)⟩

set_option maxRecDepth 100000 in
theorem lifted (os : Os) (started : os.Started) (H : Type) (enc : TypeId × Value → H) :
    ReturnsInHanded {} Try.checked os 6 .any (Rows.connResetsSpec.pre6 enc Try.prog Try.f6 Rows.connResetsRow.domain false) (Rows.connResetsSpec.post enc Try.prog Try.f6 false true false false) := by
  refine returnsInHanded_of_change (C := Try.checked) own started (by kernel_rfl) Try.func6
    (ChangeSpec.witness6 (enc := enc) (C := Try.checked) false ⟨#[], #[.slice none 0 0, .int .u32 0], []⟩ 8 (by kernel_rfl) (by kernel_rfl) (by kernel_rfl) (by kernel_rfl)) ?_
  intro W base args ds gs before hval0 hW hcnd _
  have hval : ∀ (j : Nat) t v, Try.f6.params[j]? = some t → args[j]? = some v → Value.okWide Try.prog W .any base t v := hval0
  have hW' := hW
  obtain ⟨p, q, hA0, hV, rfl, hfz, hnd⟩ := hW
  have hA : DataW.TrodAll enc Try.prog W 0 (fun _ => true) true Try.f6.params.toList args.toList ds p := hA0
  rw [Try.params6] at hA hval
  obtain ⟨v0, vs0, d0, ds0, p0, q0, hargs, rfl, rfl, h0, r0⟩ := trodAll_cons hA
  obtain ⟨v1, vs1, d1, ds1, p1, q1, rfl, rfl, rfl, h1, r1⟩ := trodAll_cons r0
  obtain ⟨rfl, rfl, rfl⟩ := trodAll_nil r1
  obtain rfl : args = #[v0, v1] := by cases args; simp_all
  obtain ⟨rfl, rfl⟩ := trodVars_none hV
  obtain ⟨a0, len0, cap0, rfl⟩ := okWide_slice Try.underlying56 (hval 0 56 v0 rfl rfl)
  have k0 := h0
  have lt0 : ∀ x ∈ p0, x.block < W.heap.size := by obtain ⟨m, hm⟩ := k0; exact DataW.trod_lt m _ _ _ hm
  obtain ⟨z0, w0⟩ := acts15_open h0
  obtain ⟨a1, rfl, rfl, rfl, w1⟩ := open_int Try.underlying22 (hval 1 22 v1 rfl rfl) h1
  clear hA0 hval0
  refine (walk a0 len0 cap0 a1 W z0 w0 w1).mono fun e W' ⟨he, bel⟩ => ?_
  subst he
  exact ⟨_, rfl, _, _, _, [], _, [], hW', trodAll_mk1 (shut_bool Try.underlying4 _), (trodAll_cons_mk (Below.trod laidOut (by kernel_rfl) (of_decide_eq_true (by kernel_rfl)) k0 bel lt0) (trodAll_cons_mk (shut_int Try.underlying22 w1) trodAll_mk0)), rfl, bel.frame _, fun h => by cases h⟩

theorem over : Rows.connResetsRow.holds Try.pinned (OpenSpec.ofChange Rows.connResetsSpec) :=
  OpenClaim.holds_of_wide 6 Try.f6 rfl rfl rfl rfl rfl rfl rfl ⟨rfl, rfl, rfl, rfl, rfl⟩ rfl rfl rfl rfl rfl (by kernel_rfl) Try.func6 (by kernel_rfl)
    (of_decide_eq_true (by kernel_rfl)) (by unfold Func.isWrapper; first | (rw [if_pos (by decide +kernel)]; kernel_rfl) | (rw [if_neg (by decide +kernel)]; exact ⟨rfl, rfl⟩))
    (fun os started H enc _ => lifted os started H enc)

theorem proved : Rows.ConnResetsSaid := over
#print axioms proved
end Go.Proofs.Ytpmlojgngcllfaa.connResets
