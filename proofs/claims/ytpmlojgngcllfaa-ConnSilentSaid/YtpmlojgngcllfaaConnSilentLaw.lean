/- Proved: the statement Rows.ConnSilentSaid: for every input the Go function blockyardlaw15.ConnSilent returns true and leaves its arguments as they were. Conditions: none beyond the row's own. -/
import Derived.Test.YtpmlojgngcllfaaRows
import Derived.Test.YtpmlojgngcllfaaConnSilentP
import Derived.WalkKit
import Derived.ProofKit
import Derived.OpenShut
import Derived.ShutString
import Derived.ChangeOld
import Derived.Below
namespace Go.Proofs.Ytpmlojgngcllfaa.connSilent
open Go.ChangeShapes Go.WideShapes Go.ChangeAt Go.RowKit
open Go.ChangeMaps (open_string shut_string)
set_option linter.unusedVariables false

theorem own : ownKnob Try.prog.godebug = none := by kernel_rfl
theorem laidOut : laidOutB Try.prog = true := by kernel_rfl

theorem how_bd {a m : Int} (h : (Lit.int .u8 a).wf = true) (h1 : 1 ≤ m) (h2 : m ≤ 100) : 1 ≤ wrap64 (1 + wrap64 (a.tmod m)) ∧ wrap64 (1 + wrap64 (a.tmod m)) ≤ m := by
  obtain ⟨u0, u1⟩ := u8_of_wf h
  rw [Int.tmod_eq_emod_of_nonneg u0]
  have k0 := Int.emod_nonneg a (by omega : m ≠ 0)
  have k1 := Int.emod_lt_of_pos a (by omega : 0 < m)
  generalize a % m = q at *
  unfold wrap64
  omega
theorem meas_lt {gk len k : Nat} (h : gk = len - k) (h2 : k < len) : len - (k + 1) < gk := by omega
theorem cast_next {txt : List UInt8} {K n : Nat} {R a b d : Int} {c : CN} (h : Sil txt K R ((n : Int) + 1) a b d c ∨ Over K R d c) : Sil txt K R ((n + 1 : Nat) : Int) a b d c ∨ Over K R d c := by
  have e : ((n + 1 : Nat) : Int) = (n : Int) + 1 := by omega
  rw [e]
  exact h
set_option maxRecDepth 100000 in
set_option maxHeartbeats 4000000 in
theorem walk (a0 : Int) (a1 : Int) (a2 : Int) (a3 : Int) (a4 : Bool) (a5 : Bool) (a6 : ByteArray) (w : World) (w0 : (Lit.int .u8 a0).wf = true) (w1 : (Lit.int .u8 a1).wf = true) (w2 : (Lit.int .u8 a2).wf = true) (w3 : (Lit.int .u8 a3).wf = true) (w6 : a6.size ≤ maxLen) : Calls Try.prog 5 #[.int .u8 a0, .int .u8 a1, .int .u8 a2, .int .u8 a3, .bool a4, .bool a5, .string a6] w fun e w' => e = .returned (.bool true) ∧ Below w.heap.size w w' := by
  obtain ⟨F0, F1⟩ := how_bd (m := 100) w0 (by decide) (by decide)
  obtain ⟨L0, L1⟩ := how_bd (m := 100) w1 (by decide) (by decide)
  obtain ⟨M0, M1⟩ := how_bd (m := 100) w2 (by decide) (by decide)
  obtain ⟨R0, R1⟩ := how_bd (m := 10) w3 (by decide) (by decide)
  have hT : a6 = ⟨a6.data.toList.toArray⟩ := by simp
  generalize a6.data.toList = txt at hT
  subst hT
  have HFB := Lib.hid (And.intro F0 F1)
  have HLB := Lib.hid (And.intro L0 L1)
  have HMB := Lib.hid (And.intro M0 M1)
  have HRB := Lib.hid (And.intro R0 R1)
  clear F0 F1 L0 L1 M0 M1 R0 R1
  go_enter Try.func5, Try.ntmps5
  go_wp2_with fail
  refine (awake_any _).mono ?_
  rintro e wa ⟨rfl, hf1⟩
  go_upto_region 4 with fail
  generalize wrap64 (1 + wrap64 (a0.tmod 100)) = F at *
  generalize wrap64 (1 + wrap64 (a1.tmod 100)) = L at *
  generalize wrap64 (1 + wrap64 (a2.tmod 100)) = M at *
  generalize wrap64 (1 + wrap64 (a3.tmod 10)) = R at *
  generalize wrap64 (a0.tmod 100) = F' at *
  generalize wrap64 (a1.tmod 100) = L' at *
  generalize wrap64 (a2.tmod 100) = M' at *
  generalize wrap64 (a3.tmod 10) = R' at *
  obtain ⟨b, hb0⟩ : ∃ b, b = wa.heap.size := ⟨_, rfl⟩
  refine wp_world (fun wx => Frm [] wa wx ∧ Blk wx b 30 (Tp.box ⟨F, L, M, R, 3⟩)) ⟨(Frm.refl _ _).alloc _, Blk.new_at hb0.symm _ _⟩ ?_
  rintro wx ⟨hfx, hbx⟩
  rw [← hb0]
  have hfwx := hf1.next0 hfx
  have hS0 : ∀ wy, Frm [] wx wy → (fun w' => w'.cell? ⟨b, 0, none⟩ = some (.int .i64 F) ∧ w'.cell? ⟨b, 1, none⟩ = some (.int .i64 L) ∧ w'.cell? ⟨b, 2, none⟩ = some (.int .i64 M) ∧ w'.cell? ⟨b, 3, none⟩ = some (.int .i64 R) ∧ w'.cell? ⟨b, 4, none⟩ = some (.int .i64 3)) wy := fun wy hf => ⟨(hbx.frm hf (by simp)).cell 0, (hbx.frm hf (by simp)).cell 1, (hbx.frm hf (by simp)).cell 2, (hbx.frm hf (by simp)).cell 3, (hbx.frm hf (by simp)).cell 4⟩
  have HS0 := Lib.hid hS0
  have HBX := Lib.hid hbx
  have HFWX := Lib.hid hfwx
  clear hb0 hfx hf1 hbx hS0 hfwx w0 w1 w2 w3
  by_cases hok : L ≤ F ∧ F ≤ M
  · have hnok : NewOk sSyn ⟨F, L, M, R, 3⟩ := by
      have h1 := HFB.out
      have h2 := HLB.out
      have h3 := HMB.out
      have h4 := HRB.out
      exact ⟨h2.1, hok.1, hok.2, by show M ≤ 1048576; omega, ⟨h4.1, by show R ≤ 100; omega, by show (1 : Int) ≤ 3; decide, by show (3 : Int) ≤ 1048576; decide⟩, by decide⟩
    have HOK := Lib.hid hok
    have HNOK := Lib.hid hnok
    clear hok hnok
    go_region_held3 (fun w' => w'.cell? ⟨b, 0, none⟩ = some (.int .i64 F) ∧ w'.cell? ⟨b, 1, none⟩ = some (.int .i64 L) ∧ w'.cell? ⟨b, 2, none⟩ = some (.int .i64 M) ∧ w'.cell? ⟨b, 3, none⟩ = some (.int .i64 R) ∧ w'.cell? ⟨b, 4, none⟩ = some (.int .i64 3))
      (first | exact HS0.out _ ((Frm.refl _ _).drewN 1) | exact HS0.out _ hfa | exact HS0.out _ hf5)
      (first
        | (go_at_call 26; refine (syn_any _).mono ?_; rintro e wb ⟨rfl, hf3⟩; have hfa := ((Frm.refl [] wx).drewN 1).next0 hf3)
        | (go_at_call 25; refine (cnew_ok sSyn 500 ⟨F, L, M, R, 3⟩ _ HNOK.out).mono ?_; intro e w5 hnew; obtain ⟨g, fp5, rfl, hl5, hf5⟩ := Live.of_new hfa hnew))
    go_upto_region 5 with fail
    refine wp_world (fun wz => Live wb wz fp5 g (CN.start sSyn 500 ⟨F, L, M, R, 3⟩) ∧ Frm [] wx wb ∧ Blk wz b 30 (Tp.box ⟨F, L, M, R, 3⟩)) ⟨hl5, hfa, HBX.out.frm hf5 (by simp)⟩ ?_
    have hbwb := HBX.out.frm hfa (by simp)
    clear hnew hl5 hfa hf5 hf3
    rintro wz ⟨hl, hfb, hbz⟩
    have hwb := HFWX.out.next0 hfb
    have HL := Lib.hid hl
    have HWB := Lib.hid hwb
    have HBW := Lib.hid hbwb
    clear hl hfb hwb hbz hbwb HBX HFWX HS0
    by_cases hlen : 100 < txt.length
    · have q5 : decide ((100 : Int) < (txt.length : Int)) = true := by simp; omega
      clear hlen
      go_wp2_with fail
      go_ret
      exact ⟨rfl, (HWB.out.next0 HL.out.frm).below (Nat.le_refl _) (by simp)⟩
    · have q5 : decide ((100 : Int) < (txt.length : Int)) = false := by simp; omega
      have htx : txt.length ≤ 100 := by omega
      have HTX := Lib.hid htx
      clear hlen htx
      by_cases hne : txt = []
      · have q6 : txt.isEmpty = true := by rw [hne]; rfl
        clear hne
        go_wp2_with fail
        go_ret
        exact ⟨rfl, (HWB.out.next0 HL.out.frm).below (Nat.le_refl _) (by simp)⟩
      · have q6 : txt.isEmpty = false := by
          rcases txt with _ | _
          · exact absurd rfl hne
          · rfl
        have HNE := Lib.hid hne
        clear hne
        go_wp2_with fail
        refine (cout_in _ HL.out.inn).mono ?_
        intro e wo hout
        obtain ⟨vo, fp6, rfl, hl6, -, -⟩ := HL.out.out hout
        clear hout HL q5 q6
        obtain ⟨K, hK⟩ : ∃ K : Nat, K = if a4 then (if a5 then 3 else 2) else 1 := ⟨_, rfl⟩
        obtain ⟨W, hW⟩ : ∃ W : Int, W = if a5 then 0 else 1000 := ⟨_, rfl⟩
        have HK := Lib.hid hK
        have HW := Lib.hid hW
        have HL6 := Lib.hid hl6
        clear hK hW hl6
        go_upto_if 63 with fail
        go_cut [18] (fun u wy => u = .int .i64 W ∧ wo = wy)
        case first =>
          rcases a5 with _ | _
          · go_wp2_with fail
            go_meet
            exact ⟨by rw [HW.out]; rfl, rfl⟩
          · go_wp2_with fail
            go_meet
            exact ⟨by rw [HW.out]; rfl, rfl⟩
        case rest =>
          obtain ⟨rfl, rfl⟩ := hcut
          go_upto_if 64 with fail
          go_cut [] (fun wy => ∃ fp c, Live wb wy fp g c ∧ Sil txt K R 0 0 0 0 c ∧ c.Inv 0 0)
          case first =>
            have hs1 : Sil txt 1 R 0 0 0 0 (CN.start sSyn 500 ⟨F, L, M, R, 3⟩).drain := sil_start (o := ⟨F, L, M, R, 3⟩) txt HLB.out.1 HOK.out.1 HOK.out.2 HMB.out.2 HRB.out.1
            have hi1 := (startN_inv HNOK.out).drain
            have HS1 := Lib.hid hs1
            have HI1 := Lib.hid hi1
            clear hs1 hi1
            rcases a4 with _ | _
            · have hk : K = 1 := HK.out
              subst hk
              go_wp2_with fail
              go_meet
              exact ⟨_, _, HL6.out, HS1.out, HI1.out⟩
            · rcases a5 with _ | _
              · have hk : K = 2 := HK.out
                have hw : W = 1000 := HW.out
                subst hk hw
                obtain ⟨⟨x, hx⟩, hsw⟩ := sil_win1 (o := ⟨F, L, M, R, 3⟩) HNE.out HTX.out HLB.out.1 HOK.out.1 HOK.out.2 HMB.out.2 HRB.out.1
                have HXO := Lib.hid hx
                have HSW := Lib.hid hsw
                have hin := cin_in wo (sWin 1000) (Nat.zero_le _) sWin_ok1 HL6.out.inn
                rw [inn_win1] at hin
                have hii := HI1.out.inn sWin_ok1 (by show (0 : Int) + ((0 : Nat) : Int) ≤ 1000000; decide)
                rw [inn_win1] at hii
                have HIN := Lib.hid hin
                have HII := Lib.hid (hii.write txt).drain
                clear hx hsw hin hii
                go_wp2_with fail
                refine HIN.out.mono ?_
                rintro e wc ⟨rfl, hto⟩
                obtain ⟨fp7, hl7, -⟩ := HL6.out.next hto
                clear hto HIN
                go_wp2_with fail
                refine (cwrite_in _ txt (by have := HTX.out; unfold maxLen; omega) (Nat.zero_le _) hl7.inn).mono ?_
                rintro e wd ⟨rfl, hto⟩
                obtain ⟨fp8, hl8, -⟩ := hl7.next hto
                clear hto hl7
                go_wp2_with fail
                refine (cout_in _ hl8.inn).mono ?_
                intro e we hout
                obtain ⟨v9, fp9, rfl, hl9, -, hr9⟩ := hl8.out hout
                rw [HXO.out] at hr9
                obtain ⟨A9, C9, rfl⟩ := own_form hr9.1
                clear hr9 hout hl8
                go_wp2_with fail
                go_meet
                exact ⟨_, _, hl9, HSW.out, HII.out⟩
              · have hk : K = 3 := HK.out
                have hw : W = 0 := HW.out
                subst hk hw
                obtain ⟨hx, hsw⟩ := sil_win0 (o := ⟨F, L, M, R, 3⟩) HNE.out HTX.out HLB.out.1 HOK.out.1 HOK.out.2 HMB.out.2
                have HXO := Lib.hid hx
                have HSW := Lib.hid hsw
                have hin := cin_in wo (sWin 0) (Nat.zero_le _) sWin_ok0 HL6.out.inn
                rw [inn_win0] at hin
                have hii := HI1.out.inn sWin_ok0 (by show (0 : Int) + ((0 : Nat) : Int) ≤ 1000000; decide)
                rw [inn_win0] at hii
                have HIN := Lib.hid hin
                have HII := Lib.hid (hii.write txt).drain
                clear hx hsw hin hii
                go_wp2_with fail
                refine HIN.out.mono ?_
                rintro e wc ⟨rfl, hto⟩
                obtain ⟨fp7, hl7, -⟩ := HL6.out.next hto
                clear hto HIN
                go_wp2_with fail
                refine (cwrite_in _ txt (by have := HTX.out; unfold maxLen; omega) (Nat.zero_le _) hl7.inn).mono ?_
                rintro e wd ⟨rfl, hto⟩
                obtain ⟨fp8, hl8, -⟩ := hl7.next hto
                clear hto hl7
                go_wp2_with fail
                refine (cout_in _ hl8.inn).mono ?_
                intro e we hout
                obtain ⟨v9, fp9, rfl, hl9, -, hr9⟩ := hl8.out hout
                rw [HXO.out] at hr9
                obtain ⟨A9, C9, rfl⟩ := own_form hr9.1
                clear hr9 hout hl8
                go_wp2_with fail
                go_meet
                exact ⟨_, _, hl9, HSW.out, HII.out⟩
          case rest =>
            obtain ⟨fp7, c7, hl7, hs7, hi7⟩ := hcut
            have ho7 := hs7.ot
            have hstart : ∃ (n : Nat) (fp : List Nat) (c : CN) (last gap sent : Int), n ≤ 1500 ∧ 1500 = 1500 - n ∧ (Value.int .i64 0) = .int .i64 sent ∧ (Value.int .i64 0) = .int .i64 last ∧ (Value.int .i64 0) = .int .i64 gap ∧ (Value.int .i64 1) = .int .i64 ((n : Int) + 1) ∧ Live wb wc fp g c ∧ c.Inv 0 (n : Nat) ∧ c.out = [] ∧ 0 ≤ sent ∧ sent ≤ (n : Int) ∧ 0 ≤ last ∧ last ≤ (n : Int) ∧ 0 ≤ gap ∧ gap ≤ 100 ∧ (Sil txt K R n last gap sent c ∨ Over K R sent c) :=
              ⟨0, fp7, c7, 0, 0, 0, by omega, rfl, rfl, rfl, rfl, rfl, hl7, hi7, ho7, by omega, by omega, by omega, by omega, by omega, by omega, Or.inl hs7⟩
            clear hl7 hs7 hi7 ho7 HL6 HW HLB HMB HNOK HOK HFB
            go_wp2_with fail
            go_loopg [19, 20, 21, 22] 1500 (fun gk v19 v20 v21 v22 wr => ∃ (n : Nat) (fp : List Nat) (c : CN) (last gap sent : Int), n ≤ 1500 ∧ gk = 1500 - n ∧ v19 = .int .i64 sent ∧ v20 = .int .i64 last ∧ v21 = .int .i64 gap ∧ v22 = .int .i64 ((n : Int) + 1) ∧ Live wb wr fp g c ∧ c.Inv 0 (n : Nat) ∧ c.out = [] ∧ 0 ≤ sent ∧ sent ≤ (n : Int) ∧ 0 ≤ last ∧ last ≤ (n : Int) ∧ 0 ≤ gap ∧ gap ≤ 100 ∧ (Sil txt K R n last gap sent c ∨ Over K R sent c))
            case atStart => exact hstart
            case round =>
              clear hstart
              obtain ⟨n, fp, c, last, gap, sent, hn, hgk, rfl, rfl, rfl, rfl, hl, hi, hou, s0, s1, t0, t1, g0, g1, hss⟩ := hrel
              by_cases hlt : n < 1500
              · rcases hss with hs | hs
                · have h9 := hs.not9
                  have q1 : decide ((n : Int) + 1 ≤ 1500) = true := by simp; omega
                  have q2 : (c.state == 9) = false := by simpa using h9
                  have hst := cstate_in _ hl.inn
                  obtain ⟨last', gap', sent', hstep, hnext⟩ := hs.step HNE.out HTX.out
                  have hto := c.tick_out
                  rw [hou] at hto
                  have hg' := hs.g1
                  obtain ⟨-, -, k3, k4⟩ := hs.ck
                  have HSTEP := Lib.hid hstep
                  have HNEXT := Lib.hid hnext
                  have HST := Lib.hid hst
                  have HCALM := Lib.hid (hi.calm (by omega))
                  have HI := Lib.hid hi.tick.drain
                  have HL := Lib.hid hl
                  have HTO := Lib.hid hto
                  have HOU := Lib.hid hou
                  clear hs h9 hst hstep hnext hi hl hto hou hg' k3 k4
                  go_wp2_with fail
                  refine HST.out.mono ?_
                  rintro e w' ⟨rfl, rfl⟩
                  clear HST
                  go_wp2_with fail
                  refine (ctick_in _ (by rw [HOU.out]; exact Nat.zero_le _) HCALM.out HL.out.inn).mono ?_
                  rintro e wc2 ⟨rfl, hto⟩
                  obtain ⟨fp1, hl1, -⟩ := HL.out.next hto
                  clear hto HL q2
                  go_wp2_with fail
                  refine (cout_in _ hl1.inn).mono ?_
                  intro e wd hout
                  obtain ⟨vo, fp2, rfl, hl2, -, hr2⟩ := hl1.out hout
                  rcases HSTEP.out with ⟨e, p1, p2, p3⟩ | ⟨x, e, ⟨hfl, p1, p2, p3⟩ | ⟨hfl, p1, p2, p3, b1, b2⟩⟩
                  · subst p1 p2 p3
                    rw [e] at hr2
                    obtain ⟨A2, C2, rfl⟩ := own_form hr2.1
                    clear hr2 hout hl1 HSTEP e
                    go_wp2_with fail
                    go_loopg [19, 20, 21, 24] 0 (fun gk v19 v20 v21 v24 wr => gk = 0 ∧ v19 = .int .i64 sent' ∧ v20 = .int .i64 last' ∧ v21 = .int .i64 gap' ∧ v24 = .int .i64 0 ∧ wr = wd)
                    case atStart => exact ⟨rfl, rfl, rfl, rfl, rfl, rfl⟩
                    case round =>
                      obtain ⟨-, rfl, rfl, rfl, rfl, rfl⟩ := hrel
                      go_wp2_with fail
                      go_roundg (1500 - (n + 1))
                      case measure => exact meas_lt hgk hlt
                      case rel => exact ⟨n + 1, fp2, c.tick.drain, last', gap', sent', by omega, rfl, rfl, rfl, rfl, by go_num, hl2, HI.out.more (Int.le_refl _) (by omega), rfl, by omega, by omega, by omega, by omega, by omega, by omega, cast_next HNEXT.out⟩
                  · subst p1 p2 p3
                    rw [e] at hr2
                    obtain ⟨b2, cap2, rfl, hcap2, -, hc2⟩ := hr2.segs (Nat.zero_lt_succ _) (by show (1 : Nat) ≤ 1000000000; decide)
                    have y4 : wd.cell? ⟨b2, 4, none⟩ = some (.int .i64 x.flags) := hc2 4 _ rfl
                    have qf : (bits .and .i64 x.flags 4 == 0) = false := by unfold hasF at hfl; revert hfl; cases (bits .and .i64 x.flags 4 == 0) <;> simp
                    clear hr2 hout hl1 HSTEP e hc2 hfl
                    go_wp2_with fail
                    go_loopg [19, 20, 21, 24] 1 (fun gk v19 v20 v21 v24 wr => (gk = 1 ∧ v19 = .int .i64 sent' ∧ v20 = .int .i64 last' ∧ v21 = .int .i64 gap' ∧ v24 = .int .i64 0 ∧ wr = wd) ∨ (gk = 0 ∧ v19 = .int .i64 sent' ∧ v20 = .int .i64 last' ∧ v21 = .int .i64 gap' ∧ v24 = .int .i64 1 ∧ wr = wd))
                    case atStart => exact Or.inl ⟨rfl, rfl, rfl, rfl, rfl, rfl⟩
                    case round =>
                      rcases hrel with ⟨hg, rfl, rfl, rfl, rfl, rfl⟩ | ⟨hg, rfl, rfl, rfl, rfl, rfl⟩
                      · go_wp2_with fail
                        go_roundg 0
                        case measure => omega
                        case rel => exact Or.inr ⟨rfl, rfl, rfl, rfl, rfl, rfl⟩
                      · skip
                        go_wp2_with fail
                        go_roundg (1500 - (n + 1))
                        case measure => exact meas_lt hgk hlt
                        case rel => exact ⟨n + 1, fp2, c.tick.drain, last', gap', sent', by omega, rfl, rfl, rfl, rfl, by go_num, hl2, HI.out.more (Int.le_refl _) (by omega), rfl, by omega, by omega, by omega, by omega, by omega, by omega, cast_next HNEXT.out⟩
                  · subst p1 p2 p3
                    rw [e] at hr2
                    obtain ⟨b2, cap2, rfl, hcap2, -, hc2⟩ := hr2.segs (Nat.zero_lt_succ _) (by show (1 : Nat) ≤ 1000000000; decide)
                    have y4 : wd.cell? ⟨b2, 4, none⟩ = some (.int .i64 x.flags) := hc2 4 _ rfl
                    have qf : (bits .and .i64 x.flags 4 == 0) = true := by unfold hasF at hfl; revert hfl; cases (bits .and .i64 x.flags 4 == 0) <;> simp
                    have q5 : decide ((n : Int) + 1 - last < gap) = false := by simp; omega
                    have q6 : decide (100 < (n : Int) + 1 - last) = false := by simp; omega
                    clear hr2 hout hl1 HSTEP e hc2 hfl
                    go_wp2_with fail
                    go_loopg [19, 20, 21, 24] 1 (fun gk v19 v20 v21 v24 wr => (gk = 1 ∧ v19 = .int .i64 sent ∧ v20 = .int .i64 last ∧ v21 = .int .i64 gap ∧ v24 = .int .i64 0 ∧ wr = wd) ∨ (gk = 0 ∧ v19 = .int .i64 (sent + 1) ∧ v20 = .int .i64 ((n : Int) + 1) ∧ v21 = .int .i64 ((n : Int) + 1 - last) ∧ v24 = .int .i64 1 ∧ wr = wd))
                    case atStart => exact Or.inl ⟨rfl, rfl, rfl, rfl, rfl, rfl⟩
                    case round =>
                      rcases hrel with ⟨hg, rfl, rfl, rfl, rfl, rfl⟩ | ⟨hg, rfl, rfl, rfl, rfl, rfl⟩
                      · go_wp2_with fail
                        go_roundg 0
                        case measure => omega
                        case rel => exact Or.inr ⟨rfl, rfl, rfl, rfl, rfl, rfl⟩
                      · skip
                        go_wp2_with fail
                        go_roundg (1500 - (n + 1))
                        case measure => exact meas_lt hgk hlt
                        case rel => exact ⟨n + 1, fp2, c.tick.drain, ((n : Int) + 1), ((n : Int) + 1 - last), (sent + 1), by omega, rfl, rfl, rfl, rfl, by go_num, hl2, HI.out.more (Int.le_refl _) (by omega), rfl, by omega, by omega, by omega, by omega, by omega, by omega, cast_next HNEXT.out⟩
                · obtain ⟨hk3, e9, er, hsR⟩ := hs
                  have hst := cstate_in _ hl.inn
                  rw [e9] at hst
                  have hre := creset_in _ hl.inn
                  rw [er] at hre
                  have y3 : wr.cell? ⟨b, 3, none⟩ = some (.int .i64 R) := (HBW.out.frm hl.frm (by simp)).cell 3
                  have HFR := Lib.hid (HWB.out.next0 hl.frm)
                  have HST := Lib.hid hst
                  have HRE := Lib.hid hre
                  have q7 : (sent == R) = true := by rw [hsR]; simp
                  have HK3 := Lib.hid hk3
                  clear hst hre hk3 e9 er hl hi hou hsR
                  have q1 : decide ((n : Int) + 1 ≤ 1500) = true := by simp; omega
                  rcases a4 with _ | _
                  · go_wp2_with fail
                    refine HST.out.mono ?_
                    rintro e w' ⟨rfl, rfl⟩
                    go_wp2_with fail
                    refine HST.out.mono ?_
                    rintro e w' ⟨rfl, rfl⟩
                    go_wp2_with fail
                    refine HRE.out.mono ?_
                    rintro e w' ⟨rfl, rfl⟩
                    go_wp2_with fail
                    go_ret
                    exact ⟨rfl, HFR.out.below (Nat.le_refl _) (by simp)⟩
                  · rcases a5 with _ | _
                    · go_wp2_with fail
                      refine HST.out.mono ?_
                      rintro e w' ⟨rfl, rfl⟩
                      go_wp2_with fail
                      refine HST.out.mono ?_
                      rintro e w' ⟨rfl, rfl⟩
                      go_wp2_with fail
                      refine HRE.out.mono ?_
                      rintro e w' ⟨rfl, rfl⟩
                      go_wp2_with fail
                      go_ret
                      exact ⟨rfl, HFR.out.below (Nat.le_refl _) (by simp)⟩
                    · exact absurd HK.out HK3.out
              · rcases hss with hs | hs
                · obtain ⟨hk, h14, e2, er⟩ := hs.late (by omega) HRB.out.2
                  have hst := cstate_in _ hl.inn
                  rw [e2] at hst
                  have hre := creset_in _ hl.inn
                  rw [er] at hre
                  have HFR := Lib.hid (HWB.out.next0 hl.frm)
                  have HST := Lib.hid hst
                  have HRE := Lib.hid hre
                  have q7 : decide (14 ≤ sent) = true := by simpa using h14
                  have q8 : decide ((n : Int) + 1 ≤ 1500) = false := by simp; omega
                  have HK3 := Lib.hid hk
                  clear hs hst hre hk e2 er hl hi hou
                  rcases a4 with _ | _
                  · have h1 := HK.out
                    have h2 := HK3.out
                    rw [h2] at h1
                    exact absurd h1 (show ¬ (3 : Nat) = 1 by decide)
                  · rcases a5 with _ | _
                    · have h1 := HK.out
                      have h2 := HK3.out
                      rw [h2] at h1
                      exact absurd h1 (by decide)
                    · go_wp2_with fail
                      refine HST.out.mono ?_
                      rintro e w' ⟨rfl, rfl⟩
                      go_wp2_with fail
                      refine HRE.out.mono ?_
                      rintro e w' ⟨rfl, rfl⟩
                      go_wp2_with fail
                      go_ret
                      exact ⟨rfl, HFR.out.below (Nat.le_refl _) (by simp)⟩
                · obtain ⟨hk3, e9, er, hsR⟩ := hs
                  have hst := cstate_in _ hl.inn
                  rw [e9] at hst
                  have hre := creset_in _ hl.inn
                  rw [er] at hre
                  have y3 : wr.cell? ⟨b, 3, none⟩ = some (.int .i64 R) := (HBW.out.frm hl.frm (by simp)).cell 3
                  have HFR := Lib.hid (HWB.out.next0 hl.frm)
                  have HST := Lib.hid hst
                  have HRE := Lib.hid hre
                  have q7 : (sent == R) = true := by rw [hsR]; simp
                  have HK3 := Lib.hid hk3
                  clear hst hre hk3 e9 er hl hi hou hsR
                  have q1 : decide ((n : Int) + 1 ≤ 1500) = false := by simp; omega
                  rcases a4 with _ | _
                  · go_wp2_with fail
                    refine HST.out.mono ?_
                    rintro e w' ⟨rfl, rfl⟩
                    go_wp2_with fail
                    refine HRE.out.mono ?_
                    rintro e w' ⟨rfl, rfl⟩
                    go_wp2_with fail
                    go_ret
                    exact ⟨rfl, HFR.out.below (Nat.le_refl _) (by simp)⟩
                  · rcases a5 with _ | _
                    · go_wp2_with fail
                      refine HST.out.mono ?_
                      rintro e w' ⟨rfl, rfl⟩
                      go_wp2_with fail
                      refine HRE.out.mono ?_
                      rintro e w' ⟨rfl, rfl⟩
                      go_wp2_with fail
                      go_ret
                      exact ⟨rfl, HFR.out.below (Nat.le_refl _) (by simp)⟩
                    · exact absurd HK.out HK3.out
  · have HNOK := Lib.hid hok
    clear hok
    go_region_held3 (fun w' => w'.cell? ⟨b, 0, none⟩ = some (.int .i64 F) ∧ w'.cell? ⟨b, 1, none⟩ = some (.int .i64 L) ∧ w'.cell? ⟨b, 2, none⟩ = some (.int .i64 M) ∧ w'.cell? ⟨b, 3, none⟩ = some (.int .i64 R) ∧ w'.cell? ⟨b, 4, none⟩ = some (.int .i64 3))
      (first | exact HS0.out _ ((Frm.refl _ _).drewN 1) | exact HS0.out _ hfa | exact HS0.out _ hf5)
      (first
        | (go_at_call 26; refine (syn_any _).mono ?_; rintro e wb ⟨rfl, hf3⟩; have hfa := ((Frm.refl [] wx).drewN 1).next0 hf3)
        | (go_at_call 25; refine (cnew_bad1 sSyn 500 ⟨F, L, M, R, 3⟩ _ (by have h := HNOK.out; show L < 1 ∨ F < L ∨ M < F ∨ 1048576 < M; omega)).mono ?_; rintro e w5 ⟨rfl, hf⟩; have hf5 := hfa.next0 hf))
    go_wp2_with fail
    go_ret
    exact ⟨rfl, (HFWX.out.next0 hf5).below (Nat.le_refl _) (by simp)⟩

set_option maxRecDepth 100000 in
theorem lifted (os : Os) (started : os.Started) (H : Type) (enc : TypeId × Value → H) :
    ReturnsInHanded {} Try.checked os 5 .any (Rows.connSilentSpec.pre6 enc Try.prog Try.f5 Rows.connSilentRow.domain false) (Rows.connSilentSpec.post enc Try.prog Try.f5 false true false false) := by
  refine returnsInHanded_of_change (C := Try.checked) own started (by kernel_rfl) Try.func5
    (ChangeSpec.witness6 (enc := enc) (C := Try.checked) false ⟨#[], #[.int .u8 0, .int .u8 0, .int .u8 0, .int .u8 0, .bool false, .bool false, .string ByteArray.empty], []⟩ 8 (by kernel_rfl) (by kernel_rfl) (by kernel_rfl) (by kernel_rfl)) ?_
  intro W base args ds gs before hval0 hW hcnd _
  have hval : ∀ (j : Nat) t v, Try.f5.params[j]? = some t → args[j]? = some v → Value.okWide Try.prog W .any base t v := hval0
  have hW' := hW
  obtain ⟨p, q, hA0, hV, rfl, hfz, hnd⟩ := hW
  have hA : DataW.TrodAll enc Try.prog W 0 (fun _ => true) true Try.f5.params.toList args.toList ds p := hA0
  rw [Try.params5] at hA hval
  obtain ⟨v0, vs0, d0, ds0, p0, q0, hargs, rfl, rfl, h0, r0⟩ := trodAll_cons hA
  obtain ⟨v1, vs1, d1, ds1, p1, q1, rfl, rfl, rfl, h1, r1⟩ := trodAll_cons r0
  obtain ⟨v2, vs2, d2, ds2, p2, q2, rfl, rfl, rfl, h2, r2⟩ := trodAll_cons r1
  obtain ⟨v3, vs3, d3, ds3, p3, q3, rfl, rfl, rfl, h3, r3⟩ := trodAll_cons r2
  obtain ⟨v4, vs4, d4, ds4, p4, q4, rfl, rfl, rfl, h4, r4⟩ := trodAll_cons r3
  obtain ⟨v5, vs5, d5, ds5, p5, q5, rfl, rfl, rfl, h5, r5⟩ := trodAll_cons r4
  obtain ⟨v6, vs6, d6, ds6, p6, q6, rfl, rfl, rfl, h6, r6⟩ := trodAll_cons r5
  obtain ⟨rfl, rfl, rfl⟩ := trodAll_nil r6
  obtain rfl : args = #[v0, v1, v2, v3, v4, v5, v6] := by cases args; simp_all
  obtain ⟨rfl, rfl⟩ := trodVars_none hV
  obtain ⟨a0, rfl, rfl, rfl, w0⟩ := open_int Try.underlying5 (hval 0 5 v0 rfl rfl) h0
  obtain ⟨a1, rfl, rfl, rfl, w1⟩ := open_int Try.underlying5 (hval 1 5 v1 rfl rfl) h1
  obtain ⟨a2, rfl, rfl, rfl, w2⟩ := open_int Try.underlying5 (hval 2 5 v2 rfl rfl) h2
  obtain ⟨a3, rfl, rfl, rfl, w3⟩ := open_int Try.underlying5 (hval 3 5 v3 rfl rfl) h3
  obtain ⟨a4, rfl, rfl, rfl⟩ := open_bool Try.underlying4 (hval 4 4 v4 rfl rfl) h4
  obtain ⟨a5, rfl, rfl, rfl⟩ := open_bool Try.underlying4 (hval 5 4 v5 rfl rfl) h5
  obtain ⟨a6, rfl, rfl, rfl, w6⟩ := open_string Try.underlying9 (hval 6 9 v6 rfl rfl) h6
  clear hA0 hval0
  refine (walk a0 a1 a2 a3 a4 a5 a6 W w0 w1 w2 w3 w6).mono fun e W' ⟨he, bel⟩ => ?_
  subst he
  exact ⟨_, rfl, _, _, _, [], _, [], hW', trodAll_mk1 (shut_bool Try.underlying4 _), (trodAll_cons_mk (shut_int Try.underlying5 w0) (trodAll_cons_mk (shut_int Try.underlying5 w1) (trodAll_cons_mk (shut_int Try.underlying5 w2) (trodAll_cons_mk (shut_int Try.underlying5 w3) (trodAll_cons_mk (shut_bool Try.underlying4 a4) (trodAll_cons_mk (shut_bool Try.underlying4 a5) (trodAll_cons_mk (shut_string Try.underlying9 w6) trodAll_mk0))))))), rfl, bel.frame _, fun h => by cases h⟩

theorem over : Rows.connSilentRow.holds Try.pinned (OpenSpec.ofChange Rows.connSilentSpec) :=
  OpenClaim.holds_of_wide 5 Try.f5 rfl rfl rfl rfl rfl rfl rfl ⟨rfl, rfl, rfl, rfl, rfl⟩ rfl rfl rfl rfl rfl (by kernel_rfl) Try.func5 (by kernel_rfl)
    (of_decide_eq_true (by kernel_rfl)) (by unfold Func.isWrapper; first | (rw [if_pos (by decide +kernel)]; kernel_rfl) | (rw [if_neg (by decide +kernel)]; exact ⟨rfl, rfl⟩))
    (fun os started H enc _ => lifted os started H enc)

theorem proved : Rows.ConnSilentSaid := over
#print axioms proved
end Go.Proofs.Ytpmlojgngcllfaa.connSilent
