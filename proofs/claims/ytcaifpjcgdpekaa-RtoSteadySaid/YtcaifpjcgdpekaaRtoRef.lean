/- The reference's clock answers as the program's. -/
import Derived.Test.YtcaifpjcgdpekaaRto
namespace Go.Proofs.Ytcaifpjcgdpekaa
open Go.RowKit Go

theorem clip_spell (lo hi n : Int) (h : lo ≤ hi) : (if hi < (if n < lo then lo else n) then hi else (if n < lo then lo else n)) = clip lo hi n := by
  unfold clip
  split <;> split <;> omega

theorem rbound_any (c : Clk) (n : Int) (w : World) (hlm : c.least ≤ c.most) :
    Calls Try.prog 17 #[.agg c.cells, .int .i64 n] w fun e w' => e = .returned (.agg (c.set n).cells) ∧ Frm [] w w' := by
  obtain ⟨least, most, mean, vary, meas, wait⟩ := c
  show Calls Try.prog 17 #[.agg #[.int .i64 least, .int .i64 most, .int .i64 mean, .int .i64 vary, .bool meas, .int .i64 wait], .int .i64 n] w _
  rcases Int.lt_or_le n least with h1 | h1
  · have hs : (Clk.set ⟨least, most, mean, vary, meas, wait⟩ n) = ⟨least, most, mean, vary, meas, least⟩ := by
      simp only [Clk.set, clip, Clk.mk.injEq, true_and]
      simp only at hlm
      omega
    have HS := Lib.hid hs
    clear hs
    have hlm' : ¬ most < least := by simp only at hlm; omega
    clear hlm
    go_enter Try.func17, Try.ntmps17
    go_wp2
    refine bodyPost_ret (v := .agg #[.int .i64 least, .int .i64 most, .int .i64 mean, .int .i64 vary, .bool meas, .int .i64 least]) (by simp [results, Try.results17, go_sem]) rfl ⟨by rw [HS.out]; rfl, ?_⟩
    exact (by repeat (first | exact Frm.refl _ _ | apply Frm.drew | apply Frm.alloc | refine Frm.setCell ?_ (.inr (by simp)) _))
  · rcases Int.lt_or_le most n with h2 | h2
    · have hs : (Clk.set ⟨least, most, mean, vary, meas, wait⟩ n) = ⟨least, most, mean, vary, meas, most⟩ := by
        simp only [Clk.set, clip, Clk.mk.injEq, true_and]
        simp only at hlm
        omega
      have HS := Lib.hid hs
      clear hs hlm
      go_enter Try.func17, Try.ntmps17
      go_wp2
      refine bodyPost_ret (v := .agg #[.int .i64 least, .int .i64 most, .int .i64 mean, .int .i64 vary, .bool meas, .int .i64 most]) (by simp [results, Try.results17, go_sem]) rfl ⟨by rw [HS.out]; rfl, ?_⟩
      exact (by repeat (first | exact Frm.refl _ _ | apply Frm.drew | apply Frm.alloc | refine Frm.setCell ?_ (.inr (by simp)) _))
    · have hs : (Clk.set ⟨least, most, mean, vary, meas, wait⟩ n) = ⟨least, most, mean, vary, meas, n⟩ := by
        simp only [Clk.set, clip, Clk.mk.injEq, true_and]
        simp only at hlm
        omega
      have HS := Lib.hid hs
      clear hs hlm
      go_enter Try.func17, Try.ntmps17
      go_wp2
      refine bodyPost_ret (v := .agg #[.int .i64 least, .int .i64 most, .int .i64 mean, .int .i64 vary, .bool meas, .int .i64 n]) (by simp [results, Try.results17, go_sem]) rfl ⟨by rw [HS.out]; rfl, ?_⟩
      exact (by repeat (first | exact Frm.refl _ _ | apply Frm.drew | apply Frm.alloc | refine Frm.setCell ?_ (.inr (by simp)) _))

theorem rback_any (c : Clk) (w : World) (hc : c.Ok) :
    Calls Try.prog 14 #[.agg c.cells] w fun e w' => e = .returned (.agg c.back.cells) ∧ Frm [] w w' := by
  obtain ⟨h1, h2, h3, h4, h5, h6, h7, h8⟩ := hc
  have hlm : c.least ≤ c.most := by omega
  have hb := fun W => rbound_any c (2 * c.wait) W hlm
  obtain ⟨least, most, mean, vary, meas, wait⟩ := c
  show Calls Try.prog 14 #[.agg #[.int .i64 least, .int .i64 most, .int .i64 mean, .int .i64 vary, .bool meas, .int .i64 wait]] w _
  simp only at h1 h2 h3 h4
  have HB := Lib.hid hb
  clear hb hlm h5 h6 h7 h8
  go_enter Try.func14, Try.ntmps14
  go_wp2_with fail
  refine (HB.out _).mono ?_
  rintro e w' ⟨rfl, hf⟩
  have hb2 : Blk w' (w.heap.size + 1) 33 #[.int .i64 0, .int .i64 0, .int .i64 0, .int .i64 0, .bool false, .int .i64 0] := by
    refine Blk.frm (ex := []) ?_ hf (by simp)
    exact Blk.new_at (by simp) _ _
  obtain ⟨rc, rf⟩ := hb2.rules
  simp only [Clk.set, Clk.cells]
  go_wp2
  refine bodyPost_ret (v := .agg #[.int .i64 least, .int .i64 most, .int .i64 mean, .int .i64 vary, .bool meas, .int .i64 (clip least most (2 * wait))]) (by simp [results, Try.results14, go_sem, rc]) rfl ⟨rfl, ?_⟩
  repeat (refine Frm.setCell ?_ (.inr (by simp)) _)
  exact (((Frm.refl _ _).alloc _).alloc _).trans hf

theorem rmeasure_any (c : Clk) (r : Int) (w : World) (hc : c.Ok) :
    Calls Try.prog 13 #[.agg c.cells, .int .i64 r] w fun e w' => e = .returned (.agg (c.measure r).cells) ∧ Frm [] w w' := by
  obtain ⟨h1, h2, h3, h4, h5, h6, h7, h8⟩ := hc
  have hcl := clip_ite r
  have r0 : 0 ≤ clip 0 1048576 r := by unfold clip; omega
  have r1 : clip 0 1048576 r ≤ 1048576 := by unfold clip; omega
  have hlm' : (c.meet (clip 0 1048576 r)).least ≤ (c.meet (clip 0 1048576 r)).most := by unfold Clk.meet; split <;> simp only <;> omega
  have hdef : c.measure r = (c.meet (clip 0 1048576 r)).set ((c.meet (clip 0 1048576 r)).mean / 8 + max (c.meet (clip 0 1048576 r)).vary 1) := rfl
  generalize hR : clip 0 1048576 r = R at hcl r0 r1 hlm' hdef
  clear hR
  have HD := Lib.hid hdef
  clear hdef
  obtain ⟨least, most, mean, vary, meas, wait⟩ := c
  simp only at h1 h2 h3 h4 h5 h6 h7 h8
  show Calls Try.prog 13 #[.agg #[.int .i64 least, .int .i64 most, .int .i64 mean, .int .i64 vary, .bool meas, .int .i64 wait], .int .i64 r] w _
  generalize hM : (if r < 0 then 0 else r) = M at hcl
  have HM := Lib.hid hM
  have HC := Lib.hid hcl
  clear hM hcl
  go_enter Try.func13, Try.ntmps13
  go_upto_if 9 with fail
  go_cut [1] (fun s1 wx => s1 = .int .i64 M ∧ ((w.alloc (.cells #[.int .i64 least, .int .i64 most, .int .i64 mean, .int .i64 vary, .bool meas, .int .i64 wait] 33)).alloc (.cells #[.int .i64 0, .int .i64 0, .int .i64 0, .int .i64 0, .bool false, .int .i64 0] 33)) = wx)
  case first =>
    go_wp2_with fail
    all_goals (go_meet; exact ⟨by rw [← HM.out]; first | rw [if_pos (by omega)] | rw [if_neg (by omega)], rfl⟩)
  case rest =>
    obtain ⟨rfl, rfl⟩ := hcut
    go_upto_if 11 with fail
    go_cut [1] (fun s1 wx => s1 = .int .i64 R ∧ ((w.alloc (.cells #[.int .i64 least, .int .i64 most, .int .i64 mean, .int .i64 vary, .bool meas, .int .i64 wait] 33)).alloc (.cells #[.int .i64 0, .int .i64 0, .int .i64 0, .int .i64 0, .bool false, .int .i64 0] 33)) = wx)
    case first =>
      go_wp2_with fail
      all_goals (go_meet; exact ⟨by rw [← HC.out]; first | rw [if_pos (by omega)] | rw [if_neg (by omega)], rfl⟩)
    case rest =>
      obtain ⟨rfl, rfl⟩ := hcut
      rcases meas with _ | _
      · have hv : (Clk.measure ⟨least, most, mean, vary, false, wait⟩ r) = Clk.set ⟨least, most, 8 * R, 2 * R, true, wait⟩ (R + max (2 * R) 1) := by
          rw [HD.out]
          show Clk.set ⟨least, most, 8 * R, 2 * R, true, wait⟩ (8 * R / 8 + max (2 * R) 1) = _
          rw [show 8 * R / 8 = R from by omega]
        have v0 : max (2 * R) 1 ≤ 2097152 := by omega
        have v1 : 1 ≤ max (2 * R) 1 := by omega
        have v2 : (if 2 * R < 1 then 1 else 2 * R) = max (2 * R) 1 := by split <;> omega
        generalize max (2 * R) 1 = V at hv v0 v1 v2
        have HV := Lib.hid hv
        have HW := Lib.hid v2
        clear hv v2 HD hlm'
        go_upto_if 49 with fail
        go_cut [7] (fun s7 wx => s7 = .int .i64 V ∧ ((w.alloc (.cells #[.int .i64 least, .int .i64 most, .int .i64 (8 * R), .int .i64 (2 * R), .bool true, .int .i64 wait] 33)).alloc (.cells #[.int .i64 0, .int .i64 0, .int .i64 0, .int .i64 0, .bool false, .int .i64 0] 33)) = wx)
        case first =>
          go_wp2_with fail
          all_goals (go_meet; exact ⟨by rw [← HW.out]; first | rw [if_pos (by omega)] | rw [if_neg (by omega)], rfl⟩)
        case rest =>
          obtain ⟨rfl, rfl⟩ := hcut
          go_wp2_with fail
          refine (rbound_any ⟨least, most, 8 * R, 2 * R, true, wait⟩ _ _ (by simp only; omega)).mono ?_
          rintro e w' ⟨rfl, hf⟩
          have hb2 : Blk w' (w.heap.size + 1) 33 #[.int .i64 0, .int .i64 0, .int .i64 0, .int .i64 0, .bool false, .int .i64 0] := by
            refine Blk.frm (ex := []) ?_ hf (by simp)
            exact Blk.new_at (by simp) _ _
          obtain ⟨rc, rf⟩ := hb2.rules
          simp only [Clk.set, Clk.cells]
          go_wp2
          refine bodyPost_ret (v := .agg #[.int .i64 least, .int .i64 most, .int .i64 (8 * R), .int .i64 (2 * R), .bool true, .int .i64 (clip least most (R + V))]) (by simp [results, Try.results13, go_sem, rc]) rfl ⟨?_, ?_⟩
          · rw [HV.out]; rfl
          · repeat (refine Frm.setCell ?_ (.inr (by simp)) _)
            exact (((Frm.refl _ _).alloc _).alloc _).trans hf
      · have q0 : 0 ≤ mean / 8 := by omega
        have q1 : mean / 8 ≤ 1048576 := by omega
        obtain ⟨Q, hQ⟩ : ∃ Q, mean / 8 = Q := ⟨_, rfl⟩
        obtain ⟨V4, hV4⟩ : ∃ V4, vary / 4 = V4 := ⟨_, rfl⟩
        have v40 : 0 ≤ V4 := by omega
        have v41 : V4 ≤ vary := by omega
        obtain ⟨A, hA⟩ : ∃ A, max (R - Q) (-(R - Q)) = A := ⟨_, rfl⟩
        have a0 : 0 ≤ A := by omega
        have a1 : A ≤ 1048576 := by omega
        have hAi : (if R - Q < 0 then -(R - Q) else R - Q) = A := by split <;> omega
        have hv : (Clk.measure ⟨least, most, mean, vary, true, wait⟩ r) = Clk.set ⟨least, most, mean + (R - Q), vary + A - V4, true, wait⟩ ((mean + (R - Q)) / 8 + max (vary + A - V4) 1) := by
          rw [HD.out]
          show Clk.set ⟨least, most, mean + (R - mean / 8), vary + (max (R - mean / 8) (-(R - mean / 8)) - vary / 4), true, wait⟩ ((mean + (R - mean / 8)) / 8 + max (vary + (max (R - mean / 8) (-(R - mean / 8)) - vary / 4)) 1) = _
          rw [hQ, hV4, hA, Int.add_sub_assoc]
        have v0 : max (vary + A - V4) 1 ≤ 5242883 := by omega
        have v1 : 1 ≤ max (vary + A - V4) 1 := by omega
        have v2 : (if vary + A - V4 < 1 then 1 else vary + A - V4) = max (vary + A - V4) 1 := by split <;> omega
        have v3 : 0 ≤ mean + (R - Q) := by omega
        have v5 : mean + (R - Q) ≤ 8388608 := by omega
        generalize max (vary + A - V4) 1 = V at hv v0 v1 v2
        have HV := Lib.hid hv
        have HW := Lib.hid v2
        have HA := Lib.hid hAi
        clear hv v2 HD hlm' hA hAi
        go_upto_if 29 with fail
        go_cut [6] (fun s6 wx => s6 = .int .i64 A ∧ ((w.alloc (.cells #[.int .i64 least, .int .i64 most, .int .i64 (mean), .int .i64 (vary), .bool true, .int .i64 wait] 33)).alloc (.cells #[.int .i64 0, .int .i64 0, .int .i64 0, .int .i64 0, .bool false, .int .i64 0] 33)) = wx)
        case first =>
          go_wp2_with fail
          all_goals (go_meet; exact ⟨by rw [← HA.out]; first | rw [if_pos (by omega)] | rw [if_neg (by omega)], rfl⟩)
        case rest =>
          obtain ⟨rfl, rfl⟩ := hcut
          go_upto_if 49 with fail
          go_cut [7] (fun s7 wx => s7 = .int .i64 V ∧ ((w.alloc (.cells #[.int .i64 least, .int .i64 most, .int .i64 (mean + (R - Q)), .int .i64 (vary + A - V4), .bool true, .int .i64 wait] 33)).alloc (.cells #[.int .i64 0, .int .i64 0, .int .i64 0, .int .i64 0, .bool false, .int .i64 0] 33)) = wx)
          case first =>
            go_wp2_with fail
            all_goals (go_meet; exact ⟨by rw [← HW.out]; first | rw [if_pos (by omega)] | rw [if_neg (by omega)], rfl⟩)
          case rest =>
            obtain ⟨rfl, rfl⟩ := hcut
            go_wp2_with fail
            refine (rbound_any ⟨least, most, mean + (R - Q), vary + A - V4, true, wait⟩ _ _ (by simp only; omega)).mono ?_
            rintro e w' ⟨rfl, hf⟩
            have hb2 : Blk w' (w.heap.size + 1) 33 #[.int .i64 0, .int .i64 0, .int .i64 0, .int .i64 0, .bool false, .int .i64 0] := by
              refine Blk.frm (ex := []) ?_ hf (by simp)
              exact Blk.new_at (by simp) _ _
            obtain ⟨rc, rf⟩ := hb2.rules
            simp only [Clk.set, Clk.cells]
            go_wp2
            refine bodyPost_ret (v := .agg #[.int .i64 least, .int .i64 most, .int .i64 (mean + (R - Q)), .int .i64 (vary + A - V4), .bool true, .int .i64 (clip least most ((mean + (R - Q)) / 8 + V))]) (by simp [results, Try.results13, go_sem, rc]) rfl ⟨?_, ?_⟩
            · rw [HV.out]; rfl
            · repeat (refine Frm.setCell ?_ (.inr (by simp)) _)
              exact (((Frm.refl _ _).alloc _).alloc _).trans hf

theorem rnew_ok (first least most : Int) (w : World) (h1 : 1 ≤ least) (h2 : least ≤ first) (h3 : first ≤ most) (h4 : most ≤ 1048576) :
    Calls Try.prog 12 #[.int .i64 first, .int .i64 least, .int .i64 most] w fun e w' =>
      e = .returned (.tuple #[.agg (Clk.start first least most).cells, .int .i64 0]) ∧ Frm [] w w' := by
  go_enter Try.func12, Try.ntmps12
  go_wp2
  refine bodyPost_ret (v := .tuple #[.agg #[.int .i64 least, .int .i64 most, .int .i64 0, .int .i64 0, .bool false, .int .i64 first], .int .i64 0]) (by simp [results, Try.results12, go_sem]) rfl ⟨rfl, ?_⟩
  repeat (refine Frm.setCell ?_ (.inr (by simp)) _)
  repeat (first | exact Frm.refl _ _ | refine Frm.alloc ?_ _)

theorem rnew_bad (first least most : Int) (w : World) (h : least < 1 ∨ first < least ∨ most < first ∨ 1048576 < most) :
    Calls Try.prog 12 #[.int .i64 first, .int .i64 least, .int .i64 most] w fun e w' =>
      e = .returned (.tuple #[.agg (Clk.start 0 0 0).cells, .int .i64 1]) ∧ Frm [] w w' := by
  by_cases h1 : least < 1
  · clear h
    go_enter Try.func12, Try.ntmps12
    go_wp2
    refine bodyPost_ret (v := .tuple #[.agg #[.int .i64 0, .int .i64 0, .int .i64 0, .int .i64 0, .bool false, .int .i64 0], .int .i64 1]) (by simp [results, Try.results12, go_sem]) rfl ⟨rfl, ?_⟩
    repeat (refine Frm.setCell ?_ (.inr (by simp)) _)
    repeat (first | exact Frm.refl _ _ | refine Frm.alloc ?_ _)
  by_cases h2 : first < least
  · clear h
    go_enter Try.func12, Try.ntmps12
    go_wp2
    refine bodyPost_ret (v := .tuple #[.agg #[.int .i64 0, .int .i64 0, .int .i64 0, .int .i64 0, .bool false, .int .i64 0], .int .i64 1]) (by simp [results, Try.results12, go_sem]) rfl ⟨rfl, ?_⟩
    repeat (refine Frm.setCell ?_ (.inr (by simp)) _)
    repeat (first | exact Frm.refl _ _ | refine Frm.alloc ?_ _)
  by_cases h3 : most < first
  · clear h
    go_enter Try.func12, Try.ntmps12
    go_wp2
    refine bodyPost_ret (v := .tuple #[.agg #[.int .i64 0, .int .i64 0, .int .i64 0, .int .i64 0, .bool false, .int .i64 0], .int .i64 1]) (by simp [results, Try.results12, go_sem]) rfl ⟨rfl, ?_⟩
    repeat (refine Frm.setCell ?_ (.inr (by simp)) _)
    repeat (first | exact Frm.refl _ _ | refine Frm.alloc ?_ _)
  · have h4 : 1048576 < most := by omega
    clear h
    go_enter Try.func12, Try.ntmps12
    go_wp2
    refine bodyPost_ret (v := .tuple #[.agg #[.int .i64 0, .int .i64 0, .int .i64 0, .int .i64 0, .bool false, .int .i64 0], .int .i64 1]) (by simp [results, Try.results12, go_sem]) rfl ⟨rfl, ?_⟩
    repeat (refine Frm.setCell ?_ (.inr (by simp)) _)
    repeat (first | exact Frm.refl _ _ | refine Frm.alloc ?_ _)

end Go.Proofs.Ytcaifpjcgdpekaa
