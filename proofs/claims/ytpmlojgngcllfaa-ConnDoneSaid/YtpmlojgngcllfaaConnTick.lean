/- The contracts of package conn: again, Tick. -/
import Derived.Test.YtpmlojgngcllfaaConnOut
namespace Go.Proofs.Ytpmlojgngcllfaa
open Go.RowKit Go

theorem CN.Ok.tried {c : CN} (h : c.Ok) (ht : c.tries ≤ c.o.tries) : CN.Ok { c with tries := c.tries + 1 } :=
  ⟨h.sb, h.rb, h.clk, h.opt, h.win, h.mss, by have := h.tr; have := h.opt.t1; show 0 ≤ c.tries + 1 ∧ c.tries + 1 ≤ 101; omega, h.left, h.lin⟩

set_option maxRecDepth 100000 in
set_option maxHeartbeats 2000000 in
theorem cagain1 {B g : Nat} {fp : List Nat} {c : CN} (w : World) (hn : c.out.length ≤ 900000) (htr : c.tries ≤ c.o.tries) (h1 : c.state = 1) (h : CnIn w B fp g c) :
    Calls Try.prog 33 #[.pointer (some ⟨g, 0, none⟩)] w fun e w' => e = .returned (.tuple #[]) ∧ CnTo w w' B fp g c.again := by
  have q1 : (c.state == 1) = true := by simpa using h1
  obtain ⟨R, hR⟩ : ∃ R, c.again = R := ⟨_, rfl⟩
  have hR2 : R = if c.o.tries < c.tries + 1 then CN.finish { c with tries := c.tries + 1 } true else (CN.longer { c with tries := c.tries + 1, measures := false }).hello := by rw [← hR]; unfold CN.again; rw [if_pos h1]
  rw [hR]
  have HR := Lib.hid hR2
  have htb := h.ok.tr
  have hob := h.ok.opt.t1
  have d7 := h.c7
  have d24 := h.c24
  have f24 := h.fz 24
  have hto := CnTo.self (w' := w.setCell ⟨g, 24, none⟩ (.int .i64 (c.tries + 1))) (c' := { c with tries := c.tries + 1 }) h (fun _ _ _ _ hb => hb.set_to 24 _ rfl) ((Frm.refl _ _).setCell (.inl (by simp)) _) rfl rfl rfl rfl (fun h => h.tried htr)
  have HTO := Lib.hid hto
  clear hR hR2 h1 hto h
  go_enter Try.func33, Try.ntmps33
  go_upto_region 2 with fail
  refine wp_world (fun wx => CnTo w wx B fp g { c with tries := c.tries + 1 }) HTO.out ?_
  clear d7 d24 f24 HTO
  rintro wx ⟨fp1, hx, hfx, hix⟩
  have d24 : wx.cell? ⟨g, 24, none⟩ = some (.int .i64 (c.tries + 1)) := hx.c24
  have d5 : wx.cell? ⟨g, 5, none⟩ = some (.int .i64 c.o.tries) := hx.c5
  rcases Int.lt_or_le c.o.tries (c.tries + 1) with ht | ht
  · have q2 : decide (c.o.tries < c.tries + 1) = true := by simpa using ht
    rw [if_pos ht] at HR
    clear ht
    go_quiet (fail)
    go_wp2_with fail
    refine (cend_in _ true (hx.drw (Drw.mk _ _))).mono ?_
    rintro e w1 ⟨rfl, hto⟩
    go_wp2_with fail
    refine bodyPost_ret (results_none rfl _ _ _) rfl ?_
    refine ⟨rfl, ?_⟩
    rw [HR.out]
    exact CnTo.after hfx hix (CnTo.after ((Frm.refl _ _).drewN _) (fun _ h => .inl h) hto)
  · have q2 : decide (c.o.tries < c.tries + 1) = false := by simp; omega
    rw [if_neg (by omega)] at HR
    clear ht
    have f25 := hx.fz 25
    have d25 := hx.c25
    go_quiet (fail)
    go_upto_region 5 with fail
    refine wp_world (fun wx => CnTo w wx B fp g { c with tries := c.tries + 1, measures := false }) (CnTo.after hfx hix (CnTo.self (c' := { c with tries := c.tries + 1, measures := false }) hx (fun _ _ _ _ hb => (hb.drewN _).set_to 25 _ rfl) (((Frm.refl _ _).drewN _).setCell (.inl (by simp)) _) rfl rfl rfl rfl (fun h => h.same rfl rfl rfl rfl rfl rfl rfl rfl rfl))) ?_
    clear d24 d5 f25 d25 hx hfx hix
    rintro wy ⟨fp2, hy, hfy, hiy⟩
    go_wp2_with fail
    refine (clonger_in _ hy).mono ?_
    rintro e w1 ⟨rfl, fp3, hz, hfz, hiz⟩
    go_wp2_with fail
    refine (chello_in _ (by show c.out.length ≤ 1000000; omega) hz).mono ?_
    rintro e w2 ⟨rfl, hto⟩
    go_wp2_with fail
    refine bodyPost_ret (results_none rfl _ _ _) rfl ?_
    refine ⟨rfl, ?_⟩
    rw [HR.out]
    exact CnTo.after hfy hiy (CnTo.after hfz hiz hto)

set_option maxRecDepth 100000 in
set_option maxHeartbeats 2000000 in
theorem cagain2 {B g : Nat} {fp : List Nat} {c : CN} (w : World) (hn : c.out.length ≤ 900000) (h1 : c.state ≠ 1) (hu : c.una = c.top) (h : CnIn w B fp g c) :
    Calls Try.prog 33 #[.pointer (some ⟨g, 0, none⟩)] w fun e w' => e = .returned (.tuple #[]) ∧ CnTo w w' B fp g c.again := by
  have q1 : (c.state == 1) = false := by simpa using h1
  have q2 : (c.una == c.top) = true := by simpa using hu
  obtain ⟨R, hR⟩ : ∃ R, c.again = R := ⟨_, rfl⟩
  have hR2 : R = (c.say ((c.una - 1) % M32) 16 0 []).longer := by rw [← hR]; unfold CN.again; rw [if_neg h1, if_pos hu]
  rw [hR]
  have HR := Lib.hid hR2
  have d7 := h.c7
  have d11 := h.c11
  have d13 := h.c13
  have hno : c.out.length ≤ 1000000 := by omega
  clear hR hR2 h1 hu
  go_enter Try.func33, Try.ntmps33
  go_wp2_with fail
  go_quiet (fail)
  go_wp2_with fail
  refine (csend_in _ ((c.una - 1) % 4294967296) 0 16 [] or_0 hno (h.drw (Drw.mk _ _))).mono ?_
  rintro e w1 ⟨rfl, fp1, hx, hfx, hix⟩
  go_wp2_with fail
  refine (clonger_in _ hx).mono ?_
  rintro e w2 ⟨rfl, hto⟩
  go_wp2_with fail
  refine bodyPost_ret (results_none rfl _ _ _) rfl ?_
  refine ⟨rfl, ?_⟩
  rw [HR.out]
  exact CnTo.after ((Frm.refl _ _).drewN _) (fun _ h => .inl h) (CnTo.after hfx hix hto)

set_option maxRecDepth 100000 in
set_option maxHeartbeats 2000000 in
theorem cagain3 {B g : Nat} {fp : List Nat} {c : CN} (w : World) (hn : c.out.length ≤ 900000) (htr : c.tries ≤ c.o.tries) (h1 : c.state ≠ 1) (hu : c.una ≠ c.top) (h : CnIn w B fp g c) :
    Calls Try.prog 33 #[.pointer (some ⟨g, 0, none⟩)] w fun e w' => e = .returned (.tuple #[]) ∧ CnTo w w' B fp g c.again := by
  have q1 : (c.state == 1) = false := by simpa using h1
  have q2 : (c.una == c.top) = false := by simpa using hu
  obtain ⟨R, hR⟩ : ∃ R, c.again = R := ⟨_, rfl⟩
  obtain ⟨d, hd⟩ : ∃ d : CN, d = if 0 < c.window then { c with tries := c.tries + 1 } else c := ⟨_, rfl⟩
  have hR2 : R = if d.o.tries < d.tries then (d.say d.top 20 0 []).finish true else (CN.piece { d with nxt := d.una, measures := false } (max d.window 1)).longer := by rw [← hR]; unfold CN.again; rw [if_neg h1, if_neg hu, ← hd]
  rw [hR]
  have HR := Lib.hid hR2
  have d7 := h.c7
  have d11 := h.c11
  have d13 := h.c13
  have d18 := h.c18
  have d24 := h.c24
  have f24 := h.fz 24
  have htb := h.ok.tr
  have hob := h.ok.opt.t1
  have hno : d.out.length ≤ 1000000 := by rw [hd]; split <;> (show c.out.length ≤ 1000000; omega)
  clear hR hR2 h1 hu
  rcases Int.lt_or_le 0 c.window with hw | hw
  · rw [if_pos hw] at hd
    have q3 : decide (0 < c.window) = true := by simpa using hw
    have HD := Lib.hid hd
    clear hd hw
    go_enter Try.func33, Try.ntmps33
    go_wp2_with fail
    go_quiet (fail)
    go_upto_region 12 with fail
    refine wp_world (fun wx => CnTo w wx B fp g d) (by rw [HD.out]; exact CnTo.self (c' := { c with tries := c.tries + 1 }) h (fun _ _ _ _ hb => (hb.drewN _).set_to 24 _ rfl) (((Frm.refl _ _).drewN _).setCell (.inl (by simp)) _) rfl rfl rfl rfl (fun h => h.tried htr)) ?_
    clear d7 d11 d13 d18 d24 f24 h q1 q2 q3 htb hob htr
    rintro wx ⟨fp1, hx, hfx, hix⟩
    have d24 := hx.c24
    have d5 := hx.c5
    have d13 := hx.c13
    rcases Int.lt_or_le d.o.tries d.tries with ht | ht
    · have q4 : decide (d.o.tries < d.tries) = true := by simpa using ht
      rw [if_pos ht] at HR
      clear ht
      go_quiet (fail)
      go_wp2_with fail
      refine (csend_in _ d.top 4 20 [] or_4 hno (hx.drw (Drw.mk _ _))).mono ?_
      rintro e w1 ⟨rfl, fp2, hy, hfy, hiy⟩
      go_wp2_with fail
      refine (cend_in _ true hy).mono ?_
      rintro e w2 ⟨rfl, hto⟩
      go_wp2_with fail
      refine bodyPost_ret (results_none rfl _ _ _) rfl ?_
      refine ⟨rfl, ?_⟩
      rw [HR.out]
      exact CnTo.after hfx hix (CnTo.after ((Frm.refl _ _).drewN _) (fun _ h => .inl h) (CnTo.after hfy hiy hto))
    · have q4 : decide (d.o.tries < d.tries) = false := by simp; omega
      rw [if_neg (by omega)] at HR
      clear ht
      have f12 := hx.fz 12
      have f25 := hx.fz 25
      have d12 := hx.c12
      have d25 := hx.c25
      have d11 := hx.c11
      go_quiet (fail)
      go_upto_region 16 with fail
      refine wp_world (fun wx => CnTo w wx B fp g { d with nxt := d.una, measures := false }) (CnTo.after hfx hix (CnTo.self (c' := { d with nxt := d.una, measures := false }) hx (fun _ _ _ _ hb => ((hb.drewN _).set_ 12 _).set_to 25 _ rfl) ((((Frm.refl _ _).drewN _).setCell (.inl (by simp)) _).setCell (.inl (by simp)) _) rfl rfl rfl rfl (fun h => h.same rfl rfl rfl rfl rfl rfl rfl rfl rfl))) ?_
      clear d24 d5 d13 f12 f25 d12 d25 d11 hx hfx hix
      rintro wy ⟨fp2, hy, hfy, hiy⟩
      have d18 : wy.cell? ⟨g, 18, none⟩ = some (.int .i64 d.window) := hy.c18
      obtain ⟨M, hM⟩ : ∃ M, (if d.window < 1 then 1 else d.window) = M := ⟨_, rfl⟩
      have hmx : max d.window 1 = M := by rw [← hM]; split <;> omega
      have HMX := Lib.hid hmx
      clear hmx
      go_wp2_with fail
      refine (cpiece_in (c := { d with nxt := d.una, measures := false }) _ M hno hy).mono ?_
      rintro e w1 ⟨rfl, fp3, hz, hfz, hiz⟩
      clear hM
      go_wp2_with fail
      refine (clonger_in _ hz).mono ?_
      rintro e w2 ⟨rfl, hto⟩
      go_wp2_with fail
      go_end0
      refine ⟨rfl, ?_⟩
      rw [HR.out, HMX.out]
      exact CnTo.after hfy hiy (CnTo.after hfz hiz hto)
  · rw [if_neg (by omega)] at hd
    have q3 : decide (0 < c.window) = false := by simp; omega
    have HD := Lib.hid hd
    clear hd hw
    go_enter Try.func33, Try.ntmps33
    go_wp2_with fail
    go_quiet (fail)
    go_upto_region 12 with fail
    refine wp_world (fun wx => CnTo w wx B fp g d) (by rw [HD.out]; exact h.to.drw (Drw.mk _ _)) ?_
    clear d7 d11 d13 d18 d24 f24 h q1 q2 q3 htb hob htr
    rintro wx ⟨fp1, hx, hfx, hix⟩
    have d24 := hx.c24
    have d5 := hx.c5
    have d13 := hx.c13
    rcases Int.lt_or_le d.o.tries d.tries with ht | ht
    · have q4 : decide (d.o.tries < d.tries) = true := by simpa using ht
      rw [if_pos ht] at HR
      clear ht
      go_quiet (fail)
      go_wp2_with fail
      refine (csend_in _ d.top 4 20 [] or_4 hno (hx.drw (Drw.mk _ _))).mono ?_
      rintro e w1 ⟨rfl, fp2, hy, hfy, hiy⟩
      go_wp2_with fail
      refine (cend_in _ true hy).mono ?_
      rintro e w2 ⟨rfl, hto⟩
      go_wp2_with fail
      refine bodyPost_ret (results_none rfl _ _ _) rfl ?_
      refine ⟨rfl, ?_⟩
      rw [HR.out]
      exact CnTo.after hfx hix (CnTo.after ((Frm.refl _ _).drewN _) (fun _ h => .inl h) (CnTo.after hfy hiy hto))
    · have q4 : decide (d.o.tries < d.tries) = false := by simp; omega
      rw [if_neg (by omega)] at HR
      clear ht
      have f12 := hx.fz 12
      have f25 := hx.fz 25
      have d12 := hx.c12
      have d25 := hx.c25
      have d11 := hx.c11
      go_quiet (fail)
      go_upto_region 16 with fail
      refine wp_world (fun wx => CnTo w wx B fp g { d with nxt := d.una, measures := false }) (CnTo.after hfx hix (CnTo.self (c' := { d with nxt := d.una, measures := false }) hx (fun _ _ _ _ hb => ((hb.drewN _).set_ 12 _).set_to 25 _ rfl) ((((Frm.refl _ _).drewN _).setCell (.inl (by simp)) _).setCell (.inl (by simp)) _) rfl rfl rfl rfl (fun h => h.same rfl rfl rfl rfl rfl rfl rfl rfl rfl))) ?_
      clear d24 d5 d13 f12 f25 d12 d25 d11 hx hfx hix
      rintro wy ⟨fp2, hy, hfy, hiy⟩
      have d18 : wy.cell? ⟨g, 18, none⟩ = some (.int .i64 d.window) := hy.c18
      obtain ⟨M, hM⟩ : ∃ M, (if d.window < 1 then 1 else d.window) = M := ⟨_, rfl⟩
      have hmx : max d.window 1 = M := by rw [← hM]; split <;> omega
      have HMX := Lib.hid hmx
      clear hmx
      go_wp2_with fail
      refine (cpiece_in (c := { d with nxt := d.una, measures := false }) _ M hno hy).mono ?_
      rintro e w1 ⟨rfl, fp3, hz, hfz, hiz⟩
      clear hM
      go_wp2_with fail
      refine (clonger_in _ hz).mono ?_
      rintro e w2 ⟨rfl, hto⟩
      go_wp2_with fail
      go_end0
      refine ⟨rfl, ?_⟩
      rw [HR.out, HMX.out]
      exact CnTo.after hfy hiy (CnTo.after hfz hiz hto)

theorem cagain_in {B g : Nat} {fp : List Nat} {c : CN} (w : World) (hn : c.out.length ≤ 900000) (htr : c.tries ≤ c.o.tries) (h : CnIn w B fp g c) :
    Calls Try.prog 33 #[.pointer (some ⟨g, 0, none⟩)] w fun e w' => e = .returned (.tuple #[]) ∧ CnTo w w' B fp g c.again := by
  by_cases h1 : c.state = 1
  · exact cagain1 w hn htr h1 h
  · by_cases hu : c.una = c.top
    · exact cagain2 w hn h1 hu h
    · exact cagain3 w hn htr h1 hu h

/-- What the timers ask of a connection. -/
structure CN.Calm (c : CN) : Prop where
  tr : c.state ≠ 9 → c.tries ≤ c.o.tries
  lin : c.state = 6 → 1 ≤ c.lingers
  a0 : 0 ≤ c.age
  a1 : c.age ≤ 1000000

set_option maxRecDepth 100000 in
set_option maxHeartbeats 4000000 in
theorem ctick_in {B g : Nat} {fp : List Nat} {c : CN} (w : World) (hn : c.out.length ≤ 900000) (hc : c.Calm) (h : CnIn w B fp g c) :
    Calls Try.prog 11 #[.pointer (some ⟨g, 0, none⟩)] w fun e w' => e = .returned (.tuple #[]) ∧ CnTo w w' B fp g c.tick := by
  have d7 := h.c7
  by_cases h9 : c.state = 9
  · have q1 : (c.state == 9) = true := by simpa using h9
    have ht : c.tick = c := by unfold CN.tick; rw [if_pos h9]
    rw [ht]
    clear h9 ht hc hn
    go_enter Try.func11, Try.ntmps11
    go_wp2_with fail
    refine (cnone_in _ h).mono ?_
    rintro e w' ⟨rfl, rfl⟩
    go_wp2_with fail
    refine bodyPost_ret (results_none rfl _ _ _) rfl ?_
    exact ⟨rfl, h.to⟩
  · have q1 : (c.state == 9) = false := by simpa using h9
    obtain ⟨c1, e1⟩ : ∃ c1, c.tick1 = c1 := ⟨_, rfl⟩
    have ht : c.tick = c1.tick3 := by unfold CN.tick; rw [if_neg h9, e1]
    obtain ⟨R, hR⟩ : ∃ R, c1.tick3 = R := ⟨_, rfl⟩
    rw [ht, hR]
    have hs1 : c1.state = c.state ∧ c1.tries = c.tries ∧ c1.o = c.o ∧ c1.lingers = c.lingers ∧ c1.out = c.out := by rw [← e1]; unfold CN.tick1; split <;> exact ⟨rfl, rfl, rfl, rfl, rfl⟩
    have hn1 : c1.out.length ≤ 900000 := by rw [hs1.2.2.2.2]; exact hn
    have htr : c1.tries ≤ c1.o.tries := by rw [hs1.2.1, hs1.2.2.1]; exact hc.tr h9
    have hli : c1.state = 6 → 1 ≤ c1.lingers := by rw [hs1.1, hs1.2.2.2.1]; exact hc.lin
    have ha0 := hc.a0
    have ha1 := hc.a1
    have d25 := h.c25
    have d27 := h.c27
    have f27 := h.fz 27
    have HR := Lib.hid hR
    have HE1 := Lib.hid e1
    have HL := Lib.hid hli
    clear ht hR e1 hs1 hli hc h9 hn
    go_enter Try.func11, Try.ntmps11
    go_wp2_with fail
    refine (cnone_in _ h).mono ?_
    rintro e w' ⟨rfl, rfl⟩
    go_upto_if 14 with fail
    go_cut [] (fun wy => CnTo w wy B fp g c1)
    case first =>
      rcases hm : c.measures with _ | _
      · have d25' : w.cell? ⟨g, 25, none⟩ = some (.bool false) := d25.trans (by rw [← hm])
        have h1 : c1 = c := by rw [← HE1.out]; unfold CN.tick1; rw [hm]; rfl
        have H1 := Lib.hid h1
        clear d25 hm h1
        go_wp2_with fail
        go_meet
        rw [H1.out]
        exact h.to
      · have d25' : w.cell? ⟨g, 25, none⟩ = some (.bool true) := d25.trans (by rw [← hm])
        have h1 : c1 = { c with age := c.age + 1 } := by rw [← HE1.out]; unfold CN.tick1; rw [hm]; rfl
        have H1 := Lib.hid h1
        clear d25 hm h1
        go_wp2_with fail
        go_meet
        rw [H1.out]
        exact CnTo.self (c' := { c with age := c.age + 1 }) h (fun _ _ _ _ hb => hb.set_to 27 _ rfl) ((Frm.refl _ _).setCell (.inl (by simp)) _) rfl rfl rfl rfl (fun h => h.same rfl rfl rfl rfl rfl rfl rfl rfl rfl)
    case rest =>
      clear d25 d27 f27 d7 h HE1 ha0 ha1
      obtain ⟨fp1, hx, hfx, hix⟩ := hcut
      have d7 := hx.c7
      have d28 := hx.c28
      have f28 := hx.fz 28
      have hlb := hx.ok.lin
      by_cases h6 : c1.state = 6
      · have q6 : (c1.state == 6) = true := by simpa using h6
        have hl1 := HL.out h6
        by_cases hl : c1.lingers = 1
        · have hR2 : R = CN.finish { c1 with lingers := 0 } false := by rw [← HR.out]; unfold CN.tick3; rw [if_pos h6, if_pos hl]
          have HR2 := Lib.hid hR2
          have d28' : wc.cell? ⟨g, 28, none⟩ = some (.int .i64 1) := d28.trans (by rw [hl])
          clear hR2 h6 hl hl1 d28 hlb
          go_upto_region 6 with fail
          refine wp_world (fun wy => CnTo w wy B fp g { c1 with lingers := 0 }) (CnTo.after hfx hix (CnTo.self (c' := { c1 with lingers := 0 }) hx (fun _ _ _ _ hb => hb.set_to 28 _ rfl) ((Frm.refl _ _).setCell (.inl (by simp)) _) rfl rfl rfl rfl (fun h => ⟨h.sb, h.rb, h.clk, h.opt, h.win, h.mss, h.tr, h.left, ⟨Int.le_refl 0, show (0 : Int) ≤ 1048576 by decide⟩⟩))) ?_
          rintro wy ⟨fp2, hy, hfy, hiy⟩
          go_wp2_with fail
          refine (cend_in _ false hy).mono ?_
          rintro e w1 ⟨rfl, hto⟩
          go_wp2_with fail
          refine bodyPost_ret (results_none rfl _ _ _) rfl ?_
          refine ⟨rfl, ?_⟩
          rw [HR2.out]
          exact CnTo.after hfy hiy hto
        · have hR2 : R = CN.tick2 { c1 with lingers := c1.lingers - 1 } := by rw [← HR.out]; unfold CN.tick3; rw [if_pos h6, if_neg hl]
          have HR2 := Lib.hid hR2
          have q7 : (c1.lingers - 1 == 0) = false := by rw [beq_eq_false_iff_ne]; omega
          clear hR2 h6 hl
          go_upto_region 7 with fail
          refine wp_world (fun wy => ∃ c2 : CN, R = c2.tick2 ∧ c2.tries ≤ c2.o.tries ∧ c2.out.length ≤ 900000 ∧ CnTo w wy B fp g c2) ⟨{ c1 with lingers := c1.lingers - 1 }, HR2.out, htr, hn1, CnTo.after hfx hix (CnTo.self (c' := { c1 with lingers := c1.lingers - 1 }) hx (fun _ _ _ _ hb => hb.set_to 28 _ rfl) ((Frm.refl _ _).setCell (.inl (by simp)) _) rfl rfl rfl rfl (fun h => ⟨h.sb, h.rb, h.clk, h.opt, h.win, h.mss, h.tr, h.left, by have := h.lin; show 0 ≤ c1.lingers - 1 ∧ c1.lingers - 1 ≤ 1048576; omega⟩))⟩ ?_
          clear d7 d28 f28 hx hfx hix HR HR2 htr hn1 hlb
          rintro wy ⟨c2, hR3, htr, hn2, fp2, hy, hfy, hiy⟩
          have HR3 := Lib.hid hR3
          have d23 := hy.c23
          have f23 := hy.fz 23
          have hlf := hy.ok.left
          clear hR3
          rcases Int.lt_or_le 0 c2.left with hp | hp
          · have q8 : decide (0 < c2.left) = true := by simpa using hp
            by_cases hl : c2.left = 1
            · have h2 : c2.tick2 = CN.again { c2 with left := 0 } := by unfold CN.tick2; rw [if_pos hp, if_pos hl]
              have H2 := Lib.hid h2
              have d23' : wy.cell? ⟨g, 23, none⟩ = some (.int .i64 1) := d23.trans (by rw [hl])
              have q9 : decide ((0 : Int) < 1) = true := by decide
              clear h2 hp hl d23 q8
              go_upto_region 10 with fail
              refine wp_world (fun wz => CnTo w wz B fp g { c2 with left := 0 }) (CnTo.after hfy hiy (CnTo.self (c' := { c2 with left := 0 }) hy (fun _ _ _ _ hb => hb.set_to 23 _ rfl) ((Frm.refl _ _).setCell (.inl (by simp)) _) rfl rfl rfl rfl (fun h => ⟨h.sb, h.rb, h.clk, h.opt, h.win, h.mss, h.tr, ⟨Int.le_refl 0, show (0 : Int) ≤ 1048576 by decide⟩, h.lin⟩))) ?_
              rintro wz ⟨fp3, hz, hfz, hiz⟩
              go_wp2_with fail
              refine (cagain_in (c := { c2 with left := 0 }) _ hn2 htr hz).mono ?_
              rintro e w1 ⟨rfl, hto⟩
              go_wp2_with fail
              go_end0
              refine ⟨rfl, ?_⟩
              rw [HR3.out, H2.out]
              exact CnTo.after hfz hiz hto
            · have h2 : c2.tick2 = { c2 with left := c2.left - 1 } := by unfold CN.tick2; rw [if_pos hp, if_neg hl]
              have H2 := Lib.hid h2
              have q9 : (c2.left - 1 == 0) = false := by rw [beq_eq_false_iff_ne]; omega
              clear h2 hl
              go_wp2_with fail
              go_end0
              refine ⟨rfl, ?_⟩
              rw [HR3.out, H2.out]
              exact CnTo.after hfy hiy (CnTo.self (c' := { c2 with left := c2.left - 1 }) hy (fun _ _ _ _ hb => hb.set_to 23 _ rfl) ((Frm.refl _ _).setCell (.inl (by simp)) _) rfl rfl rfl rfl (fun h => ⟨h.sb, h.rb, h.clk, h.opt, h.win, h.mss, h.tr, by have := h.left; show 0 ≤ c2.left - 1 ∧ c2.left - 1 ≤ 1048576; omega, h.lin⟩))
          · have q8 : decide (0 < c2.left) = false := by simp; omega
            have h2 : c2.tick2 = c2 := by unfold CN.tick2; rw [if_neg (by omega)]
            have H2 := Lib.hid h2
            clear h2 hp
            go_wp2_with fail
            go_end0
            refine ⟨rfl, ?_⟩
            rw [HR3.out, H2.out]
            exact CnTo.after hfy hiy hy.to
      · have q6 : (c1.state == 6) = false := by simpa using h6
        have hR2 : R = c1.tick2 := by rw [← HR.out]; unfold CN.tick3; rw [if_neg h6]
        have HR2 := Lib.hid hR2
        clear hR2 h6
        go_upto_region 7 with fail
        refine wp_world (fun wy => ∃ c2 : CN, R = c2.tick2 ∧ c2.tries ≤ c2.o.tries ∧ c2.out.length ≤ 900000 ∧ CnTo w wy B fp g c2) ⟨c1, HR2.out, htr, hn1, CnTo.after hfx hix hx.to⟩ ?_
        clear d7 d28 f28 hx hfx hix HR HR2 htr hn1 hlb
        rintro wy ⟨c2, hR3, htr, hn2, fp2, hy, hfy, hiy⟩
        have HR3 := Lib.hid hR3
        have d23 := hy.c23
        have f23 := hy.fz 23
        have hlf := hy.ok.left
        clear hR3
        rcases Int.lt_or_le 0 c2.left with hp | hp
        · have q8 : decide (0 < c2.left) = true := by simpa using hp
          by_cases hl : c2.left = 1
          · have h2 : c2.tick2 = CN.again { c2 with left := 0 } := by unfold CN.tick2; rw [if_pos hp, if_pos hl]
            have H2 := Lib.hid h2
            have d23' : wy.cell? ⟨g, 23, none⟩ = some (.int .i64 1) := d23.trans (by rw [hl])
            have q9 : decide ((0 : Int) < 1) = true := by decide
            clear h2 hp hl d23 q8
            go_upto_region 10 with fail
            refine wp_world (fun wz => CnTo w wz B fp g { c2 with left := 0 }) (CnTo.after hfy hiy (CnTo.self (c' := { c2 with left := 0 }) hy (fun _ _ _ _ hb => hb.set_to 23 _ rfl) ((Frm.refl _ _).setCell (.inl (by simp)) _) rfl rfl rfl rfl (fun h => ⟨h.sb, h.rb, h.clk, h.opt, h.win, h.mss, h.tr, ⟨Int.le_refl 0, show (0 : Int) ≤ 1048576 by decide⟩, h.lin⟩))) ?_
            rintro wz ⟨fp3, hz, hfz, hiz⟩
            go_wp2_with fail
            refine (cagain_in (c := { c2 with left := 0 }) _ hn2 htr hz).mono ?_
            rintro e w1 ⟨rfl, hto⟩
            go_wp2_with fail
            go_end0
            refine ⟨rfl, ?_⟩
            rw [HR3.out, H2.out]
            exact CnTo.after hfz hiz hto
          · have h2 : c2.tick2 = { c2 with left := c2.left - 1 } := by unfold CN.tick2; rw [if_pos hp, if_neg hl]
            have H2 := Lib.hid h2
            have q9 : (c2.left - 1 == 0) = false := by rw [beq_eq_false_iff_ne]; omega
            clear h2 hl
            go_wp2_with fail
            go_end0
            refine ⟨rfl, ?_⟩
            rw [HR3.out, H2.out]
            exact CnTo.after hfy hiy (CnTo.self (c' := { c2 with left := c2.left - 1 }) hy (fun _ _ _ _ hb => hb.set_to 23 _ rfl) ((Frm.refl _ _).setCell (.inl (by simp)) _) rfl rfl rfl rfl (fun h => ⟨h.sb, h.rb, h.clk, h.opt, h.win, h.mss, h.tr, by have := h.left; show 0 ≤ c2.left - 1 ∧ c2.left - 1 ≤ 1048576; omega, h.lin⟩))
        · have q8 : decide (0 < c2.left) = false := by simp; omega
          have h2 : c2.tick2 = c2 := by unfold CN.tick2; rw [if_neg (by omega)]
          have H2 := Lib.hid h2
          clear h2 hp
          go_wp2_with fail
          go_end0
          refine ⟨rfl, ?_⟩
          rw [HR3.out, H2.out]
          exact CnTo.after hfy hiy hy.to

end Go.Proofs.Ytpmlojgngcllfaa
