/- The contracts of package rto: a clock that lies in a block of its own. -/
import Derived.Test.YtpmlojgngcllfaaMem
namespace Go.Proofs.Ytpmlojgngcllfaa
open Go.RowKit Go

/-- A clock's fields. -/
structure Clk where
  least : Int
  most : Int
  mean : Int
  vary : Int
  meas : Bool
  wait : Int
def Clk.cells (c : Clk) : Array Value := #[.int .i64 c.least, .int .i64 c.most, .int .i64 c.mean, .int .i64 c.vary, .bool c.meas, .int .i64 c.wait]
theorem Clk.at_ {c : Clk} {w : World} {g : Nat} {t : TypeId} (h : Blk w g t c.cells) :
    w.cell? ⟨g, 0, none⟩ = some (.int .i64 c.least) ∧ w.cell? ⟨g, 1, none⟩ = some (.int .i64 c.most) ∧ w.cell? ⟨g, 2, none⟩ = some (.int .i64 c.mean) ∧
      w.cell? ⟨g, 3, none⟩ = some (.int .i64 c.vary) ∧ w.cell? ⟨g, 4, none⟩ = some (.bool c.meas) ∧ w.cell? ⟨g, 5, none⟩ = some (.int .i64 c.wait) :=
  ⟨h.cell 0, h.cell 1, h.cell 2, h.cell 3, h.cell 4, h.cell 5⟩
structure Clk.Ok (c : Clk) : Prop where
  l1 : 1 ≤ c.least
  l2 : c.least ≤ c.wait
  l3 : c.wait ≤ c.most
  l4 : c.most ≤ 1048576
  m1 : 0 ≤ c.mean
  m2 : c.mean ≤ 8388608
  v1 : 0 ≤ c.vary
  v2 : c.vary ≤ 4194307
def clip (lo hi n : Int) : Int := min (max n lo) hi
def Clk.set (c : Clk) (n : Int) : Clk := { c with wait := clip c.least c.most n }
def Clk.back (c : Clk) : Clk := c.set (2 * c.wait)
def Clk.meet (c : Clk) (r : Int) : Clk :=
  if c.meas then { c with vary := c.vary + (max (r - c.mean / 8) (-(r - c.mean / 8)) - c.vary / 4), mean := c.mean + (r - c.mean / 8) }
  else { c with mean := 8 * r, vary := 2 * r, meas := true }
def Clk.measure (c : Clk) (r : Int) : Clk := (c.meet (clip 0 1048576 r)).set ((c.meet (clip 0 1048576 r)).mean / 8 + max (c.meet (clip 0 1048576 r)).vary 1)

theorem none_nil (w : World) : Calls Try.prog 77 #[.pointer none] w fun e w' => e = .returned (.bool true) ∧ w = w' := by
  go_enter Try.func77, Try.ntmps77
  go_wp2
  go_ret
  exact ⟨rfl, rfl⟩

theorem none_blk (g : Nat) (c : Clk) (w : World) (hm : c.most ≠ 0) (hb : Blk w g 89 c.cells) :
    Calls Try.prog 77 #[.pointer (some ⟨g, 0, none⟩)] w fun e w' => e = .returned (.bool false) ∧ w = w' := by
  have hc : w.cell? ⟨g, 1, none⟩ = some (.int .i64 c.most) := hb.cell 1
  have hz : (c.most == 0) = false := by simpa using hm
  clear hb
  go_enter Try.func77, Try.ntmps77
  go_wp2
  go_ret
  exact ⟨rfl, rfl⟩

theorem none_bare (g : Nat) (w : World) (hc : w.cell? ⟨g, 1, none⟩ = some (.int .i64 0)) :
    Calls Try.prog 77 #[.pointer (some ⟨g, 0, none⟩)] w fun e w' => e = .returned (.bool true) ∧ w = w' := by
  go_enter Try.func77, Try.ntmps77
  go_wp2
  go_ret
  exact ⟨rfl, rfl⟩

theorem wait_nil (w : World) : Calls Try.prog 70 #[.pointer none] w fun e w' => e = .returned (.int .i64 0) ∧ w = w' := by
  go_enter Try.func70, Try.ntmps70
  go_wp2_with (go_at_call 77; refine (none_nil _).mono ?_; rintro e w' ⟨rfl, rfl⟩)
  go_ret
  exact ⟨rfl, rfl⟩

theorem wait_blk (g : Nat) (c : Clk) (w : World) (hm : c.most ≠ 0) (hb : Blk w g 89 c.cells) :
    Calls Try.prog 70 #[.pointer (some ⟨g, 0, none⟩)] w fun e w' => e = .returned (.int .i64 c.wait) ∧ w = w' := by
  have hc : w.cell? ⟨g, 5, none⟩ = some (.int .i64 c.wait) := hb.cell 5
  go_enter Try.func70, Try.ntmps70
  go_wp2_with (go_at_call 77; refine (none_blk g c _ hm hb).mono ?_; rintro e w' ⟨rfl, rfl⟩)
  go_ret
  exact ⟨rfl, rfl⟩

/-- set, with the clipped number named by cases. -/
theorem set_blk (g : Nat) (c : Clk) (n : Int) (w : World) (hlm : c.least ≤ c.most) (hb : Blk w g 89 c.cells) :
    Calls Try.prog 78 #[.pointer (some ⟨g, 0, none⟩), .int .i64 n] w fun e w' => e = .returned (.tuple #[]) ∧ Blk w' g 89 (c.set n).cells ∧ Frm [g] w w' := by
  have c0 : w.cell? ⟨g, 0, none⟩ = some (.int .i64 c.least) := hb.cell 0
  have c1 : w.cell? ⟨g, 1, none⟩ = some (.int .i64 c.most) := hb.cell 1
  have c5 : w.cell? ⟨g, 5, none⟩ = some (.int .i64 c.wait) := hb.cell 5
  have f5 := hb.frozen 5
  go_enter Try.func78, Try.ntmps78
  go_wp2
  go_region
  go_end0
  refine ⟨rfl, ?_, ?_⟩
  · refine (hb.drew.set_to 5 _ ?_)
    simp only [Clk.cells, Clk.set, clip]
    simp
    split <;> (try split) <;> omega
  · exact ((Frm.refl _ _).drew.setCell (.inl (by simp)) _)

theorem back_blk (g : Nat) (c : Clk) (w : World) (hc : c.Ok) (hb : Blk w g 89 c.cells) :
    Calls Try.prog 71 #[.pointer (some ⟨g, 0, none⟩)] w fun e w' => e = .returned (.tuple #[]) ∧ Blk w' g 89 c.back.cells ∧ Frm [g] w w' := by
  have hm : c.most ≠ 0 := by have := hc.l1; have := hc.l2; have := hc.l3; omega
  have h1 := hc.l1
  have h2 := hc.l2
  have h3 := hc.l3
  have h4 := hc.l4
  have c5 : w.cell? ⟨g, 5, none⟩ = some (.int .i64 c.wait) := hb.cell 5
  go_enter Try.func71, Try.ntmps71
  go_wp2_with (go_at_call 77; refine (none_blk g c _ hm hb).mono ?_; rintro e w' ⟨rfl, rfl⟩)
  refine (set_blk g c _ _ (by omega) hb).mono ?_
  rintro e w' ⟨rfl, hb', hf⟩
  go_wp2
  go_end0
  exact ⟨rfl, hb', hf⟩

theorem back_nil (w : World) : Calls Try.prog 71 #[.pointer none] w fun e w' => e = .returned (.tuple #[]) ∧ w = w' := by
  go_enter Try.func71, Try.ntmps71
  go_wp2_with (go_at_call 77; refine (none_nil _).mono ?_; rintro e w' ⟨rfl, rfl⟩)
  go_end0
  exact ⟨rfl, rfl⟩

theorem measure_nil (r : Int) (w : World) : Calls Try.prog 66 #[.pointer none, .int .i64 r] w fun e w' => e = .returned (.tuple #[]) ∧ w = w' := by
  go_enter Try.func66, Try.ntmps66
  go_wp2_with (go_at_call 77; refine (none_nil _).mono ?_; rintro e w' ⟨rfl, rfl⟩)
  refine bodyPost_ret (results_none rfl _ _ _) rfl ?_
  exact ⟨rfl, rfl⟩

theorem measure_bare (g : Nat) (r : Int) (w : World) (hc : w.cell? ⟨g, 1, none⟩ = some (.int .i64 0)) :
    Calls Try.prog 66 #[.pointer (some ⟨g, 0, none⟩), .int .i64 r] w fun e w' => e = .returned (.tuple #[]) ∧ w = w' := by
  go_enter Try.func66, Try.ntmps66
  go_wp2_with (go_at_call 77; refine (none_bare g _ hc).mono ?_; rintro e w' ⟨rfl, rfl⟩)
  refine bodyPost_ret (results_none rfl _ _ _) rfl ?_
  exact ⟨rfl, rfl⟩
theorem back_bare (g : Nat) (w : World) (hc : w.cell? ⟨g, 1, none⟩ = some (.int .i64 0)) :
    Calls Try.prog 71 #[.pointer (some ⟨g, 0, none⟩)] w fun e w' => e = .returned (.tuple #[]) ∧ w = w' := by
  go_enter Try.func71, Try.ntmps71
  go_wp2_with (go_at_call 77; refine (none_bare g _ hc).mono ?_; rintro e w' ⟨rfl, rfl⟩)
  go_end0
  exact ⟨rfl, rfl⟩
theorem wait_bare (g : Nat) (w : World) (hc : w.cell? ⟨g, 1, none⟩ = some (.int .i64 0)) :
    Calls Try.prog 70 #[.pointer (some ⟨g, 0, none⟩)] w fun e w' => e = .returned (.int .i64 0) ∧ w = w' := by
  go_enter Try.func70, Try.ntmps70
  go_wp2_with (go_at_call 77; refine (none_bare g _ hc).mono ?_; rintro e w' ⟨rfl, rfl⟩)
  go_ret
  exact ⟨rfl, rfl⟩

theorem clip_ite (r : Int) : (if 1048576 < (if r < 0 then 0 else r) then 1048576 else (if r < 0 then 0 else r)) = clip 0 1048576 r := by
  unfold clip
  split <;> split <;> omega

theorem measure_blk (g : Nat) (c : Clk) (r : Int) (w : World) (hc : c.Ok) (hb : Blk w g 89 c.cells) :
    Calls Try.prog 66 #[.pointer (some ⟨g, 0, none⟩), .int .i64 r] w fun e w' => e = .returned (.tuple #[]) ∧ Blk w' g 89 (c.measure r).cells ∧ Frm [g] w w' := by
  have hm : c.most ≠ 0 := by have := hc.l1; have := hc.l2; have := hc.l3; omega
  obtain ⟨h1, h2, h3, h4, h5, h6, h7, h8⟩ := hc
  have hlm : c.least ≤ c.most := by omega
  have c4 : w.cell? ⟨g, 4, none⟩ = some (.bool c.meas) := hb.cell 4
  have c3 : w.cell? ⟨g, 3, none⟩ = some (.int .i64 c.vary) := hb.cell 3
  have c2 : w.cell? ⟨g, 2, none⟩ = some (.int .i64 c.mean) := hb.cell 2
  have f2 := hb.frozen 2
  have f3 := hb.frozen 3
  have f4 := hb.frozen 4
  have hcl := clip_ite r
  have r0 : 0 ≤ clip 0 1048576 r := by unfold clip; omega
  have r1 : clip 0 1048576 r ≤ 1048576 := by unfold clip; omega
  have hlm' : (c.meet (clip 0 1048576 r)).least ≤ (c.meet (clip 0 1048576 r)).most := by unfold Clk.meet; split <;> exact hlm
  generalize hR : clip 0 1048576 r = R at hcl r0 r1 hlm'
  have HR := Lib.hid hR
  clear hR
  generalize hM : (if r < 0 then 0 else r) = M at hcl
  rcases hme : c.meas with _ | _
  · rw [hme] at c4
    have HE := Lib.hid hme
    clear hme
    have e8 : 8 * R / 8 = R := by omega
    go_enter Try.func66, Try.ntmps66
    go_wp2_with (go_at_call 77; refine (none_blk g c _ hm hb).mono ?_; rintro e w' ⟨rfl, rfl⟩)
    refine wp_world (fun w1 => Blk w1 g 89 (c.meet R).cells ∧ Frm [g] w w1) ⟨?_, ?_⟩ ?_
    · refine (((hb.set_ 2 _).set_ 3 _).set_ 4 _).as_ ?_
      unfold Clk.meet
      rw [HE.out]
      rfl
    · exact (((Frm.refl _ _).setCell (.inl (by simp)) _).setCell (.inl (by simp)) _).setCell (.inl (by simp)) _
    clear c4 c3 c2 f2 f3 f4 hb
    rintro w1 ⟨hb1, hf1⟩
    have c2 : w1.cell? ⟨g, 2, none⟩ = some (.int .i64 (8 * R)) := by rw [hb1.cell 2]; unfold Clk.meet; rw [HE.out]; rfl
    have c3 : w1.cell? ⟨g, 3, none⟩ = some (.int .i64 (2 * R)) := by rw [hb1.cell 3]; unfold Clk.meet; rw [HE.out]; rfl
    have hfin : c.measure r = (c.meet R).set (R + max (2 * R) 1) := by
      unfold Clk.measure
      rw [HR.out]
      unfold Clk.meet
      rw [HE.out]
      simp only [Bool.false_eq_true, if_false]
      rw [e8]
    have HF := Lib.hid hfin
    clear hfin
    have e9 : (if 2 * R < 1 then 1 else 2 * R) = max (2 * R) 1 := by split <;> omega
    have v0 : max (2 * R) 1 ≤ 2097152 := by omega
    have v1 : 1 ≤ max (2 * R) 1 := by omega
    generalize max (2 * R) 1 = V at *
    go_still_tail 12, (by kernel_rfl)
    go_wp2_with fail
    refine (set_blk g (c.meet R) _ _ hlm' hb1.drew).mono ?_
    rintro e w' ⟨rfl, hb', hf⟩
    go_wp2
    go_end0
    exact ⟨rfl, by rw [HF.out]; exact hb', hf1.drew.trans hf⟩
  · rw [hme] at c4
    have HE := Lib.hid hme
    clear hme
    obtain ⟨Q, hQ⟩ : ∃ Q, c.mean / 8 = Q := ⟨_, rfl⟩
    have q0 : 0 ≤ Q := by omega
    have q1 : Q ≤ 1048576 := by omega
    obtain ⟨V4, hV4⟩ : ∃ V4, c.vary / 4 = V4 := ⟨_, rfl⟩
    have v0 : 0 ≤ V4 := by omega
    have v1 : V4 ≤ c.vary := by omega
    obtain ⟨A, hA⟩ : ∃ A, (if R - Q < -(R - Q) then -(R - Q) else R - Q) = A := ⟨_, rfl⟩
    have a0 : 0 ≤ A := by rw [← hA]; split <;> omega
    have a1 : A ≤ 1048576 := by rw [← hA]; split <;> omega
    have hAm : A = max (R - Q) (-(R - Q)) := by rw [← hA]; split <;> omega
    have HA := Lib.hid hAm
    clear hAm
    have hmeet : c.meet R = { c with vary := c.vary + (A - V4), mean := c.mean + (R - Q) } := by
      unfold Clk.meet
      rw [HE.out, HA.out, hQ, hV4]
      rfl
    have HMt := Lib.hid hmeet
    clear hmeet
    have hv8 : c.vary + (A - V4) ≤ 4194307 := by omega
    have hv7 : 0 ≤ c.vary + (A - V4) := by omega
    have hm7 : 0 ≤ c.mean + (R - Q) := by omega
    have hm8 : c.mean + (R - Q) ≤ 8388608 := by omega
    go_enter Try.func66, Try.ntmps66
    go_wp2_with (go_at_call 77; refine (none_blk g c _ hm hb).mono ?_; rintro e w' ⟨rfl, rfl⟩)
    go_region
    go_wp2_with fail
    refine wp_world (fun w1 => Blk w1 g 89 (c.meet R).cells ∧ Frm [g] w w1) ⟨?_, ?_⟩ ?_
    · refine (((hb.set_ 3 _).set_ 2 _).drew).as_ ?_
      rw [HMt.out]
      rfl
    · exact (((Frm.refl _ _).setCell (.inl (by simp)) _).setCell (.inl (by simp)) _).drew
    clear c4 c3 c2 f2 f3 f4 hb
    rintro w1 ⟨hb1, hf1⟩
    have c2 : w1.cell? ⟨g, 2, none⟩ = some (.int .i64 (c.mean + (R - Q))) := by rw [hb1.cell 2, HMt.out]; rfl
    have c3 : w1.cell? ⟨g, 3, none⟩ = some (.int .i64 (c.vary + (A - V4))) := by rw [hb1.cell 3, HMt.out]; rfl
    have hfin : c.measure r = (c.meet R).set ((c.mean + (R - Q)) / 8 + max (c.vary + (A - V4)) 1) := by
      unfold Clk.measure
      rw [HR.out, HMt.out]
    have HF := Lib.hid hfin
    clear hfin
    clear hA hQ hV4
    generalize c.vary + (A - V4) = vv at *
    generalize c.mean + (R - Q) = mm at *
    have e9 : (if vv < 1 then 1 else vv) = max vv 1 := by split <;> omega
    have v0 : max vv 1 ≤ 4194307 := by omega
    have v1 : 1 ≤ max vv 1 := by omega
    generalize max vv 1 = V at *
    have u0 : 0 ≤ mm / 8 := by omega
    have u1 : mm / 8 ≤ 1048576 := by omega
    go_still_tail 12, (by kernel_rfl)
    go_wp2_with fail
    refine (set_blk g (c.meet R) _ _ hlm' hb1.drew).mono ?_
    rintro e w' ⟨rfl, hb', hf⟩
    go_wp2
    go_end0
    exact ⟨rfl, by rw [HF.out]; exact hb', hf1.drew.trans hf⟩

theorem new_bad (first least most : Int) (w : World) (h : least < 1 ∨ first < least ∨ most < first ∨ 1048576 < most) :
    Calls Try.prog 49 #[.int .i64 first, .int .i64 least, .int .i64 most] w fun e w' => e = .returned (.tuple #[.pointer none, .int .i64 1]) ∧ w = w' := by
  by_cases h1 : least < 1
  · clear h
    go_enter Try.func49, Try.ntmps49
    go_wp2
    go_ret2
    exact ⟨rfl, rfl⟩
  by_cases h2 : first < least
  · clear h
    go_enter Try.func49, Try.ntmps49
    go_wp2
    go_ret2
    exact ⟨rfl, rfl⟩
  by_cases h3 : most < first
  · clear h
    go_enter Try.func49, Try.ntmps49
    go_wp2
    go_ret2
    exact ⟨rfl, rfl⟩
  · have h4 : 1048576 < most := by omega
    clear h
    go_enter Try.func49, Try.ntmps49
    go_wp2
    go_ret2
    exact ⟨rfl, rfl⟩

def Clk.start (first least most : Int) : Clk := ⟨least, most, 0, 0, false, first⟩
theorem Clk.start_ok {first least most : Int} (h1 : 1 ≤ least) (h2 : least ≤ first) (h3 : first ≤ most) (h4 : most ≤ 1048576) : (Clk.start first least most).Ok :=
  ⟨h1, h2, h3, h4, Int.le_refl 0, show (0 : Int) ≤ 8388608 by decide, Int.le_refl 0, show (0 : Int) ≤ 4194307 by decide⟩

theorem new_ok (first least most : Int) (w : World) (h1 : 1 ≤ least) (h2 : least ≤ first) (h3 : first ≤ most) (h4 : most ≤ 1048576) :
    Calls Try.prog 49 #[.int .i64 first, .int .i64 least, .int .i64 most] w fun e w' =>
      e = .returned (.tuple #[.pointer (some ⟨w.heap.size, 0, none⟩), .int .i64 0]) ∧ Blk w' w.heap.size 89 (Clk.start first least most).cells ∧ Frm [] w w' ∧ w'.heap.size = w.heap.size + 1 := by
  go_enter Try.func49, Try.ntmps49
  go_wp2
  go_ret2
  exact ⟨rfl, Blk.new _ _ _, (Frm.refl _ _).alloc _, by simp⟩

theorem clip_ok {lo hi n : Int} (h : lo ≤ hi) : lo ≤ clip lo hi n ∧ clip lo hi n ≤ hi := by unfold clip; omega

theorem Clk.Ok.back {c : Clk} (h : c.Ok) : c.back.Ok := by
  obtain ⟨h1, h2, h3, h4, h5, h6, h7, h8⟩ := h
  have := clip_ok (lo := c.least) (hi := c.most) (n := 2 * c.wait) (by omega)
  exact ⟨h1, this.1, this.2, h4, h5, h6, h7, h8⟩

theorem Clk.Ok.measure {c : Clk} (h : c.Ok) (r : Int) : (c.measure r).Ok := by
  obtain ⟨h1, h2, h3, h4, h5, h6, h7, h8⟩ := h
  have hr : 0 ≤ clip 0 1048576 r ∧ clip 0 1048576 r ≤ 1048576 := clip_ok (by decide)
  unfold Clk.measure
  generalize clip 0 1048576 r = R at *
  obtain ⟨r0, r1⟩ := hr
  unfold Clk.meet
  split
  · have := clip_ok (lo := c.least) (hi := c.most) (n := (c.mean + (R - c.mean / 8)) / 8 + max (c.vary + (max (R - c.mean / 8) (-(R - c.mean / 8)) - c.vary / 4)) 1) (by omega)
    exact ⟨h1, this.1, this.2, h4, by simp only [Clk.set]; omega, by simp only [Clk.set]; omega, by simp only [Clk.set]; omega, by simp only [Clk.set]; omega⟩
  · have := clip_ok (lo := c.least) (hi := c.most) (n := 8 * R / 8 + max (2 * R) 1) (by omega)
    exact ⟨h1, this.1, this.2, h4, by simp only [Clk.set]; omega, by simp only [Clk.set]; omega, by simp only [Clk.set]; omega, by simp only [Clk.set]; omega⟩

end Go.Proofs.Ytpmlojgngcllfaa
