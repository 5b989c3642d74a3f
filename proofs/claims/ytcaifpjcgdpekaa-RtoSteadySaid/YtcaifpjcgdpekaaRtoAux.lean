/- The helper of the rto statements: awake answers true. -/
import Derived.Test.YtcaifpjcgdpekaaRtoRef
namespace Go.Proofs.Ytcaifpjcgdpekaa
open Go.RowKit Go

theorem awake_any (w : World) : Calls Try.prog 11 #[] w fun e w' => e = .returned (.bool true) ∧ Frm [] w w' := by
  have o1 : (Clk.start 30 2 60).Ok := Clk.start_ok (by decide) (by decide) (by decide) (by decide)
  have o2 := o1.measure 10
  have e2 : (Clk.start 30 2 60).measure 10 = ⟨2, 60, 80, 20, true, 30⟩ := rfl
  have o3 := o2.back
  have e3 : ((Clk.start 30 2 60).measure 10).back = ⟨2, 60, 80, 20, true, 60⟩ := rfl
  have m2 : ((Clk.start 30 2 60).measure 10).most ≠ 0 := by rw [e2]; decide
  have m3 : ((Clk.start 30 2 60).measure 10).back.most ≠ 0 := by rw [e3]; decide
  have r2 : ((Clk.start 30 2 60).measure 10).wait = 30 := by rw [e2]
  have r3 : ((Clk.start 30 2 60).measure 10).back.wait = 60 := by rw [e3]
  clear e2 e3
  go_enter Try.func11, Try.ntmps11
  go_wp2_with fail
  refine (new_ok 30 2 60 _ (by decide) (by decide) (by decide) (by decide)).mono ?_
  rintro e w1 ⟨rfl, hb1, hf1, _⟩
  go_wp2_with fail
  refine (measure_blk _ _ 10 _ o1 hb1).mono ?_
  rintro e w2 ⟨rfl, hb2, hf2⟩
  go_wp2_with fail
  refine (wait_blk _ _ _ m2 hb2).mono ?_
  rintro e w3 ⟨rfl, rfl⟩
  rw [r2]
  go_wp2_with fail
  refine (back_blk _ _ _ o2 hb2).mono ?_
  rintro e w3 ⟨rfl, hb3, hf3⟩
  go_wp2_with fail
  refine (wait_blk _ _ _ m3 hb3).mono ?_
  rintro e w4 ⟨rfl, rfl⟩
  rw [r3]
  go_wp2_with fail
  go_ret
  exact ⟨rfl, (hf1.next1 hf2 (by simp)).next1 hf3 (by simp)⟩

end Go.Proofs.Ytcaifpjcgdpekaa
