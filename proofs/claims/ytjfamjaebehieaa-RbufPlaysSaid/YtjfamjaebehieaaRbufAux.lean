/- The helper of the rbuf statements: awake answers true. -/
import Derived.Test.YtjfamjaebehieaaRbufHeld
import Derived.Test.YtjfamjaebehieaaRbufAt
import Derived.Test.YtjfamjaebehieaaRbufNo
namespace Go.Proofs.Ytjfamjaebehieaa
open Go.RowKit Go

deriving instance DecidableEq for RB

theorem awake_any (w : World) : Calls Try.prog 8 #[] w fun e w' => e = .returned (.bool true) ∧ Frm [] w w' := by
  go_enter Try.func8, Try.ntmps8
  go_wp2_with fail
  refine (rat_new 10 8 _ (by decide) (by decide) (by decide) (by decide)).mono ?_
  rintro e w0 ⟨g, rfl, h0⟩
  rw [show RB.start 8 10 = (RB.mk 8 10 [] [0, 0, 0, 0, 0, 0, 0, 0] [false, false, false, false, false, false, false, false] 0) from rfl] at h0
  go_wp2_with fail
  refine (rat_put 12 [99, 100] _ (by decide) h0).mono ?_
  rintro e w1 ⟨rfl, h1⟩
  clear h0
  rw [show RB.put (RB.mk 8 10 [] [0, 0, 0, 0, 0, 0, 0, 0] [false, false, false, false, false, false, false, false] 0) 12 [99, 100] = (RB.mk 8 10 [] [0, 0, 99, 100, 0, 0, 0, 0] [false, false, true, true, false, false, false, false] 2) from by decide +kernel] at h1
  rw [show RB.putN (RB.mk 8 10 [] [0, 0, 0, 0, 0, 0, 0, 0] [false, false, false, false, false, false, false, false] 0) 12 [99, 100] = 0 from by decide +kernel]
  go_wp2_with fail
  refine (rat_put 10 [97, 98] _ (by decide) h1).mono ?_
  rintro e w2 ⟨rfl, h2⟩
  clear h1
  rw [show RB.put (RB.mk 8 10 [] [0, 0, 99, 100, 0, 0, 0, 0] [false, false, true, true, false, false, false, false] 2) 10 [97, 98] = (RB.mk 8 14 [97, 98, 99, 100] [0, 0, 0, 0, 0, 0, 0, 0] [false, false, false, false, false, false, false, false] 0) from by decide +kernel] at h2
  rw [show RB.putN (RB.mk 8 10 [] [0, 0, 99, 100, 0, 0, 0, 0] [false, false, true, true, false, false, false, false] 2) 10 [97, 98] = 4 from by decide +kernel]
  go_wp2_with fail
  refine (rat_next _ h2).mono ?_
  rintro e w' ⟨rfl, rfl⟩
  go_wp2_with fail
  refine (rat_read 9 _ h2).mono ?_
  rintro e w3 ⟨rfl, h3⟩
  clear h2
  rw [show RB.read (RB.mk 8 14 [97, 98, 99, 100] [0, 0, 0, 0, 0, 0, 0, 0] [false, false, false, false, false, false, false, false] 0) 9 = (RB.mk 8 14 [] [0, 0, 0, 0, 0, 0, 0, 0] [false, false, false, false, false, false, false, false] 0) from rfl] at h3
  rw [show List.take (RB.take (RB.mk 8 14 [97, 98, 99, 100] [0, 0, 0, 0, 0, 0, 0, 0] [false, false, false, false, false, false, false, false] 0) 9) (RB.mk 8 14 [97, 98, 99, 100] [0, 0, 0, 0, 0, 0, 0, 0] [false, false, false, false, false, false, false, false] 0).ready = [97, 98, 99, 100] from rfl]
  go_wp2_with fail
  go_ret
  exact ⟨rfl, Frm.of_below h3.below⟩

end Go.Proofs.Ytjfamjaebehieaa
