/- The helper of the sbuf statements: awake answers true. -/
import Derived.Test.YtljgmlgdafijcaaSbufNo
namespace Go.Proofs.Ytljgmlgdafijcaa
open Go.RowKit Go

theorem awake_any (w : World) : Calls Try.prog 12 #[] w fun e w' => e = .returned (.bool true) ∧ Frm [] w w' := by
  go_enter Try.func12, Try.ntmps12
  go_wp2_with fail
  refine (snew_ok 4294967294 5 _ (by decide) (by decide)).mono ?_
  rintro e wa ⟨rfl, hb0, hf0⟩
  have ho0 : (SB.mk 5 4294967294 []).Ok := SB.new_ok (by decide) (by decide) (by decide) (by decide)
  have F0 : Frm [] w wa := hf0
  go_wp2_with fail
  refine (swrite_blk _ _ [97, 98, 99, 100, 101, 102, 103] _ ho0 (by decide) hb0).mono ?_
  rintro e w1 ⟨rfl, hb1, hf1⟩
  have E1 : (SB.write (SB.mk 5 4294967294 []) [97, 98, 99, 100, 101, 102, 103]) = (SB.mk 5 4294967294 [97, 98, 99, 100, 101]) := rfl
  have ho1 := ho0.write [97, 98, 99, 100, 101, 102, 103]
  rw [E1] at hb1 ho1
  have F1 := F0.next1 hf1 (.inr (Nat.le_refl _))
  clear hb0 E1 hf1 F0
  rw [show SB.fits (SB.mk 5 4294967294 []) [97, 98, 99, 100, 101, 102, 103] = 5 from by decide]
  go_wp2_with fail
  refine (sget_blk _ _ 4294967295 2 _ ho1 hb1).mono ?_
  rintro e w2 ⟨rfl, d2⟩
  have hb2 := d2.blk hb1
  have ho2 := ho1
  have F2 := d2.next F1
  clear hb1 F1
  rw [show SB.get (SB.mk 5 4294967294 [97, 98, 99, 100, 101]) 4294967295 2 = [98, 99] from by decide]
  go_wp2_with fail
  refine (sack_blk _ _ 1 _ ho2 hb2).mono ?_
  rintro e w3 ⟨rfl, hb3, hf3⟩
  have E3 : (SB.ack (SB.mk 5 4294967294 [97, 98, 99, 100, 101]) 1) = (SB.mk 5 1 [100, 101]) := rfl
  have ho3 := ho2.ack (n := 1) (by decide) (by decide)
  rw [E3] at hb3 ho3
  have F3 := F2.next1 hf3 (.inr (Nat.le_refl _))
  clear hb2 E3 hf3 F2
  rw [show SB.gone (SB.mk 5 4294967294 [97, 98, 99, 100, 101]) 1 = 3 from by decide]
  go_wp2_with fail
  refine (suna_blk _ _ _ ho3 hb3).mono ?_
  rintro e w' ⟨rfl, rfl⟩
  go_wp2_with fail
  refine (send_blk _ _ _ ho3 hb3).mono ?_
  rintro e w' ⟨rfl, rfl⟩
  go_wp2_with fail
  go_ret
  exact ⟨rfl, F3⟩

end Go.Proofs.Ytljgmlgdafijcaa
