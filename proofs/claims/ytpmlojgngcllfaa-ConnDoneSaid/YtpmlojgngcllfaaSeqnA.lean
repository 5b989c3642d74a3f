/- How far it is from one number to another one: the contract of Ahead. -/
import Derived.Test.YtpmlojgngcllfaaMem
namespace Go.Proofs.Ytpmlojgngcllfaa
open Go.RowKit Go

/-- How far it is from a to b, round 2^32. -/
def ahd (a b : Int) : Int := (b - a) % 4294967296
def lessB (a b : Int) : Bool := decide (a ≠ b ∧ ahd a b < 2147483648)
def inB (x frm n : Int) : Bool := decide (ahd frm x < n)

theorem ahd_bd (a b : Int) : 0 ≤ ahd a b ∧ ahd a b < 4294967296 := by unfold ahd; omega

theorem ahead_any (a b : Int) (w : World) :
    Calls Try.prog 57 #[.int .u32 a, .int .u32 b] w fun e w' => e = .returned (.int .i64 (ahd a b)) ∧ w = w' := by
  go_enter Try.func57, Try.ntmps57
  go_wp2
  go_ret
  exact ⟨rfl, rfl⟩

end Go.Proofs.Ytpmlojgngcllfaa
