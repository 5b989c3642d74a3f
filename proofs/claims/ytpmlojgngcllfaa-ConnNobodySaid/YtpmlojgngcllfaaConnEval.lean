/- The chapter's examples, in plain words. No walk in sight. -/
import Derived.Test.YtpmlojgngcllfaaConnSpec
namespace Go.Proofs.Ytpmlojgngcllfaa
open Go.RowKit Go

def sSyn : Sg := ⟨9, 10, 100, 0, 2, 1000, 100, []⟩
def tHow : Tp := ⟨10, 2, 60, 3, 5⟩
def sA : Sg := ⟨0, 0, 101, 501, 16, 1000, 0, []⟩
def sHi : Sg := ⟨0, 0, 101, 501, 16, 1000, 0, [104, 105]⟩
def cC : CN := CN.start sSyn 500 tHow

theorem ev_first : cC.out = [⟨10, 9, 500, 101, 18, 2048, 536, []⟩] := by kernel_rfl
theorem ev_l : ((cC.drain.inn sA).inn sHi).out = [⟨10, 9, 501, 103, 16, 2046, 0, []⟩] := by kernel_rfl
theorem ev_state : ((cC.drain.inn sA).inn sHi).drain.state = 2 := by kernel_rfl
theorem ev_got : ((cC.drain.inn sA).inn sHi).drain.got 9 = [104, 105] := by kernel_rfl

end Go.Proofs.Ytpmlojgngcllfaa
