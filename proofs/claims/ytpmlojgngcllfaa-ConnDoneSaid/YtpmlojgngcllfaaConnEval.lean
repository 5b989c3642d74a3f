/- The chapter's examples, in plain words. No walk in sight. -/
import Derived.Test.YtpmlojgngcllfaaConnSpec
namespace Go.Proofs.Ytpmlojgngcllfaa
open Go.RowKit Go

def sSyn : Sg := ⟨9, 10, 100, 0, 2, 1000, 100, []⟩
def tHow : Tp := ⟨10, 2, 60, 3, 5⟩
def sA : Sg := ⟨0, 0, 101, 501, 16, 1000, 0, []⟩
def sHi : Sg := ⟨0, 0, 101, 501, 16, 1000, 0, [104, 105]⟩
def cC : CN := CN.start sSyn 500 tHow

theorem ev_first : cC.out = [⟨10, 9, 500, 101, 18, 2048, 536, []⟩] := by kernel_rfl
theorem ev_l : ((cC.drain.inn sA).inn sHi).out = [⟨10, 9, 501, 103, 16, 2046, 0, []⟩] := by kernel_rfl
theorem ev_state : ((cC.drain.inn sA).inn sHi).drain.state = 2 := by kernel_rfl
theorem ev_got : ((cC.drain.inn sA).inn sHi).drain.got 9 = [104, 105] := by kernel_rfl

def sF : Sg := ⟨0, 0, 103, 504, 17, 0, 0, []⟩
def k1 : CN := cC.drain
def k2 : CN := k1.inn sHi
def k3 : CN := k2.read 9
def k4 : CN := k3.drain
def k5 : CN := k4.write [111, 107]
def k6 : CN := k5.drain
def k7 : CN := k6.close
def k8 : CN := k7.drain
def k9 : CN := k8.inn sF
def k10 : CN := k9.drain
def ticksN : Nat → CN → CN
  | 0, c => c
  | n + 1, c => (ticksN n c).tick
def k14 : CN := ticksN 4 k10
def k15 : CN := k14.tick
def sWant : Sg := ⟨10, 9, 501, 103, 24, 2048, 0, [111, 107]⟩
def sFin : Sg := ⟨10, 9, 503, 103, 17, 2048, 0, []⟩
def sLast : Sg := ⟨10, 9, 504, 104, 16, 2048, 0, []⟩
theorem kv1 : k1.state = 1 := by kernel_rfl
theorem kv2 : k2.out.length = 1 := by kernel_rfl
theorem kv4 : k4.wrote [111, 107] = 2 := by kernel_rfl
theorem kv5 : k5.out = [sWant] := by kernel_rfl
theorem kv7 : k7.state = 3 := by kernel_rfl
theorem kv7o : k7.out = [sFin] := by kernel_rfl
theorem kv9 : k9.state = 6 := by kernel_rfl
theorem kv9o : k9.out = [sLast] := by kernel_rfl
theorem kvt : ∀ n, n < 5 → (ticksN n k10).state = 6 ∧ (ticksN n k10).tries = 0 ∧ (ticksN n k10).o.tries = 3 ∧ (ticksN n k10).lingers = 5 - n ∧ (ticksN n k10).age = 0 ∧ (ticksN n k10).out = []
  | 0, _ => ⟨by kernel_rfl, by kernel_rfl, by kernel_rfl, by kernel_rfl, by kernel_rfl, by kernel_rfl⟩
  | 1, _ => ⟨by kernel_rfl, by kernel_rfl, by kernel_rfl, by kernel_rfl, by kernel_rfl, by kernel_rfl⟩
  | 2, _ => ⟨by kernel_rfl, by kernel_rfl, by kernel_rfl, by kernel_rfl, by kernel_rfl, by kernel_rfl⟩
  | 3, _ => ⟨by kernel_rfl, by kernel_rfl, by kernel_rfl, by kernel_rfl, by kernel_rfl, by kernel_rfl⟩
  | 4, _ => ⟨by kernel_rfl, by kernel_rfl, by kernel_rfl, by kernel_rfl, by kernel_rfl, by kernel_rfl⟩
  | n + 5, h => absurd h (by omega)
theorem kv15 : k15.state = 9 ∧ k15.reset = false ∧ (k15.eof && k15.rb.ready.isEmpty) = true := ⟨by kernel_rfl, by kernel_rfl, by kernel_rfl⟩

end Go.Proofs.Ytpmlojgngcllfaa
