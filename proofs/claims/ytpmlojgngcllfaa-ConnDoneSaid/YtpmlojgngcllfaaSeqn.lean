/- The contracts of package seqn: what Less, In and May return, in any world, leaving the world as it was (up to draws). -/
import Derived.Test.YtpmlojgngcllfaaSeqnA
namespace Go.Proofs.Ytpmlojgngcllfaa
open Go.RowKit Go

theorem less_any (a b : Int) (w : World) :
    Calls Try.prog 63 #[.int .u32 a, .int .u32 b] w fun e w' => e = .returned (.bool (lessB a b)) ∧ w = w' := by
  by_cases h : a = b
  · have h1 : (a != b) = false := by simp [h]
    have hl : lessB a b = false := by simp [lessB, h]
    have HL := Lib.hid hl
    clear hl h
    go_enter Try.func63, Try.ntmps63
    go_wp2
    go_ret
    exact ⟨ret_bool HL.out.symm, rfl⟩
  · have h1 : (a != b) = true := by simp [h]
    have hl : lessB a b = decide ((b - a) % 4294967296 < 2147483648) := by simp [lessB, h, ahd]
    have HL := Lib.hid hl
    clear hl h
    go_enter Try.func63, Try.ntmps63
    go_wp2
    go_ret
    exact ⟨ret_bool HL.out.symm, rfl⟩

theorem in_any (x frm n : Int) (w : World) :
    Calls Try.prog 73 #[.int .u32 x, .int .u32 frm, .int .i64 n] w fun e w' => e = .returned (.bool (inB x frm n)) ∧ w = w' := by
  go_enter Try.func73, Try.ntmps73
  go_wp2_with (go_at_call 57; refine (ahead_any _ _ _).mono ?_; rintro e w' ⟨rfl, rfl⟩)
  go_ret
  exact ⟨rfl, rfl⟩

/-- Whether a segment may count. -/
def mayB (seq len next win : Int) : Bool :=
  if max len 0 = 0 ∧ max win 0 = 0 then decide (seq = next)
  else if max len 0 = 0 then inB seq next (max win 0)
  else if max win 0 = 0 then false
  else inB seq next (max win 0) || inB ((seq + (max len 0 - 1)) % 4294967296) next (max win 0)

theorem ite_neg0 {n : Int} (h : n ≤ 0) : (if n < 0 then 0 else n) = 0 := by split <;> omega
theorem ite_pos0 {n : Int} (h : 0 < n) : (if n < 0 then 0 else n) = n := by split <;> omega

theorem may_any (seq len next win : Int) (w : World) (hl : -9223372036854775808 ≤ len) (hl2 : len ≤ 9223372036854775807) :
    Calls Try.prog 60 #[.int .u32 seq, .int .i64 len, .int .u32 next, .int .i64 win] w fun e w' => e = .returned (.bool (mayB seq len next win)) ∧ w = w' := by
  rcases Int.lt_or_le 0 len with h1 | h1 <;> rcases Int.lt_or_le 0 win with h2 | h2
  · have e1 := ite_pos0 h1
    have e2 := ite_pos0 h2
    have b1 : (len == 0) = false := by simp; omega
    have b2 : (win == 0) = false := by simp; omega
    have hm : mayB seq len next win = (inB seq next win || inB ((seq + (len - 1)) % 4294967296) next win) := by
      unfold mayB
      rw [if_neg (by omega), if_neg (by omega), if_neg (by omega), Int.max_eq_left (by omega), Int.max_eq_left (by omega)]
    have HM := Lib.hid hm
    clear hm
    rcases hb : inB seq next win with _ | _
    all_goals
      have HB := Lib.hid hb
      clear hb
      go_enter Try.func60, Try.ntmps60
      go_wp2_with fail
      refine (in_any _ _ _ _).mono ?_
      rw [HB.out]
      rintro e w' ⟨rfl, rfl⟩
      go_wp2_with (go_at_call 73; refine (in_any _ _ _ _).mono ?_; rintro e w' ⟨rfl, rfl⟩)
      go_ret
      exact ⟨ret_bool (by rw [HM.out, HB.out]; rfl), rfl⟩
  · have e1 := ite_pos0 h1
    have e2 := ite_neg0 h2
    have b1 : (len == 0) = false := by simp; omega
    have hm : mayB seq len next win = false := by
      unfold mayB
      rw [if_neg (by omega), if_neg (by omega), if_pos (by omega)]
    have HM := Lib.hid hm
    clear hm
    go_enter Try.func60, Try.ntmps60
    go_wp2_with fail
    go_ret
    exact ⟨ret_bool HM.out.symm, rfl⟩
  · have e1 := ite_neg0 h1
    have e2 := ite_pos0 h2
    have b2 : (win == 0) = false := by simp; omega
    have hm : mayB seq len next win = inB seq next win := by
      unfold mayB
      rw [if_neg (by omega), if_pos (by omega), Int.max_eq_left (by omega)]
    have HM := Lib.hid hm
    clear hm
    go_enter Try.func60, Try.ntmps60
    go_wp2_with (go_at_call 73; refine (in_any _ _ _ _).mono ?_; rintro e w' ⟨rfl, rfl⟩)
    go_ret
    exact ⟨ret_bool HM.out.symm, rfl⟩
  · have e1 := ite_neg0 h1
    have e2 := ite_neg0 h2
    have hm : mayB seq len next win = decide (seq = next) := by
      unfold mayB
      rw [if_pos (by omega)]
    have HM := Lib.hid hm
    clear hm
    go_enter Try.func60, Try.ntmps60
    go_wp2_with fail
    go_ret
    exact ⟨ret_bool (by rw [HM.out]; rfl), rfl⟩

end Go.Proofs.Ytpmlojgngcllfaa
