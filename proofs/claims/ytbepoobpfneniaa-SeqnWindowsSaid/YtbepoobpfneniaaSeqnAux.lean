/- The helper of the seqn statements: awake answers true; the reference's functions answer as the program's. -/
import Derived.Test.YtbepoobpfneniaaSeqn
namespace Go.Proofs.Ytbepoobpfneniaa
open Go.RowKit Go

theorem awake_any (w : World) : Calls Try.prog 12 #[] w fun e w' => e = .returned (.bool true) ∧ w = w' := by
  have e1 : ahd 5 3 = 4294967294 := by decide
  have e2 : lessB 4294967295 2 = true := by decide
  have e3 : inB 2 4294967295 4 = true := by decide
  have e4 : mayB 8 2 9 5 = true := by decide
  go_enter Try.func12, Try.ntmps12
  go_wp2_with (first
    | (go_at_call 13; refine (ahead_any _ _ _).mono ?_; rintro e w' ⟨rfl, rfl⟩)
    | (go_at_call 9; refine (less_any _ _ _).mono ?_; rintro e w' ⟨rfl, rfl⟩)
    | (go_at_call 10; refine (in_any _ _ _ _).mono ?_; rintro e w' ⟨rfl, rfl⟩)
    | (go_at_call 11; refine (may_any _ _ _ _ _ (by omega) (by omega)).mono ?_; rintro e w' ⟨rfl, rfl⟩))
  go_ret
  exact ⟨rfl, rfl⟩

theorem rahead_any (a b : Int) (ha : 0 ≤ a) (ha' : a < 4294967296) (hb : 0 ≤ b) (hb' : b < 4294967296) (w : World) :
    Calls Try.prog 14 #[.int .u32 a, .int .u32 b] w fun e w' => e = .returned (.int .i64 (ahd a b)) ∧ w = w' := by
  rcases Int.lt_or_le b a with h | h
  · have hm : ahd a b = b - a + 4294967296 := by unfold ahd; omega
    have HM := Lib.hid hm
    clear hm
    go_enter Try.func14, Try.ntmps14
    go_wp2_with fail
    go_ret
    exact ⟨ret_int HM.out.symm, rfl⟩
  · have hm : ahd a b = b - a := by unfold ahd; omega
    have HM := Lib.hid hm
    clear hm
    go_enter Try.func14, Try.ntmps14
    go_wp2_with fail
    go_ret
    exact ⟨ret_int HM.out.symm, rfl⟩

theorem rless_any (a b : Int) (ha : 0 ≤ a) (ha' : a < 4294967296) (hb : 0 ≤ b) (hb' : b < 4294967296) (w : World) :
    Calls Try.prog 15 #[.int .u32 a, .int .u32 b] w fun e w' => e = .returned (.bool (lessB a b)) ∧ w = w' := by
  obtain ⟨h0, h1⟩ := ahd_bd a b
  have hl : lessB a b = decide (1 ≤ ahd a b ∧ ahd a b ≤ 2147483647) := by
    unfold lessB
    rw [decide_eq_decide]
    unfold ahd
    omega
  have HL := Lib.hid hl
  clear hl
  rcases Int.lt_or_le 0 (ahd a b) with h | h
  · have h2 : decide (1 ≤ ahd a b) = true := by simp; omega
    go_enter Try.func15, Try.ntmps15
    go_wp2_with (go_at_call 14; refine (rahead_any _ _ ha ha' hb hb' _).mono ?_; rintro e w' ⟨rfl, rfl⟩)
    all_goals go_ret
    all_goals exact ⟨ret_bool (by rw [HL.out]; simp; omega), rfl⟩
  · have h2 : decide (1 ≤ ahd a b) = false := by simp; omega
    go_enter Try.func15, Try.ntmps15
    go_wp2_with (go_at_call 14; refine (rahead_any _ _ ha ha' hb hb' _).mono ?_; rintro e w' ⟨rfl, rfl⟩)
    all_goals go_ret
    all_goals exact ⟨ret_bool (by rw [HL.out]; simp; omega), rfl⟩

theorem rin_any (x frm n : Int) (hx : 0 ≤ x) (hx' : x < 4294967296) (hf : 0 ≤ frm) (hf' : frm < 4294967296) (w : World) :
    Calls Try.prog 16 #[.int .u32 x, .int .u32 frm, .int .i64 n] w fun e w' => e = .returned (.bool (inB x frm n)) ∧ w = w' := by
  obtain ⟨h0, h1⟩ := ahd_bd frm x
  rcases Int.lt_or_le 0 n with h | h
  · go_enter Try.func16, Try.ntmps16
    go_wp2_with (go_at_call 14; refine (rahead_any _ _ hf hf' hx hx' _).mono ?_; rintro e w' ⟨rfl, rfl⟩)
    all_goals go_ret
    all_goals exact ⟨rfl, rfl⟩
  · have hl : inB x frm n = false := by unfold inB; simp; omega
    have HL := Lib.hid hl
    clear hl
    go_enter Try.func16, Try.ntmps16
    go_wp2_with (go_at_call 14; refine (rahead_any _ _ hf hf' hx hx' _).mono ?_; rintro e w' ⟨rfl, rfl⟩)
    all_goals go_ret
    all_goals exact ⟨ret_bool HL.out.symm, rfl⟩

theorem rmay_any (seq len next win : Int) (hs : 0 ≤ seq) (hs' : seq < 4294967296) (hn : 0 ≤ next) (hn' : next < 4294967296) (w : World) (hl2 : len ≤ 9223372036854775807) :
    Calls Try.prog 17 #[.int .u32 seq, .int .i64 len, .int .u32 next, .int .i64 win] w fun e w' => e = .returned (.bool (mayB seq len next win)) ∧ w = w' := by
  rcases Int.lt_or_le 0 len with h1 | h1 <;> rcases Int.lt_or_le 0 win with h2 | h2
  · have b1 : (len == 0) = false := by simp; omega
    have b2 : (win == 0) = false := by simp; omega
    have hm : mayB seq len next win = (inB seq next win || inB ((seq + len - 1) % 4294967296) next win) := by
      unfold mayB
      rw [if_neg (by omega), if_neg (by omega), if_neg (by omega), Int.max_eq_left (by omega), Int.max_eq_left (by omega), Int.add_sub_assoc]
    have HM := Lib.hid hm
    clear hm
    rcases hb : inB seq next win with _ | _
    all_goals
      have HB := Lib.hid hb
      clear hb
      go_enter Try.func17, Try.ntmps17
      go_wp2_with fail
      go_ways
      refine (rin_any _ _ _ (by omega) (by omega) (by omega) (by omega) _).mono ?_
      rw [HB.out]
      rintro e w' ⟨rfl, rfl⟩
      go_wp2_with (go_at_call 16; refine (rin_any _ _ _ (by omega) (by omega) (by omega) (by omega) _).mono ?_; rintro e w' ⟨rfl, rfl⟩)
      go_ret
      exact ⟨ret_bool (by rw [HM.out, HB.out]; rfl), rfl⟩
  · have b1 : (len == 0) = false := by simp; omega
    have hm : mayB seq len next win = false := by
      unfold mayB
      rw [if_neg (by omega), if_neg (by omega), if_pos (by omega)]
    have HM := Lib.hid hm
    clear hm
    go_enter Try.func17, Try.ntmps17
    go_wp2_with fail
    all_goals go_ret
    all_goals exact ⟨ret_bool HM.out.symm, rfl⟩
  · have b2 : (win == 0) = false := by simp; omega
    have hm : mayB seq len next win = inB seq next win := by
      unfold mayB
      rw [if_neg (by omega), if_pos (by omega), Int.max_eq_left (by omega)]
    have HM := Lib.hid hm
    clear hm
    go_enter Try.func17, Try.ntmps17
    go_wp2_with (go_at_call 16; refine (rin_any _ _ _ (by omega) (by omega) (by omega) (by omega) _).mono ?_; rintro e w' ⟨rfl, rfl⟩)
    all_goals go_ret
    all_goals exact ⟨ret_bool HM.out.symm, rfl⟩
  · have hm : mayB seq len next win = decide (seq = next) := by
      unfold mayB
      rw [if_pos (by omega)]
    have HM := Lib.hid hm
    clear hm
    go_enter Try.func17, Try.ntmps17
    go_wp2_with fail
    all_goals go_ret
    all_goals exact ⟨ret_bool (by rw [HM.out]; rfl), rfl⟩

end Go.Proofs.Ytbepoobpfneniaa
