/- The contracts of package sbuf at what is none: nil, or a bare buffer. -/
import Derived.Test.YtljgmlgdafijcaaSbuf
namespace Go.Proofs.Ytljgmlgdafijcaa
open Go.RowKit Go

theorem slen_nil (w : World)  : Calls Try.prog 13 #[.pointer none] w fun e w' => e = .returned (.int .i64 0) ∧ w = w' := by
  go_enter Try.func13, Try.ntmps13
  go_wp2_with (go_at_call 23; refine (snone_nil _).mono ?_; rintro e w' ⟨rfl, rfl⟩)
  go_ret
  exact ⟨rfl, rfl⟩

theorem slen_bare (w : World) (g : Nat) (hc : w.cell? ⟨g, 0, none⟩ = some (.int .i64 0)) : Calls Try.prog 13 #[.pointer (some ⟨g, 0, none⟩)] w fun e w' => e = .returned (.int .i64 0) ∧ w = w' := by
  go_enter Try.func13, Try.ntmps13
  go_wp2_with (go_at_call 23; refine (snone_bare g _ hc).mono ?_; rintro e w' ⟨rfl, rfl⟩)
  go_ret
  exact ⟨rfl, rfl⟩

theorem suna_nil (w : World)  : Calls Try.prog 20 #[.pointer none] w fun e w' => e = .returned (.int .u32 0) ∧ w = w' := by
  go_enter Try.func20, Try.ntmps20
  go_wp2_with (go_at_call 23; refine (snone_nil _).mono ?_; rintro e w' ⟨rfl, rfl⟩)
  go_ret
  exact ⟨rfl, rfl⟩

theorem suna_bare (w : World) (g : Nat) (hc : w.cell? ⟨g, 0, none⟩ = some (.int .i64 0)) : Calls Try.prog 20 #[.pointer (some ⟨g, 0, none⟩)] w fun e w' => e = .returned (.int .u32 0) ∧ w = w' := by
  go_enter Try.func20, Try.ntmps20
  go_wp2_with (go_at_call 23; refine (snone_bare g _ hc).mono ?_; rintro e w' ⟨rfl, rfl⟩)
  go_ret
  exact ⟨rfl, rfl⟩

theorem sroom_nil (w : World)  : Calls Try.prog 14 #[.pointer none] w fun e w' => e = .returned (.int .i64 0) ∧ w = w' := by
  go_enter Try.func14, Try.ntmps14
  go_wp2_with (go_at_call 23; refine (snone_nil _).mono ?_; rintro e w' ⟨rfl, rfl⟩)
  go_ret
  exact ⟨rfl, rfl⟩

theorem sroom_bare (w : World) (g : Nat) (hc : w.cell? ⟨g, 0, none⟩ = some (.int .i64 0)) : Calls Try.prog 14 #[.pointer (some ⟨g, 0, none⟩)] w fun e w' => e = .returned (.int .i64 0) ∧ w = w' := by
  go_enter Try.func14, Try.ntmps14
  go_wp2_with (go_at_call 23; refine (snone_bare g _ hc).mono ?_; rintro e w' ⟨rfl, rfl⟩)
  go_ret
  exact ⟨rfl, rfl⟩

theorem send_nil (w : World)  : Calls Try.prog 21 #[.pointer none] w fun e w' => e = .returned (.int .u32 0) ∧ w = w' := by
  go_enter Try.func21, Try.ntmps21
  go_wp2_with (first
    | (go_at_call 20; refine (suna_nil _).mono ?_; rintro e w' ⟨rfl, rfl⟩)
    | (go_at_call 13; refine (slen_nil _).mono ?_; rintro e w' ⟨rfl, rfl⟩)
    | (go_at_call 14; refine (sroom_nil _).mono ?_; rintro e w' ⟨rfl, rfl⟩)
    | (go_at_call 22; refine (ahead_any _ _ _).mono ?_; rintro e w' ⟨rfl, rfl⟩))
  go_ret
  exact ⟨rfl, rfl⟩

theorem swrite_nil (w : World)  (l : List UInt8) (hl : l.length ≤ maxLen) : Calls Try.prog 9 #[.pointer none, .string ⟨l.toArray⟩] w fun e w' => e = .returned (.int .i64 0) ∧ w = w' := by
  unfold maxLen at hl
  have e0 : (if (0 : Int) < (l.length : Int) then 0 else (l.length : Int)) = 0 := by split <;> omega
  go_enter Try.func9, Try.ntmps9
  go_wp2_with (first
    | (go_at_call 20; refine (suna_nil _).mono ?_; rintro e w' ⟨rfl, rfl⟩)
    | (go_at_call 13; refine (slen_nil _).mono ?_; rintro e w' ⟨rfl, rfl⟩)
    | (go_at_call 14; refine (sroom_nil _).mono ?_; rintro e w' ⟨rfl, rfl⟩)
    | (go_at_call 22; refine (ahead_any _ _ _).mono ?_; rintro e w' ⟨rfl, rfl⟩))
  all_goals go_ret
  all_goals exact ⟨ret_int (by first | rfl | omega), rfl⟩

theorem sack_nil (w : World)  (n : Int) : Calls Try.prog 11 #[.pointer none, .int .u32 n] w fun e w' => e = .returned (.int .i64 0) ∧ w = w' := by
  obtain ⟨d0, d1⟩ := ahd_bd 0 n
  rcases Int.lt_or_le (ahd 0 n) 1 with h1 | h1
  all_goals
    go_enter Try.func11, Try.ntmps11
    go_wp2_with (first
      | (go_at_call 20; refine (suna_nil _).mono ?_; rintro e w' ⟨rfl, rfl⟩)
      | (go_at_call 13; refine (slen_nil _).mono ?_; rintro e w' ⟨rfl, rfl⟩)
      | (go_at_call 14; refine (sroom_nil _).mono ?_; rintro e w' ⟨rfl, rfl⟩)
      | (go_at_call 22; refine (ahead_any _ _ _).mono ?_; rintro e w' ⟨rfl, rfl⟩))
    go_ret
    exact ⟨rfl, rfl⟩

theorem sget_nil (w : World)  (seq n : Int) : Calls Try.prog 10 #[.pointer none, .int .u32 seq, .int .i64 n] w fun e w' => e = .returned (.string ⟨#[]⟩) ∧ w = w' := by
  obtain ⟨d0, d1⟩ := ahd_bd 0 seq
  rcases Int.lt_or_le n 1 with h1 | h1
  all_goals
    go_enter Try.func10, Try.ntmps10
    go_wp2_with (first
      | (go_at_call 20; refine (suna_nil _).mono ?_; rintro e w' ⟨rfl, rfl⟩)
      | (go_at_call 13; refine (slen_nil _).mono ?_; rintro e w' ⟨rfl, rfl⟩)
      | (go_at_call 14; refine (sroom_nil _).mono ?_; rintro e w' ⟨rfl, rfl⟩)
      | (go_at_call 22; refine (ahead_any _ _ _).mono ?_; rintro e w' ⟨rfl, rfl⟩))
    go_ret
    exact ⟨rfl, rfl⟩

theorem send_bare (w : World) (g : Nat) (hc : w.cell? ⟨g, 0, none⟩ = some (.int .i64 0)) : Calls Try.prog 21 #[.pointer (some ⟨g, 0, none⟩)] w fun e w' => e = .returned (.int .u32 0) ∧ w = w' := by
  go_enter Try.func21, Try.ntmps21
  go_wp2_with (first
    | (go_at_call 20; refine (suna_bare _ g hc).mono ?_; rintro e w' ⟨rfl, rfl⟩)
    | (go_at_call 13; refine (slen_bare _ g hc).mono ?_; rintro e w' ⟨rfl, rfl⟩)
    | (go_at_call 14; refine (sroom_bare _ g hc).mono ?_; rintro e w' ⟨rfl, rfl⟩)
    | (go_at_call 22; refine (ahead_any _ _ _).mono ?_; rintro e w' ⟨rfl, rfl⟩))
  go_ret
  exact ⟨rfl, rfl⟩

theorem swrite_bare (w : World) (g : Nat) (hc : w.cell? ⟨g, 0, none⟩ = some (.int .i64 0)) (l : List UInt8) (hl : l.length ≤ maxLen) : Calls Try.prog 9 #[.pointer (some ⟨g, 0, none⟩), .string ⟨l.toArray⟩] w fun e w' => e = .returned (.int .i64 0) ∧ w = w' := by
  unfold maxLen at hl
  have e0 : (if (0 : Int) < (l.length : Int) then 0 else (l.length : Int)) = 0 := by split <;> omega
  go_enter Try.func9, Try.ntmps9
  go_wp2_with (first
    | (go_at_call 20; refine (suna_bare _ g hc).mono ?_; rintro e w' ⟨rfl, rfl⟩)
    | (go_at_call 13; refine (slen_bare _ g hc).mono ?_; rintro e w' ⟨rfl, rfl⟩)
    | (go_at_call 14; refine (sroom_bare _ g hc).mono ?_; rintro e w' ⟨rfl, rfl⟩)
    | (go_at_call 22; refine (ahead_any _ _ _).mono ?_; rintro e w' ⟨rfl, rfl⟩))
  all_goals go_ret
  all_goals exact ⟨ret_int (by first | rfl | omega), rfl⟩

theorem sack_bare (w : World) (g : Nat) (hc : w.cell? ⟨g, 0, none⟩ = some (.int .i64 0)) (n : Int) : Calls Try.prog 11 #[.pointer (some ⟨g, 0, none⟩), .int .u32 n] w fun e w' => e = .returned (.int .i64 0) ∧ w = w' := by
  obtain ⟨d0, d1⟩ := ahd_bd 0 n
  rcases Int.lt_or_le (ahd 0 n) 1 with h1 | h1
  all_goals
    go_enter Try.func11, Try.ntmps11
    go_wp2_with (first
      | (go_at_call 20; refine (suna_bare _ g hc).mono ?_; rintro e w' ⟨rfl, rfl⟩)
      | (go_at_call 13; refine (slen_bare _ g hc).mono ?_; rintro e w' ⟨rfl, rfl⟩)
      | (go_at_call 14; refine (sroom_bare _ g hc).mono ?_; rintro e w' ⟨rfl, rfl⟩)
      | (go_at_call 22; refine (ahead_any _ _ _).mono ?_; rintro e w' ⟨rfl, rfl⟩))
    go_ret
    exact ⟨rfl, rfl⟩

theorem sget_bare (w : World) (g : Nat) (hc : w.cell? ⟨g, 0, none⟩ = some (.int .i64 0)) (seq n : Int) : Calls Try.prog 10 #[.pointer (some ⟨g, 0, none⟩), .int .u32 seq, .int .i64 n] w fun e w' => e = .returned (.string ⟨#[]⟩) ∧ w = w' := by
  obtain ⟨d0, d1⟩ := ahd_bd 0 seq
  rcases Int.lt_or_le n 1 with h1 | h1
  all_goals
    go_enter Try.func10, Try.ntmps10
    go_wp2_with (first
      | (go_at_call 20; refine (suna_bare _ g hc).mono ?_; rintro e w' ⟨rfl, rfl⟩)
      | (go_at_call 13; refine (slen_bare _ g hc).mono ?_; rintro e w' ⟨rfl, rfl⟩)
      | (go_at_call 14; refine (sroom_bare _ g hc).mono ?_; rintro e w' ⟨rfl, rfl⟩)
      | (go_at_call 22; refine (ahead_any _ _ _).mono ?_; rintro e w' ⟨rfl, rfl⟩))
    go_ret
    exact ⟨rfl, rfl⟩

end Go.Proofs.Ytljgmlgdafijcaa
