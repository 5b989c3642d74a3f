/- The contracts of seg.Len; and what the walk wants to know of flags. -/
import Derived.Test.YtpmlojgngcllfaaConnTurn
namespace Go.Proofs.Ytpmlojgngcllfaa
open Go.RowKit Go

theorem hasF_true {f k : Int} (h : hasF f k = true) : (bits .and .i64 f k != 0) = true ∧ (bits .and .i64 f k == 0) = false := by
  unfold hasF at h
  constructor
  · simpa [bne] using h
  · simpa using h
theorem hasF_false {f k : Int} (h : hasF f k = false) : (bits .and .i64 f k != 0) = false ∧ (bits .and .i64 f k == 0) = true := by
  unfold hasF at h
  constructor
  · simpa [bne] using h
  · simpa using h

theorem len_any (s : Sg) (w : World) (hs : s.data.length ≤ 1000000) :
    Calls Try.prog 41 #[.agg #[.int .i64 s.frm, .int .i64 s.dst, .int .u32 s.seq, .int .u32 s.ack, .int .i64 s.flags, .int .i64 s.window, .int .i64 s.mss, .string ⟨s.data.toArray⟩]] w fun e w' => e = .returned (.int .i64 s.len) ∧ Frm [] w w' := by
  have hlen : s.len = (s.data.length : Int) + (if hasF s.flags 2 then 1 else 0) + (if hasF s.flags 1 then 1 else 0) := rfl
  rcases h2 : hasF s.flags 2 with _ | _ <;> rcases h1 : hasF s.flags 1 with _ | _
  all_goals
    rw [h2, h1] at hlen
    have HL := Lib.hid hlen
    clear hlen
    first | (obtain ⟨a2, -⟩ := hasF_false h2; clear h2) | (obtain ⟨a2, -⟩ := hasF_true h2; clear h2)
    first | (obtain ⟨a1, -⟩ := hasF_false h1; clear h1) | (obtain ⟨a1, -⟩ := hasF_true h1; clear h1)
    go_enter Try.func41, Try.ntmps41
    go_wp2_with fail
    go_ret
    exact ⟨ret_int (by rw [HL.out]; simp <;> omega), (Frm.refl _ _).alloc _⟩

end Go.Proofs.Ytpmlojgngcllfaa
