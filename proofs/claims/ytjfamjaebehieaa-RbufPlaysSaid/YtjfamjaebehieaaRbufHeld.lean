/- rbuf.Held: its contracts, in a text of their own (not every seat reaches it). -/
import Derived.Test.YtjfamjaebehieaaRbufAt
import Derived.Test.YtjfamjaebehieaaRbufNo
namespace Go.Proofs.Ytjfamjaebehieaa
open Go.RowKit Go

theorem rheld_in {base g gd gh : Nat} {rv : Value} {r : RB} (w : World) (ho : r.Ok) (h : RbIn w base g gd gh rv r) :
    Calls Try.prog 11 #[.pointer (some ⟨g, 0, none⟩)] w fun e w' => e = .returned (.int .i64 r.held) ∧ w = w' := by
  have hc : w.cell? ⟨g, 5, none⟩ = some (.int .i64 r.held) := h.blk.cell 5
  go_enter Try.func11, Try.ntmps11
  go_wp2_with (go_at_call 20; refine (rnone_in _ ho h).mono ?_; rintro e w' ⟨rfl, rfl⟩)
  go_ret
  exact ⟨rfl, rfl⟩

theorem rat_held {B g : Nat} {r : RB} {w0 : World} (w : World) (h : RbAt B w0 w g r) :
    Calls Try.prog 11 #[.pointer (some ⟨g, 0, none⟩)] w fun e w' => e = .returned (.int .i64 r.held) ∧ w = w' := by
  obtain ⟨gd, gh, rv, hin, -, -, -, -, -, ho⟩ := h
  exact rheld_in w ho hin

theorem rheld_nil (w : World) : Calls Try.prog 11 #[.pointer none] w fun e w' => e = .returned (.int .i64 0) ∧ w = w' := by
  go_enter Try.func11, Try.ntmps11
  go_wp2_with (go_at_call 20; refine (rnone_nil _).mono ?_; rintro e w' ⟨rfl, rfl⟩)
  go_ret
  exact ⟨rfl, rfl⟩

theorem rheld_bare (w : World) (g : Nat) (hc : w.cell? ⟨g, 0, none⟩ = some (.int .i64 0)) : Calls Try.prog 11 #[.pointer (some ⟨g, 0, none⟩)] w fun e w' => e = .returned (.int .i64 0) ∧ w = w' := by
  go_enter Try.func11, Try.ntmps11
  go_wp2_with (go_at_call 20; refine (rnone_bare g _ hc).mono ?_; rintro e w' ⟨rfl, rfl⟩)
  go_ret
  exact ⟨rfl, rfl⟩


end Go.Proofs.Ytjfamjaebehieaa
