/- The contracts of package rbuf: a buffer in memory, what its functions do. -/
import Derived.Test.YtpmlojgngcllfaaMem
import Derived.Test.YtpmlojgngcllfaaSeqnA
import Derived.Lib.SliceRun
import Derived.Laws.CopyOwn
import Derived.Deep.OwnRows
namespace Go.Proofs.Ytpmlojgngcllfaa
open Go.RowKit Go

def byteV (c : UInt8) : Value := .int .u8 (c.toNat : Int)
def bytes (l : List UInt8) : Array Value := (l.map byteV).toArray
def bools (l : List Bool) : Array Value := (l.map Value.bool).toArray

/-- What came of a stream. -/
structure RB where
  room : Nat
  next : Int
  ready : List UInt8
  data : List UInt8
  has : List Bool
  held : Int
structure RB.Ok (r : RB) : Prop where
  r1 : 1 ≤ r.room
  r2 : r.room ≤ 2048
  n1 : 0 ≤ r.next
  n2 : r.next < 4294967296
  rl : r.ready.length ≤ r.room
  dl : r.data.length = r.room
  hl : r.has.length = r.room
  hc : r.held = (r.has.count true : Nat)
def RB.win (r : RB) : Nat := r.room - r.ready.length

/-- How it lies in memory. -/
structure RbIn (w : World) (base g gd gh : Nat) (rv : Value) (r : RB) : Prop where
  blk : Blk w g 81 #[.int .i64 (r.room : Int), .int .u32 r.next, rv, .slice (some ⟨gd, 0, none⟩) r.room r.room, .slice (some ⟨gh, 0, none⟩) r.room r.room, .int .i64 r.held]
  dat : Blk w gd 5 (bytes r.data)
  has : Blk w gh 4 (bools r.has)
  own : w.ownsRow base 5 1 rv r.ready.length (r.ready.map byteV)
  ne : rv.ownBlock ≠ some gd

theorem RbIn.frm {w w' : World} {base g gd gh : Nat} {rv : Value} {r : RB} {ex : List Nat} (h : RbIn w base g gd gh rv r) (hf : Frm ex w w') (h1 : ¬ g ∈ ex) (h2 : ¬ gd ∈ ex) (h3 : ¬ gh ∈ ex) (h4 : ∀ k, rv.ownBlock = some k → ¬ k ∈ ex) : RbIn w' base g gd gh rv r := by
  exact ⟨h.blk.frm hf h1, h.dat.frm hf h2, h.has.frm hf h3, own_frm h.own hf h4, h.ne⟩
theorem RbIn.drw {w w' : World} {base g gd gh : Nat} {rv : Value} {r : RB} (h : RbIn w base g gd gh rv r) (hd : Drw w w') : RbIn w' base g gd gh rv r :=
  h.frm hd.frm (by simp) (by simp) (by simp) (by simp)

/-- The slice of the ready bytes, as the walk wants to see it. -/
theorem RbIn.rv_form {w : World} {base g gd gh : Nat} {rv : Value} {r : RB} (h : RbIn w base g gd gh rv r) : ∃ A c, rv = .slice A r.ready.length c ∧ r.ready.length ≤ c ∧ c ≤ 9223372036854775807 := by
  rcases h.own.2 with ⟨rfl, h0⟩ | ⟨k, cap, cur, rfl, _, _, h1, h2, _⟩
  · exact ⟨none, 0, by rw [h0], by omega, by omega⟩
  · exact ⟨_, cap, rfl, h1, h2⟩

theorem rnone_nil (w : World) : Calls Try.prog 59 #[.pointer none] w fun e w' => e = .returned (.bool true) ∧ w = w' := by
  go_enter Try.func59, Try.ntmps59
  go_wp2
  go_ret
  exact ⟨rfl, rfl⟩
theorem rnone_bare (g : Nat) (w : World) (hc : w.cell? ⟨g, 0, none⟩ = some (.int .i64 0)) :
    Calls Try.prog 59 #[.pointer (some ⟨g, 0, none⟩)] w fun e w' => e = .returned (.bool true) ∧ w = w' := by
  go_enter Try.func59, Try.ntmps59
  go_wp2
  go_ret
  exact ⟨rfl, rfl⟩
theorem rnone_in {base g gd gh : Nat} {rv : Value} {r : RB} (w : World) (ho : r.Ok) (h : RbIn w base g gd gh rv r) :
    Calls Try.prog 59 #[.pointer (some ⟨g, 0, none⟩)] w fun e w' => e = .returned (.bool false) ∧ w = w' := by
  have hc : w.cell? ⟨g, 0, none⟩ = some (.int .i64 (r.room : Int)) := h.blk.cell 0
  have hz : ((r.room : Int) == 0) = false := by have := ho.r1; simp; omega
  clear h
  go_enter Try.func59, Try.ntmps59
  go_wp2
  go_ret
  exact ⟨rfl, rfl⟩

theorem rready_in {base g gd gh : Nat} {rv : Value} {r : RB} (w : World) (ho : r.Ok) (h : RbIn w base g gd gh rv r) :
    Calls Try.prog 46 #[.pointer (some ⟨g, 0, none⟩)] w fun e w' => e = .returned (.int .i64 (r.ready.length : Int)) ∧ w = w' := by
  obtain ⟨A, c, rfl, -⟩ := h.rv_form
  have hc : w.cell? ⟨g, 2, none⟩ = some (.slice A r.ready.length c) := h.blk.cell 2
  go_enter Try.func46, Try.ntmps46
  go_wp2_with (go_at_call 59; refine (rnone_in _ ho h).mono ?_; rintro e w' ⟨rfl, rfl⟩)
  go_ret
  exact ⟨rfl, rfl⟩
theorem rnext_in {base g gd gh : Nat} {rv : Value} {r : RB} (w : World) (ho : r.Ok) (h : RbIn w base g gd gh rv r) :
    Calls Try.prog 68 #[.pointer (some ⟨g, 0, none⟩)] w fun e w' => e = .returned (.int .u32 r.next) ∧ w = w' := by
  have hc : w.cell? ⟨g, 1, none⟩ = some (.int .u32 r.next) := h.blk.cell 1
  go_enter Try.func68, Try.ntmps68
  go_wp2_with (go_at_call 59; refine (rnone_in _ ho h).mono ?_; rintro e w' ⟨rfl, rfl⟩)
  go_ret
  exact ⟨rfl, rfl⟩
theorem rwindow_in {base g gd gh : Nat} {rv : Value} {r : RB} (w : World) (ho : r.Ok) (h : RbIn w base g gd gh rv r) :
    Calls Try.prog 38 #[.pointer (some ⟨g, 0, none⟩)] w fun e w' => e = .returned (.int .i64 (r.win : Nat)) ∧ Drw w w' := by
  have hw : ((r.room : Int) - (r.ready.length : Int)) = ((r.win : Nat) : Int) := by have := ho.rl; unfold RB.win; omega
  have h2 := ho.r2
  obtain ⟨A, c, rfl, -⟩ := h.rv_form
  have hc : w.cell? ⟨g, 2, none⟩ = some (.slice A r.ready.length c) := h.blk.cell 2
  have hc0 : w.cell? ⟨g, 0, none⟩ = some (.int .i64 (r.room : Int)) := h.blk.cell 0
  have hrl := ho.rl
  go_enter Try.func38, Try.ntmps38
  go_wp2_with (go_at_call 59; refine (rnone_in _ ho h).mono ?_; rintro e w' ⟨rfl, rfl⟩)
  go_quiet (fail)
  go_wp2
  go_ret
  exact ⟨ret_int (by first | rfl | exact hw), Drw.mk _ _⟩

end Go.Proofs.Ytpmlojgngcllfaa
