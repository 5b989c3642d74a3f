/- rbuf.New: a buffer that waits for a byte. -/
import Derived.Test.YtpmlojgngcllfaaRbuf
namespace Go.Proofs.Ytpmlojgngcllfaa
open Go.RowKit Go

def RB.start (room : Nat) (next : Int) : RB := ⟨room, next, [], List.replicate room 0, List.replicate room false, 0⟩
theorem RB.start_ok {room : Nat} {next : Int} (h1 : 1 ≤ room) (h2 : room ≤ 2048) (n1 : 0 ≤ next) (n2 : next < 4294967296) : (RB.start room next).Ok :=
  ⟨h1, h2, n1, n2, Nat.zero_le _, List.length_replicate, List.length_replicate, by simp [RB.start, List.count_replicate]⟩

theorem rnew_bad (next room : Int) (w : World) (h : room < 1 ∨ 2048 < room) :
    Calls Try.prog 50 #[.int .u32 next, .int .i64 room] w fun e w' => e = .returned (.tuple #[.pointer none, .int .i64 1]) ∧ w = w' := by
  by_cases h1 : room < 1
  · clear h
    go_enter Try.func50, Try.ntmps50
    go_wp2
    go_ret2
    exact ⟨rfl, rfl⟩
  · have h2 : 2048 < room := by omega
    clear h
    go_enter Try.func50, Try.ntmps50
    go_wp2
    go_ret2
    exact ⟨rfl, rfl⟩

theorem info_u8 : (Try.prog.info? 5).map (fun i => (i.zero, i.size, i.bytes)) = some (some (.int .u8 0), 1, 1) := by kernel_rfl
theorem info_bool : (Try.prog.info? 4).map (fun i => (i.zero, i.size, i.bytes)) = some (some (.bool false), 1, 1) := by kernel_rfl

theorem made_one (z : Value) (n : Nat) : madeCells #[z] n = (List.replicate n z).toArray := by
  apply Array.ext
  · simp [madeCells]
  · intro i h1 h2
    simp [madeCells, Nat.mod_one]
theorem made_bytes (n : Nat) : madeCells #[Value.int .u8 0] n = bytes (List.replicate n 0) := by
  rw [made_one]
  unfold bytes
  rw [List.map_replicate]
  rfl
theorem made_bools (n : Nat) : madeCells #[Value.bool false] n = bools (List.replicate n false) := by
  rw [made_one]
  unfold bools
  rw [List.map_replicate]

def RbNew (w : World) (room : Nat) (next : Int) (e : Ending) (w' : World) : Prop :=
  ∃ g gd gh, e = .returned (.tuple #[.pointer (some ⟨g, 0, none⟩), .int .i64 0]) ∧ w.heap.size ≤ g ∧ w.heap.size ≤ gd ∧ w.heap.size ≤ gh ∧ RbIn w' w.heap.size g gd gh (.slice none 0 0) (RB.start room next) ∧ Frm [] w w'

theorem rnew_ok (next : Int) (room : Nat) (w : World) (h1 : 1 ≤ room) (h2 : room ≤ 2048) :
    Calls Try.prog 50 #[.int .u32 next, .int .i64 (room : Int)] w (RbNew w room next) := by
  have hmk1 := run_make_row' (P := Try.prog) 23 5 _ _ Try.underlying23 info_u8 rfl .i64 .i64 room (by omega) (by omega)
  have hmk2 := run_make_row' (P := Try.prog) 33 4 _ _ Try.underlying33 info_bool rfl .i64 .i64 room (by omega) (by omega)
  have hr1 : (1 : Int) ≤ (room : Int) := by omega
  have hr2 : (room : Int) ≤ 2048 := by omega
  clear h1 h2
  go_enter Try.func50, Try.ntmps50
  go_wp2
  go_region
  all_goals go_wp2
  all_goals go_ret2
  · refine ⟨w.heap.size + 1 + 1, w.heap.size, w.heap.size + 1, rfl, by omega, by omega, by omega, ⟨?_, ?_, ?_, ⟨rfl, .inl ⟨rfl, rfl⟩⟩, by simp [Value.ownBlock]⟩, ?_⟩
    · exact (Blk.new_at (by simp) _ _).drew
    · exact ((((Blk.new_at rfl _ _).as_ (made_bytes room)).alloc _).alloc _).drew
    · exact (((Blk.new_at (by simp) _ _).as_ (made_bools room)).alloc _).drew
    · exact ((((Frm.refl _ _).alloc _).alloc _).alloc _).drew
  · refine ⟨w.heap.size + 1 + 1, w.heap.size + 1, w.heap.size, rfl, by omega, by omega, by omega, ⟨?_, ?_, ?_, ⟨rfl, .inl ⟨rfl, rfl⟩⟩, by simp [Value.ownBlock]⟩, ?_⟩
    · exact (Blk.new_at (by simp) _ _).drew
    · exact (((Blk.new_at (by simp) _ _).as_ (made_bytes room)).alloc _).drew
    · exact ((((Blk.new_at rfl _ _).as_ (made_bools room)).alloc _).alloc _).drew
    · exact ((((Frm.refl _ _).alloc _).alloc _).alloc _).drew

end Go.Proofs.Ytpmlojgngcllfaa
