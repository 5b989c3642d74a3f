/- The reference's Read. -/
import Derived.Test.YtjfamjaebehieaaRbufRef
namespace Go.Proofs.Ytjfamjaebehieaa
open Go.RowKit Go

theorem ba_take (l : List UInt8) (n : Nat) : (⟨l.toArray⟩ : ByteArray).extract 0 n = ⟨(l.take n).toArray⟩ := by
  apply ByteArray.ext
  simp
theorem ba_drop (l : List UInt8) (n : Nat) : (⟨l.toArray⟩ : ByteArray).extract n l.length = ⟨(l.drop n).toArray⟩ := by
  apply ByteArray.ext
  simp [List.take_of_length_le]
set_option maxHeartbeats 2000000 in
theorem rread12_any (room nx n : Int) (rd : List UInt8) (A : Option Addr) (N cap T : Nat) (w : World) (h2 : rd.length ≤ 1000000) (hT : T = min n.toNat rd.length) :
    Calls Try.prog 18 #[.agg #[.int .i64 room, .int .u32 nx, .string ⟨rd.toArray⟩, .slice A N cap], .int .i64 n] w fun en w' =>
      en = .returned (.tuple #[.agg #[.int .i64 room, .int .u32 nx, .string ⟨(rd.drop T).toArray⟩, .slice A N cap], .string ⟨(rd.take T).toArray⟩]) ∧ Frm [] w w' := by
  have hsz : (ByteArray.mk rd.toArray).size = rd.length := by simp [ByteArray.size]
  have h3 : (rd.length : Int) ≤ 1000000 := by omega
  have hTl : T ≤ rd.length := by omega
  have hTl2 : (T : Int) ≤ (rd.length : Int) := by omega
  have e1 := ba_take rd T
  have e2 := ba_drop rd T
  have HT := Lib.hid hT
  clear hT
  go_enter Try.func18, Try.ntmps18
  go_upto_region 1 with fail
  obtain ⟨b1, hb1⟩ : ∃ b, b = w.heap.size := ⟨_, rfl⟩
  obtain ⟨b2, hb2⟩ : ∃ b, b = w.heap.size + 1 := ⟨_, rfl⟩
  refine wp_world (fun wx => Frm [] w wx ∧ Blk wx b1 39 #[.int .i64 room, .int .u32 nx, .string ⟨rd.toArray⟩, .slice A N cap] ∧ Blk wx b2 39 #[.int .i64 0, .int .u32 0, .string ⟨#[]⟩, .slice none 0 0]) ⟨((Frm.refl _ _).alloc _).alloc _, (Blk.new_at hb1.symm _ _).alloc _, Blk.new_at (by simp [hb2]) _ _⟩ ?_
  rintro wx ⟨hfx, hx1, hx2⟩
  rw [← hb2, ← hb1]
  have hbb : b1 ≠ b2 := by omega
  have hbb2 : b2 ≠ b1 := by omega
  have hg1 : w.heap.size ≤ b1 := by omega
  have hg2 : w.heap.size ≤ b2 := by omega
  have c0 : wx.cell? ⟨b1, 0, none⟩ = some (.int .i64 room) := hx1.cell 0
  have c1 : wx.cell? ⟨b1, 1, none⟩ = some (.int .u32 nx) := hx1.cell 1
  have c2 : wx.cell? ⟨b1, 2, none⟩ = some (.string ⟨rd.toArray⟩) := hx1.cell 2
  have c3 : wx.cell? ⟨b1, 3, none⟩ = some (.slice A N cap) := hx1.cell 3
  have f12 : wx.frozen? ⟨b1, 2, none⟩ = false := hx1.frozen 2
  have d0 : wx.cell? ⟨b2, 0, none⟩ = some (.int .i64 0) := hx2.cell 0
  have d1 : wx.cell? ⟨b2, 1, none⟩ = some (.int .u32 0) := hx2.cell 1
  have d2 : wx.cell? ⟨b2, 2, none⟩ = some (.string ⟨#[]⟩) := hx2.cell 2
  have d3 : wx.cell? ⟨b2, 3, none⟩ = some (.slice none 0 0) := hx2.cell 3
  have f20 : wx.frozen? ⟨b2, 0, none⟩ = false := hx2.frozen 0
  have f21 : wx.frozen? ⟨b2, 1, none⟩ = false := hx2.frozen 1
  have f22 : wx.frozen? ⟨b2, 2, none⟩ = false := hx2.frozen 2
  have f23 : wx.frozen? ⟨b2, 3, none⟩ = false := hx2.frozen 3
  have HFX := Lib.hid hfx
  have HX1 := Lib.hid hx1
  have HX2 := Lib.hid hx2
  clear hfx hx1 hx2 hb1 hb2
  go_upto_if 8 with fail
  go_cut [1] (fun n' wy => n' = .int .i64 (n.toNat : Nat) ∧ wx = wy)
  case first =>
    by_cases h : n < 0
    · have hm := Lib.hid (show ((n.toNat : Nat) : Int) = 0 by omega)
      go_wp2_with fail
      go_meet
      exact ⟨by rw [hm.out], rfl⟩
    · have hm := Lib.hid (show ((n.toNat : Nat) : Int) = n by omega)
      go_wp2_with fail
      go_meet
      exact ⟨by rw [hm.out], rfl⟩
  case rest =>
    obtain ⟨rfl, rfl⟩ := hcut
    have hT := HT.out
    generalize n.toNat = m at *
    go_upto_if 13 with fail
    go_cut [1] (fun n' wy => n' = .int .i64 (T : Int) ∧ wx = wy)
    case first =>
      by_cases h : (rd.length : Int) < (m : Int)
      · have hm := Lib.hid (show T = rd.length by omega)
        clear hT
        go_wp2_with fail
        go_meet
        exact ⟨by rw [hm.out], rfl⟩
      · have hm := Lib.hid (show T = m by omega)
        clear hT
        go_wp2_with fail
        go_meet
        exact ⟨by rw [hm.out], rfl⟩
    case rest =>
      obtain ⟨rfl, rfl⟩ := hcut
      clear hT
      go_wp2_with fail
      have hF : Frm [] w (((((wx.setCell ⟨b1, 2, none⟩ (.string ⟨(rd.drop T).toArray⟩)).setCell ⟨b2, 0, none⟩ (.int .i64 room)).setCell ⟨b2, 1, none⟩ (.int .u32 nx)).setCell ⟨b2, 2, none⟩ (.string ⟨(rd.drop T).toArray⟩)).setCell ⟨b2, 3, none⟩ (.slice A N cap)) :=
        ((((HFX.out.setCell (.inr hg1) _).setCell (.inr hg2) _).setCell (.inr hg2) _).setCell (.inr hg2) _).setCell (.inr hg2) _
      have hB : Blk (((((wx.setCell ⟨b1, 2, none⟩ (.string ⟨(rd.drop T).toArray⟩)).setCell ⟨b2, 0, none⟩ (.int .i64 room)).setCell ⟨b2, 1, none⟩ (.int .u32 nx)).setCell ⟨b2, 2, none⟩ (.string ⟨(rd.drop T).toArray⟩)).setCell ⟨b2, 3, none⟩ (.slice A N cap)) b2 39 (refC room nx (rd.drop T) (.slice A N cap)) :=
        (((((HX2.out.far (p := ⟨b1, 2, none⟩) hbb2 _).set_ 0 _).set_ 1 _).set_ 2 _).set_ 3 _).as_ rfl
      generalize ((((wx.setCell ⟨b1, 2, none⟩ (.string ⟨(rd.drop T).toArray⟩)).setCell ⟨b2, 0, none⟩ (.int .i64 room)).setCell ⟨b2, 1, none⟩ (.int .u32 nx)).setCell ⟨b2, 2, none⟩ (.string ⟨(rd.drop T).toArray⟩)).setCell ⟨b2, 3, none⟩ (.slice A N cap) = wz at *
      have g0 : wz.cell? ⟨b2, 0, none⟩ = some (.int .i64 room) := hB.cell 0
      have g1 : wz.cell? ⟨b2, 1, none⟩ = some (.int .u32 nx) := hB.cell 1
      have g2 : wz.cell? ⟨b2, 2, none⟩ = some (.string ⟨(rd.drop T).toArray⟩) := hB.cell 2
      have g3 : wz.cell? ⟨b2, 3, none⟩ = some (.slice A N cap) := hB.cell 3
      refine bodyPost_ret (v := .tuple #[.agg #[.int .i64 room, .int .u32 nx, .string ⟨(rd.drop T).toArray⟩, .slice A N cap], .string ⟨(rd.take T).toArray⟩]) (by simp [results, Try.results18, go_sem, g0, g1, g2, g3]) rfl ?_
      exact ⟨rfl, hF⟩
end Go.Proofs.Ytjfamjaebehieaa
