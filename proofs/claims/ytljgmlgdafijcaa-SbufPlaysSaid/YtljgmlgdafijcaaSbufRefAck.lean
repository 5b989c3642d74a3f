/- The reference's Ack. -/
import Derived.Test.YtljgmlgdafijcaaSbufRef
namespace Go.Proofs.Ytljgmlgdafijcaa
open Go.RowKit Go

def AckRef (n : Int) (l l' : List (Int × UInt8)) (k : Nat) : Prop :=
  (k = 0 ∧ l' = l ∧ ∀ (j : Nat) x, l[j]? = some x → (x.1 + 1) % 4294967296 ≠ n) ∨
  (∃ i x, k = i + 1 ∧ l[i]? = some x ∧ (x.1 + 1) % 4294967296 = n ∧ l' = l.drop (i + 1) ∧ ∀ (j : Nat) y, j < i → l[j]? = some y → (y.1 + 1) % 4294967296 ≠ n)
def RackPost (room e n : Int) (l : List (Int × UInt8)) (w : World) (en : Ending) (w' : World) : Prop :=
  ∃ v' l' k, en = .returned (.tuple #[.agg #[.int .i64 room, .int .u32 e, v'], .int .i64 (k : Nat)]) ∧ NumAt w' v' l' ∧ Frm [] w w' ∧ AckRef n l l' k
theorem NumAt.tail {w : World} {g off off' cap' k N : Nat} {l : List (Int × UInt8)} (hl : l.length = N) (hb : N ≤ 1000000) (hg : g < w.heap.size)
    (hc : ∀ (j : Nat) (x : Int × UInt8), l[j]? = some x → w.cell? ⟨g, off + j * 2, none⟩ = some (.int .u32 x.1) ∧ w.cell? ⟨g, off + j * 2 + 1, none⟩ = some (.int .u8 (x.2.toNat : Int)))
    (ho : k + 1 < N → off' = off + (k + 1) * 2) (hcap : N - (k + 1) ≤ cap') : NumAt w (.slice (some ⟨g, off', none⟩) (N - (k + 1)) cap') (l.drop (k + 1)) := by
  have hd : (l.drop (k + 1)).length = N - (k + 1) := by rw [List.length_drop, hl]
  refine ⟨_, cap', by rw [hd], by rw [hd]; exact hcap, by rw [hd]; omega, fun h0 => (by cases h0), fun hne => ?_⟩
  have hpos : 0 < (l.drop (k + 1)).length := List.length_pos_iff.mpr hne
  have := ho (by omega)
  subst this
  refine ⟨g, _, rfl, hg, fun j x hx => ?_⟩
  rw [List.getElem?_drop] at hx
  have h := hc _ _ hx
  have e1 : off + (k + 1) * 2 + j * 2 = off + (k + 1 + j) * 2 := by omega
  rw [e1]
  exact h
set_option maxHeartbeats 2000000 in
theorem rack_any (room e n : Int) (v : Value) (l : List (Int × UInt8)) (w : World) (h : NumAt w v l) (hu : ∀ (j : Nat) x, l[j]? = some x → 0 ≤ x.1 ∧ x.1 < 4294967296) :
    Calls Try.prog 18 #[.agg #[.int .i64 room, .int .u32 e, v], .int .u32 n] w (RackPost room e n l w) := by
  have h5 := h
  obtain ⟨A, cap, rfl, h1, h2, -, h3⟩ := h
  have HH := Lib.hid h5
  clear h5
  have H3 := Lib.hid h3
  have HU := Lib.hid hu
  obtain ⟨N, hN⟩ : ∃ N, l.length = N := ⟨_, rfl⟩
  rw [hN] at h1 h2 ⊢
  have HN := Lib.hid hN
  clear h3 hu hN
  go_enter Try.func18, Try.ntmps18
  go_upto_region 1 with fail
  obtain ⟨b1, hb1⟩ : ∃ b, b = w.heap.size := ⟨_, rfl⟩
  obtain ⟨b2, hb2⟩ : ∃ b, b = w.heap.size + 1 := ⟨_, rfl⟩
  refine wp_world (fun wx => Frm [] w wx ∧ Blk wx b1 36 #[.int .i64 room, .int .u32 e, .slice A N cap] ∧ Blk wx b2 36 #[.int .i64 0, .int .u32 0, .slice none 0 0]) ⟨((Frm.refl _ _).alloc _).alloc _, (Blk.new_at hb1.symm _ _).alloc _, Blk.new_at (by simp [hb2]) _ _⟩ ?_
  rintro wx ⟨hfx, hx1, hx2⟩
  rw [← hb2, ← hb1]
  have hbb : b1 ≠ b2 := by omega
  have c0 : wx.cell? ⟨b1, 0, none⟩ = some (.int .i64 room) := hx1.cell 0
  have c1 : wx.cell? ⟨b1, 1, none⟩ = some (.int .u32 e) := hx1.cell 1
  have c2 : wx.cell? ⟨b1, 2, none⟩ = some (.slice A N cap) := hx1.cell 2
  have f12 : wx.frozen? ⟨b1, 2, none⟩ = false := hx1.frozen 2
  have f20 : wx.frozen? ⟨b2, 0, none⟩ = false := hx2.frozen 0
  have f21 : wx.frozen? ⟨b2, 1, none⟩ = false := hx2.frozen 1
  have f22 : wx.frozen? ⟨b2, 2, none⟩ = false := hx2.frozen 2
  have d0 : wx.cell? ⟨b2, 0, none⟩ = some (.int .i64 0) := hx2.cell 0
  have d1 : wx.cell? ⟨b2, 1, none⟩ = some (.int .u32 0) := hx2.cell 1
  have d2 : wx.cell? ⟨b2, 2, none⟩ = some (.slice none 0 0) := hx2.cell 2
  have HFX := Lib.hid hfx
  have HX1 := Lib.hid hx1
  have HX2 := Lib.hid hx2
  have HB1 := Lib.hid hb1
  have HB2 := Lib.hid hb2
  clear hfx hx1 hx2 hb1 hb2
  go_wp2_with fail
  go_loopg [6] N (fun gk i wr => ∃ k : Nat, k ≤ N ∧ gk = N - k ∧ i = .int .i64 (k : Int) ∧ wr = wx ∧ ∀ (j : Nat) y, j < k → l[j]? = some y → (y.1 + 1) % 4294967296 ≠ n)
  case atStart => exact ⟨0, Nat.zero_le _, rfl, rfl, rfl, fun j y hj => absurd hj (Nat.not_lt_zero _)⟩
  case round =>
    obtain ⟨k, hk, hgk, rfl, rfl, hno⟩ := hrel
    by_cases hlt : k < N
    · obtain ⟨x, hx⟩ : ∃ x, l[k]? = some x := ⟨l[k]'(by rw [HN.out]; exact hlt), List.getElem?_eq_getElem _⟩
      have hne : l ≠ [] := fun h0 => by have := HN.out; rw [h0] at this; simp at this; omega
      obtain ⟨g, off, rfl, hg, hc⟩ := H3.out hne
      obtain ⟨u0, u1⟩ := HU.out k x hx
      have y0 := (HFX.out.cell (p := ⟨g, off + k * 2, none⟩) hg (by simp)).trans (hc k x hx).1
      by_cases heq : (x.1 + 1) % 4294967296 = n
      · have q : ((x.1 + 1) % 4294967296 == n) = true := by simpa using heq
        have HNO := Lib.hid hno
        have HEQ := Lib.hid heq
        have HC := Lib.hid hc
        have HXK := Lib.hid hx
        clear hc hne hno heq hx
        go_wp2_with fail
        · have hF : Frm [] w ((((wr.setCell ⟨b1, 2, none⟩ (.slice (some ⟨g, off, none⟩) (N - (k + 1)) 0)).setCell ⟨b2, 0, none⟩ (.int .i64 room)).setCell ⟨b2, 1, none⟩ (.int .u32 e)).setCell ⟨b2, 2, none⟩ (.slice (some ⟨g, off, none⟩) (N - (k + 1)) 0)) :=
            (((HFX.out.setCell (.inr (by have := HB1.out; show w.heap.size ≤ b1; omega)) _).setCell (.inr (by have := HB2.out; show w.heap.size ≤ b2; omega)) _).setCell (.inr (by have := HB2.out; show w.heap.size ≤ b2; omega)) _).setCell (.inr (by have := HB2.out; show w.heap.size ≤ b2; omega)) _
          have hB : Blk ((((wr.setCell ⟨b1, 2, none⟩ (.slice (some ⟨g, off, none⟩) (N - (k + 1)) 0)).setCell ⟨b2, 0, none⟩ (.int .i64 room)).setCell ⟨b2, 1, none⟩ (.int .u32 e)).setCell ⟨b2, 2, none⟩ (.slice (some ⟨g, off, none⟩) (N - (k + 1)) 0)) b2 36 #[.int .i64 room, .int .u32 e, .slice (some ⟨g, off, none⟩) (N - (k + 1)) 0] := ((((HX2.out.far (p := ⟨b1, 2, none⟩) (Ne.symm hbb) _).set_ 0 _).set_ 1 _).set_ 2 _).as_ rfl
          have hT : NumAt w (.slice (some ⟨g, off, none⟩) (N - (k + 1)) 0) (l.drop (k + 1)) := NumAt.tail HN.out h2 hg HC.out (by omega) (by omega)
          generalize (((wr.setCell ⟨b1, 2, none⟩ (.slice (some ⟨g, off, none⟩) (N - (k + 1)) 0)).setCell ⟨b2, 0, none⟩ (.int .i64 room)).setCell ⟨b2, 1, none⟩ (.int .u32 e)).setCell ⟨b2, 2, none⟩ (.slice (some ⟨g, off, none⟩) (N - (k + 1)) 0) = wz at *
          have k0 : wz.cell? ⟨b2, 0, none⟩ = some (.int .i64 room) := hB.cell 0
          have k1 : wz.cell? ⟨b2, 1, none⟩ = some (.int .u32 e) := hB.cell 1
          have k2 : wz.cell? ⟨b2, 2, none⟩ = some (.slice (some ⟨g, off, none⟩) (N - (k + 1)) 0) := hB.cell 2
          refine bodyPost_ret (v := .tuple #[.agg #[.int .i64 room, .int .u32 e, .slice (some ⟨g, off, none⟩) (N - (k + 1)) 0], .int .i64 ((k : Int) + 1)]) (by simp [results, Try.results18, go_sem, k0, k1, k2]) rfl ?_
          exact ⟨_, l.drop (k + 1), k + 1, rfl, hT.frm hF, hF, Or.inr ⟨k, x, rfl, HXK.out, HEQ.out, rfl, HNO.out⟩⟩
        · have hF : Frm [] w ((((wr.setCell ⟨b1, 2, none⟩ (.slice (some ⟨g, off + (k + 1) * 2, none⟩) (N - (k + 1)) (cap - (k + 1)))).setCell ⟨b2, 0, none⟩ (.int .i64 room)).setCell ⟨b2, 1, none⟩ (.int .u32 e)).setCell ⟨b2, 2, none⟩ (.slice (some ⟨g, off + (k + 1) * 2, none⟩) (N - (k + 1)) (cap - (k + 1)))) :=
            (((HFX.out.setCell (.inr (by have := HB1.out; show w.heap.size ≤ b1; omega)) _).setCell (.inr (by have := HB2.out; show w.heap.size ≤ b2; omega)) _).setCell (.inr (by have := HB2.out; show w.heap.size ≤ b2; omega)) _).setCell (.inr (by have := HB2.out; show w.heap.size ≤ b2; omega)) _
          have hB : Blk ((((wr.setCell ⟨b1, 2, none⟩ (.slice (some ⟨g, off + (k + 1) * 2, none⟩) (N - (k + 1)) (cap - (k + 1)))).setCell ⟨b2, 0, none⟩ (.int .i64 room)).setCell ⟨b2, 1, none⟩ (.int .u32 e)).setCell ⟨b2, 2, none⟩ (.slice (some ⟨g, off + (k + 1) * 2, none⟩) (N - (k + 1)) (cap - (k + 1)))) b2 36 #[.int .i64 room, .int .u32 e, .slice (some ⟨g, off + (k + 1) * 2, none⟩) (N - (k + 1)) (cap - (k + 1))] := ((((HX2.out.far (p := ⟨b1, 2, none⟩) (Ne.symm hbb) _).set_ 0 _).set_ 1 _).set_ 2 _).as_ rfl
          have hT : NumAt w (.slice (some ⟨g, off + (k + 1) * 2, none⟩) (N - (k + 1)) (cap - (k + 1))) (l.drop (k + 1)) := NumAt.tail HN.out h2 hg HC.out (by intro _; rfl) (by omega)
          generalize (((wr.setCell ⟨b1, 2, none⟩ (.slice (some ⟨g, off + (k + 1) * 2, none⟩) (N - (k + 1)) (cap - (k + 1)))).setCell ⟨b2, 0, none⟩ (.int .i64 room)).setCell ⟨b2, 1, none⟩ (.int .u32 e)).setCell ⟨b2, 2, none⟩ (.slice (some ⟨g, off + (k + 1) * 2, none⟩) (N - (k + 1)) (cap - (k + 1))) = wz at *
          have k0 : wz.cell? ⟨b2, 0, none⟩ = some (.int .i64 room) := hB.cell 0
          have k1 : wz.cell? ⟨b2, 1, none⟩ = some (.int .u32 e) := hB.cell 1
          have k2 : wz.cell? ⟨b2, 2, none⟩ = some (.slice (some ⟨g, off + (k + 1) * 2, none⟩) (N - (k + 1)) (cap - (k + 1))) := hB.cell 2
          refine bodyPost_ret (v := .tuple #[.agg #[.int .i64 room, .int .u32 e, .slice (some ⟨g, off + (k + 1) * 2, none⟩) (N - (k + 1)) (cap - (k + 1))], .int .i64 ((k : Int) + 1)]) (by simp [results, Try.results18, go_sem, k0, k1, k2]) rfl ?_
          exact ⟨_, l.drop (k + 1), k + 1, rfl, hT.frm hF, hF, Or.inr ⟨k, x, rfl, HXK.out, HEQ.out, rfl, HNO.out⟩⟩
      · have q : ((x.1 + 1) % 4294967296 == n) = false := by simpa using heq
        have hno2 : ∀ (j : Nat) y, j < k + 1 → l[j]? = some y → (y.1 + 1) % 4294967296 ≠ n := fun j y hj hy => by
          rcases Nat.lt_or_ge j k with h0 | h0
          · exact hno j y h0 hy
          · have : j = k := by omega
            subst this
            rw [hx] at hy
            cases hy
            exact heq
        clear hc hne hno heq
        go_wp2_with fail
        go_roundg (N - (k + 1))
        case measure => omega
        case rel => exact ⟨k + 1, by omega, rfl, by go_num, rfl, hno2⟩
    · obtain rfl : k = N := by omega
      have HNO := Lib.hid hno
      clear hno hlt
      go_wp2_with fail
      have hN := HN.out
      have hF : Frm [] w (((wr.setCell ⟨b2, 0, none⟩ (.int .i64 room)).setCell ⟨b2, 1, none⟩ (.int .u32 e)).setCell ⟨b2, 2, none⟩ (.slice A k cap)) :=
        ((HFX.out.setCell (.inr (by have := HB2.out; show w.heap.size ≤ b2; omega)) _).setCell (.inr (by have := HB2.out; show w.heap.size ≤ b2; omega)) _).setCell (.inr (by have := HB2.out; show w.heap.size ≤ b2; omega)) _
      have hn : NumAt w (.slice A k cap) l := by rw [← hN]; exact HH.out
      have hB : Blk (((wr.setCell ⟨b2, 0, none⟩ (.int .i64 room)).setCell ⟨b2, 1, none⟩ (.int .u32 e)).setCell ⟨b2, 2, none⟩ (.slice A k cap)) b2 36 #[.int .i64 room, .int .u32 e, .slice A k cap] := (((HX2.out.set_ 0 _).set_ 1 _).set_ 2 _).as_ rfl
      generalize ((wr.setCell ⟨b2, 0, none⟩ (.int .i64 room)).setCell ⟨b2, 1, none⟩ (.int .u32 e)).setCell ⟨b2, 2, none⟩ (.slice A k cap) = wz at *
      have k0 : wz.cell? ⟨b2, 0, none⟩ = some (.int .i64 room) := hB.cell 0
      have k1 : wz.cell? ⟨b2, 1, none⟩ = some (.int .u32 e) := hB.cell 1
      have k2 : wz.cell? ⟨b2, 2, none⟩ = some (.slice A k cap) := hB.cell 2
      refine bodyPost_ret (v := .tuple #[.agg #[.int .i64 room, .int .u32 e, .slice A k cap], .int .i64 0]) (by simp [results, Try.results18, go_sem, k0, k1, k2]) rfl ?_
      exact ⟨_, l, 0, rfl, hn.frm hF, hF, Or.inl ⟨rfl, rfl, fun j y hy => HNO.out j y (by rw [← hN]; exact (List.getElem?_eq_some_iff.1 hy).1) hy⟩⟩
end Go.Proofs.Ytljgmlgdafijcaa
