/- The reference's Get: the walk. -/
import Derived.Test.YtljgmlgdafijcaaSbufRefGet
namespace Go.Proofs.Ytljgmlgdafijcaa
open Go.RowKit Go

theorem drop_cons {l : List (Int × UInt8)} {k : Nat} {x : Int × UInt8} (h : l[k]? = some x) : l.drop k = x :: l.drop (k + 1) := by
  obtain ⟨hk, rfl⟩ := List.getElem?_eq_some_iff.1 h
  exact List.drop_eq_getElem_cons hk
set_option maxHeartbeats 2000000 in
theorem rget_any (room e seq m : Int) (v : Value) (l : List (Int × UInt8)) (w : World) (h : NumAt w v l) (hm : m ≤ 9223372036854775807) :
    Calls Try.prog 19 #[.agg #[.int .i64 room, .int .u32 e, v], .int .u32 seq, .int .i64 m] w fun en w' => en = .returned (.string ⟨(rgetOut seq m l []).toArray⟩) ∧ Frm [] w w' := by
  obtain ⟨A, cap, rfl, h1, h2, -, h3⟩ := h
  have H3 := Lib.hid h3
  obtain ⟨N, hN⟩ : ∃ N, l.length = N := ⟨_, rfl⟩
  rw [hN] at h1 h2 ⊢
  have HN := Lib.hid hN
  clear h3 hN
  go_enter Try.func19, Try.ntmps19
  go_upto_region 1 with fail
  obtain ⟨b1, hb1⟩ : ∃ b, b = w.heap.size := ⟨_, rfl⟩
  refine wp_world (fun wx => Frm [] w wx ∧ Blk wx b1 36 #[.int .i64 room, .int .u32 e, .slice A N cap]) ⟨(Frm.refl _ _).alloc _, Blk.new_at hb1.symm _ _⟩ ?_
  rintro wx ⟨hfx, hx1⟩
  rw [← hb1]
  have HFX := Lib.hid hfx
  have HX1 := Lib.hid hx1
  clear hfx hx1 hb1
  go_wp2_with fail
  go_loopg [7, 8] N (fun gk s i wr => ∃ (k : Nat) (S : List UInt8), k ≤ N ∧ gk = N - k ∧ s = .string ⟨S.toArray⟩ ∧ i = .int .i64 (k : Int) ∧ Frm [] wx wr ∧ rgetOut seq m (l.drop k) S = rgetOut seq m l [])
  case atStart => exact ⟨0, [], Nat.zero_le _, rfl, rfl, rfl, Frm.refl _ _, rfl⟩
  case round =>
    obtain ⟨k, S, hk, hgk, rfl, rfl, hf, heq⟩ := hrel
    have c2 : wr.cell? ⟨b1, 2, none⟩ = some (.slice A N cap) := (HX1.out.frm hf (by simp)).cell 2
    have HF := Lib.hid hf
    have HEQ := Lib.hid heq
    clear hf heq
    by_cases hlt : k < N
    · obtain ⟨x, hx⟩ : ∃ x, l[k]? = some x := ⟨l[k]'(by rw [HN.out]; exact hlt), List.getElem?_eq_getElem _⟩
      have hne : l ≠ [] := fun h0 => by have := HN.out; rw [h0] at this; simp at this; omega
      obtain ⟨g, off, rfl, hg, hc⟩ := H3.out hne
      have y0 := ((HFX.out.next0 HF.out).cell (p := ⟨g, off + k * 2, none⟩) hg (by simp)).trans (hc k x hx).1
      have HC := Lib.hid hc
      have HXK := Lib.hid hx
      clear hc hne hx
      by_cases hs : x.1 = seq
      · have q : (x.1 == seq) = true := by simpa using hs
        have heq2 : rgetOut seq m (l.drop (k + 1)) (rgetIn m (l.drop k) S) = rgetOut seq m l [] := by
          rw [← HEQ.out, drop_cons HXK.out]
          exact (if_pos hs).symm
        have HEQ2 := Lib.hid heq2
        clear heq2 hs
        go_wp2_with fail
        go_loopg [7, 9] (N - k) (fun gk s i wr => ∃ (j : Nat) (S2 : List UInt8), k ≤ j ∧ j ≤ N ∧ gk = N - j ∧ s = .string ⟨S2.toArray⟩ ∧ i = .int .i64 (j : Int) ∧ Frm [] wx wr ∧ rgetIn m (l.drop j) S2 = rgetIn m (l.drop k) S)
        case atStart => exact ⟨k, S, Nat.le_refl _, hk, rfl, rfl, rfl, HF.out, rfl⟩
        case round =>
          obtain ⟨j, S2, hkj, hj, hgj, rfl, rfl, hf2, hin⟩ := hrel
          have c3 : wr.cell? ⟨b1, 2, none⟩ = some (.slice (some ⟨g, off, none⟩) N cap) := (HX1.out.frm hf2 (by simp)).cell 2
          have HF2 := Lib.hid hf2
          have HIN := Lib.hid hin
          clear hf2 hin
          by_cases hjn : j < N
          · obtain ⟨z, hz⟩ : ∃ z, l[j]? = some z := ⟨l[j]'(by rw [HN.out]; exact hjn), List.getElem?_eq_getElem _⟩
            have qj : decide ((j : Int) < (N : Int)) = true := by simp; omega
            by_cases hsm : (S2.length : Int) < m
            · have qs : decide ((S2.length : Int) < m) = true := by simpa using hsm
              have z1 := ((HFX.out.next0 HF2.out).cell (p := ⟨g, off + j * 2 + 1, none⟩) hg (by simp)).trans (HC.out j z hz).2
              have hlen : S2.length + 1 ≤ 9223372036854775807 := by omega
              have hin2 : rgetIn m (l.drop (j + 1)) (S2 ++ [z.2]) = rgetIn m (l.drop k) S := by
                rw [← HIN.out, drop_cons hz]
                exact (if_pos hsm).symm
              clear hz
              have hcv := run_convert_bytes_back (P := Try.prog) (wr.alloc (.cells #[.int .u8 (z.2.toNat : Int)] 5)) 49 9 5 ⟨wr.heap.size, 0, none⟩ 1 [z.2] Try.underlying49 Try.underlying5 Try.underlying9 (fun j hj => by
                have h0 : j = 0 := by simp at hj; omega
                subst h0
                rw [Addr.add_lit, Nat.zero_add]
                exact (Blk.new_at (w := wr) (g := wr.heap.size) rfl 5 #[.int .u8 (z.2.toNat : Int)]).cell 0)
              simp only [List.length_singleton] at hcv
              go_wp2_with fail
              go_roundg (N - (j + 1))
              case measure => omega
              case rel => exact ⟨j + 1, S2 ++ [z.2], by omega, by omega, rfl, by simp [ByteArray.ext_iff, ByteArray.data_append], by go_num, HF2.out.alloc _, hin2⟩
            · have qs : decide ((S2.length : Int) < m) = false := by simpa using hsm
              have hS : rgetIn m (l.drop j) S2 = S2 := by rw [drop_cons hz]; exact if_neg hsm
              have he : rgetOut seq m (l.drop (k + 1)) S2 = rgetOut seq m l [] := by rw [← HEQ2.out, ← HIN.out, hS]
              clear hS hz hsm
              go_wp2_with fail
              go_roundg (N - (k + 1))
              case measure => omega
              case rel => exact ⟨k + 1, S2, by omega, rfl, rfl, by go_num, HF2.out, he⟩
          · obtain rfl : j = N := by omega
            have qj : decide ((j : Int) < (j : Int)) = false := by simp
            have hS : rgetIn m (l.drop j) S2 = S2 := by rw [List.drop_of_length_le (by rw [HN.out]; exact Nat.le_refl _)]; rfl
            have he : rgetOut seq m (l.drop (k + 1)) S2 = rgetOut seq m l [] := by rw [← HEQ2.out, ← HIN.out, hS]
            clear hS hjn
            go_wp2_with fail
            go_roundg (j - (k + 1))
            case measure => omega
            case rel => exact ⟨k + 1, S2, by omega, rfl, rfl, by go_num, HF2.out, he⟩
      · have q : (x.1 == seq) = false := by simpa using hs
        have hq2 : rgetOut seq m (l.drop (k + 1)) S = rgetOut seq m l [] := by
          rw [← HEQ.out, drop_cons HXK.out]
          exact (if_neg hs).symm
        clear hs
        go_wp2_with fail
        go_roundg (N - (k + 1))
        case measure => omega
        case rel => exact ⟨k + 1, S, by omega, rfl, rfl, by go_num, HF.out, hq2⟩
    · obtain rfl : k = N := by omega
      have he : rgetOut seq m (l.drop k) S = S := by rw [List.drop_of_length_le (by rw [HN.out]; exact Nat.le_refl _)]; rfl
      have hS : S = rgetOut seq m l [] := he ▸ HEQ.out
      have HS := Lib.hid hS
      clear he hS hlt
      go_wp2_with fail
      go_ret
      exact ⟨by have h := HS.out; rw [← h]; rfl, HFX.out.next0 HF.out⟩
end Go.Proofs.Ytljgmlgdafijcaa
