/- Great, of the rbuf statements: where it says no, there are at most 100 acts, of 20000 bytes. -/
import Derived.Test.YtjfamjaebehieaaRbufActs
namespace Go.Proofs.Ytjfamjaebehieaa
open Go.RowKit Go

def tot (z : Nat → Act12) : Nat → Nat
  | 0 => 0
  | k + 1 => tot z k + (z k).s.length
def totm (z : Nat → Act12) : Nat → Nat
  | 0 => 0
  | k + 1 => totm z k + min (z k).s.length 20001
theorem tot_of_totm (z : Nat → Act12) : ∀ k, totm z k ≤ 20000 → tot z k = totm z k
  | 0, _ => rfl
  | k + 1, h => by
    have h1 : totm z k + min (z k).s.length 20001 ≤ 20000 := h
    show tot z k + (z k).s.length = totm z k + min (z k).s.length 20001
    rw [tot_of_totm z k (by omega)]
    omega
theorem tot_mono (z : Nat → Act12) {a b : Nat} (h : a ≤ b) : tot z a ≤ tot z b := by
  induction b with
  | zero => rw [show a = 0 from by omega]; exact Nat.le_refl _
  | succ b ih =>
    by_cases he : a = b + 1
    · rw [he]; exact Nat.le_refl _
    · exact Nat.le_trans (ih (by omega)) (Nat.le_add_right _ _)
theorem totm_le (z : Nat → Act12) : ∀ k, totm z k ≤ k * 20001
  | 0 => by simp [totm]
  | k + 1 => by
    have := totm_le z k
    show totm z k + min (z k).s.length 20001 ≤ _
    omega

def GreatPost (z : Nat → Act12) (len : Nat) (w : World) (e : Ending) (w' : World) : Prop :=
  ∃ B : Bool, e = .returned (.bool B) ∧ (B = false → len ≤ 100 ∧ tot z len ≤ 20000) ∧ w = w'

theorem great_end (z : Nat → Act12) (len : Nat) (B : Bool) (h : B = false → len ≤ 100 ∧ totm z len ≤ 20000) : B = false → len ≤ 100 ∧ tot z len ≤ 20000 := by
  intro hb
  obtain ⟨h1, h2⟩ := h hb
  exact ⟨h1, by rw [tot_of_totm z len h2]; exact h2⟩

set_option maxRecDepth 100000 in
theorem great_any (A : Option Addr) (len cap : Nat) (z : Nat → Act12) (w w0 : World) (hz : Acts w0 A len cap z) (hf : Frm [] w0 w) :
    Calls Try.prog 16 #[.slice A len cap] w (GreatPost z len w) := by
  obtain ⟨hlc, hcm, hel⟩ := hz
  have hlm : cap ≤ 9223372036854775807 := hcm
  clear hcm
  go_enter Try.func16, Try.ntmps16
  go_wp2_with fail
  go_loop [3, 4] (fun n i => ∃ k : Nat, k ≤ len ∧ k ≤ 101 ∧ i = .int .i64 (k : Int) ∧ n = .int .i64 (totm z k : Nat)) (fun _ i => 101 - (intOf i).toNat)
  case atStart => exact ⟨0, by omega, by omega, rfl, rfl⟩
  case round =>
    obtain ⟨k, hk, hk2, rfl, rfl⟩ := hrel
    have hle := totm_le z k
    have hle2 : (totm z k : Int) ≤ 2020101 := by omega
    have hle3 : (0 : Int) ≤ (totm z k : Int) := by omega
    clear hle
    by_cases hlt : k < len
    · by_cases hlt2 : k ≤ 100
      · obtain ⟨b, o, rfl, hbl, hat⟩ := hel (by omega)
        have hc := (hf.cell (p := ⟨b, o + k * 5 + 4, none⟩) hbl (by simp)).trans (hat k hlt).2.2.2.2.1
        have hmx : (z k).s.length ≤ 9223372036854775807 := (hat k hlt).2.2.2.2.2.2
        clear hat
        have hmin : (if (20001 : Int) < (z k).s.length then 20001 else ((z k).s.length : Int)) = ((min (z k).s.length 20001 : Nat) : Int) := by split <;> omega
        have hmb : ((min (z k).s.length 20001 : Nat) : Int) ≤ 20001 := by omega
        have hst : totm z (k + 1) = totm z k + min (z k).s.length 20001 := rfl
        have HST := Lib.hid hst
        clear hst
        generalize min (z k).s.length 20001 = M at *
        go_wp2_with fail
        go_round
        case rel => exact ⟨k + 1, by omega, by omega, by go_num, by rw [HST.out]; go_num⟩
        case measure => simp [intOf]; omega
      · go_wp2_with fail
        go_ret
        exact ⟨_, rfl, fun h => by simp at h, rfl⟩
    · obtain rfl : k = len := by omega
      clear hlt hk hel hlc hf
      go_wp2_with fail
      all_goals go_ret
      all_goals refine ⟨_, rfl, great_end z k _ fun h => ?_, rfl⟩
      all_goals first | (simp at h; done) | (simp at h; omega)

end Go.Proofs.Ytjfamjaebehieaa
