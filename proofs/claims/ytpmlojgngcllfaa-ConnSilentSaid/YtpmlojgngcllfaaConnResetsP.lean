/- What a segment with Rst does, in plain words; and ticks, andNot. -/
import Derived.Test.YtpmlojgngcllfaaConnInv
import Derived.Test.YtpmlojgngcllfaaConnActs
namespace Go.Proofs.Ytpmlojgngcllfaa
open Go.RowKit Go

def tk (n : Int) : Nat := (n.tmod 200).natAbs
theorem tk_le (n : Int) : tk n ≤ 199 := by
  unfold tk
  rcases Int.lt_or_le n 0 with h | h
  · have : n.tmod 200 = -((-n) % 200) := by rw [← Int.neg_neg n, Int.neg_tmod, Int.tmod_eq_emod_of_nonneg (by omega), Int.neg_neg]
    omega
  · rw [Int.tmod_eq_emod_of_nonneg h]
    omega
theorem ticks_any (n : Int) (w : World) (h : (Lit.int .i64 n).wf = true) : Calls Try.prog 29 #[.int .i64 n] w fun e w' => e = .returned (.int .i64 (tk n : Nat)) ∧ w = w' := by
  obtain ⟨h0, h1⟩ := i64_of_wf h
  have hle := tk_le n
  have htk : tk n = (n.tmod 200).natAbs := rfl
  clear h
  obtain ⟨m, hm⟩ : ∃ m, n.tmod 200 = m := ⟨_, rfl⟩
  rw [hm] at htk
  obtain ⟨m1, m2⟩ : -199 ≤ m ∧ m ≤ 199 := by omega
  have HT := Lib.hid htk
  clear htk hle
  rcases Int.lt_or_le m 0 with hs | hs
  · have q : decide (m < 0) = true := by simpa using hs
    go_enter Try.func29, Try.ntmps29
    go_wp2_with fail
    go_ret
    exact ⟨ret_int (by rw [HT.out]; omega), rfl⟩
  · have q : decide (m < 0) = false := by simpa using hs
    go_enter Try.func29, Try.ntmps29
    go_wp2_with fail
    go_ret
    exact ⟨ret_int (by rw [HT.out]; omega), rfl⟩

def sX : Sg := ⟨0, 0, 2147483648, 0, 0, 0, 0, []⟩
def sRst (q : Int) : Sg := ⟨0, 0, q, 0, 4, 0, 0, []⟩
theorem flags0 : hasF 0 2 = false ∧ hasF 0 1 = false ∧ hasF 0 4 = false := ⟨by decide, by decide, by decide⟩
theorem flags4 : hasF 4 2 = false ∧ hasF 4 1 = false ∧ hasF 4 4 = true ∧ hasF 4 6 = true := ⟨by decide, by decide, by decide, by decide⟩
theorem sX_ok : sX.Ok := ⟨by decide, by decide, by decide, by decide, by decide, by decide, by decide⟩
theorem sRst_ok {q : Int} (h0 : 0 ≤ q) (h1 : q < 4294967296) : (sRst q).Ok := ⟨h0, h1, show (0 : Int) ≤ 0 by decide, show (0 : Int) < 4294967296 by decide, show (0 : Int) ≤ 0 by decide, show (0 : Int) ≤ 65535 by decide, show 0 ≤ 1000000 by decide⟩

theorem CN.Inv.want_bd {T A : Int} {c : CN} (h : c.Inv T A) (hT : T ≤ 30000) : 101 ≤ c.want ∧ c.want ≤ 30102 := by
  have h0 := h.n0
  have h1 := h.n1
  have h2 := h.rb.hc
  unfold CN.want M32
  split <;> omega
theorem CN.win_le {c : CN} (h : c.rb.Ok) : c.rb.win ≤ 2048 := by
  have := h.r2
  unfold RB.win
  omega
/-- Whether an empty segment fits. -/
theorem CN.fits_empty (c : CN) (q f : Int) (hf : hasF f 2 = false ∧ hasF f 1 = false) (a wd ms : Int) : c.fits ⟨0, 0, q, a, f, wd, ms, []⟩ = decide (ahd c.want q < max (c.rb.win : Int) 1) := by
  unfold CN.fits
  have hl : Sg.len ⟨0, 0, q, a, f, wd, ms, []⟩ = 0 := by
    unfold Sg.len
    show ((0 : Nat) : Int) + (if hasF f 2 = true then 1 else 0) + (if hasF f 1 = true then 1 else 0) = 0
    rw [hf.1, hf.2]
    rfl
  rw [hl]
  unfold mayB inB
  have : max (max (c.rb.win : Int) 1) 0 = max (c.rb.win : Int) 1 := by omega
  rw [this, if_neg (by omega), if_pos (by decide)]

theorem CN.inn_X {T A : Int} {c : CN} (h : c.Inv T A) (hT : T ≤ 30000) (h9 : c.state ≠ 9) : c.inn sX = c.tell := by
  have hw := h.want_bd hT
  have hwin := CN.win_le h.rb
  have hf : c.fits sX = false := by
    unfold sX
    rw [c.fits_empty _ _ ⟨flags0.1, flags0.2.1⟩]
    have : ahd c.want 2147483648 = 2147483648 - c.want := by unfold ahd; omega
    rw [this]
    simp
    omega
  unfold CN.inn CN.counts
  rw [if_neg h9, hf]
  rfl
theorem CN.inn_no {c d : CN} {s : Sg} (h9 : c.state ≠ 9) (hc : c.counts s = (false, d)) : c.inn s = d := by
  unfold CN.inn
  rw [if_neg h9, hc]
  rfl
theorem CN.inn_far {T A : Int} {c : CN} (h : c.Inv T A) (hT : T ≤ 30000) (h9 : c.state ≠ 9) {far : Int} (f0 : 0 < far) (f1 : far < 4294967296) :
    c.inn (sRst ((c.want + far) % 4294967296)) = if far < max (c.rb.win : Int) 1 then c.tell else c := by
  have hw := h.want_bd hT
  have hf : c.fits (sRst ((c.want + far) % 4294967296)) = decide (far < max (c.rb.win : Int) 1) := by
    unfold sRst
    rw [c.fits_empty _ _ ⟨flags4.1, flags4.2.1⟩]
    have : ahd c.want ((c.want + far) % 4294967296) = far := by unfold ahd; omega
    rw [this]
  by_cases hfar : far < max (c.rb.win : Int) 1
  · have hne : ¬ (hasF (sRst ((c.want + far) % 4294967296)).flags 4 = true ∧ (sRst ((c.want + far) % 4294967296)).seq = c.want) := by
      rintro ⟨_, h2⟩
      have h3 : (c.want + far) % 4294967296 = c.want := h2
      omega
    rw [if_pos hfar]
    refine CN.inn_no h9 ?_
    unfold CN.counts
    rw [hf, if_pos (by simpa using hfar), if_neg hne, if_pos (show hasF (sRst ((c.want + far) % 4294967296)).flags 6 = true from flags4.2.2.2)]
  · rw [if_neg hfar]
    refine CN.inn_no h9 ?_
    unfold CN.counts
    rw [hf, if_neg (by simpa using hfar), if_pos (show hasF (sRst ((c.want + far) % 4294967296)).flags 4 = true from flags4.2.2.1)]
theorem CN.inn_rst {c : CN} (h9 : c.state ≠ 9) : c.inn (sRst c.want) = c.finish true := by
  have hf : c.fits (sRst c.want) = true := by
    unfold sRst
    rw [c.fits_empty _ _ ⟨flags4.1, flags4.2.1⟩]
    have : ahd c.want c.want = 0 := by unfold ahd; omega
    rw [this]
    simp
    omega
  refine CN.inn_no h9 ?_
  unfold CN.counts
  rw [hf, if_pos rfl, if_pos ⟨show hasF (sRst c.want).flags 4 = true from flags4.2.2.1, rfl⟩]
theorem CN.inn_gone {c : CN} (h9 : c.state = 9) (s : Sg) : c.inn s = c := by unfold CN.inn; rw [if_pos h9]

theorem start_inv : (CN.start sSyn 500 tHow).Inv 0 0 := by
  have hok := CN.fresh_ok (m := 100) newok_how 500 (by decide) (by decide)
  exact ⟨by decide, by decide, fun _ => rfl, fun _ => by decide, fun (e : (1 : Int) = 6) => absurd e (by decide), by decide, by decide, by decide, by decide, hok.sb, hok.rb⟩
theorem start_out : (CN.start sSyn 500 tHow).out.length = 1 := by rw [show (CN.start sSyn 500 tHow).out = [⟨10, 9, 500, 101, 18, 2048, 536, []⟩] from ev_first]; rfl

end Go.Proofs.Ytpmlojgngcllfaa
