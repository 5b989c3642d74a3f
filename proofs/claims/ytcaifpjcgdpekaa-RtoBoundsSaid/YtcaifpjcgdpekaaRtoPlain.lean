/- The plain law of the clock: measuring the same number again and again settles the average and the spread. No walk in sight. -/
import Derived.Test.YtcaifpjcgdpekaaRto
namespace Go.Proofs.Ytcaifpjcgdpekaa

def dstep (d : Nat) : Nat := d - d / 8
def ustep (d : Nat) : Nat := d - (d + 7) / 8
def vstep (v : Nat) : Nat := v - v / 4
def iter (f : Nat → Nat) : Nat → Nat → Nat
  | 0, x => x
  | n + 1, x => iter f n (f x)
theorem iter_succ' (f : Nat → Nat) : ∀ (n x : Nat), iter f (n + 1) x = f (iter f n x)
  | 0, _ => rfl
  | n + 1, x => iter_succ' f n (f x)

theorem meet_lm (c : Clk) (r : Int) : (c.meet r).least = c.least ∧ (c.meet r).most = c.most := by
  unfold Clk.meet
  split <;> exact ⟨rfl, rfl⟩
theorem measure_least (c : Clk) (r : Int) : (c.measure r).least = c.least ∧ (c.measure r).most = c.most := meet_lm c _
/-- Where the clock stands behind k measures of n. -/
structure Near (n : Int) (k : Nat) (c : Clk) : Prop where
  ok : c.Ok
  least : c.least = 1
  most : c.most = 1048576
  me : 1 ≤ k → c.meas = true
  hi : c.meas = true → c.mean ≤ 8 * n + (iter dstep k 8388608 : Nat)
  lo : c.meas = true → 8 * n ≤ c.mean + (iter ustep k 8388608 : Nat)
  va : c.meas = true → 200 ≤ k → c.vary ≤ (iter vstep (k - 200) 4194307 : Nat)
  wt : 1 ≤ k → c.wait = clip 1 1048576 (c.mean / 8 + max c.vary 1)

theorem near_start {c : Clk} (n : Int) (h : c.Ok) (hl : c.least = 1) (hm : c.most = 1048576) (n0 : 0 ≤ n) (n1 : n ≤ 5000) : Near n 0 c := by
  refine ⟨h, hl, hm, fun h => absurd h (by omega), fun _ => ?_, fun _ => ?_, fun _ h => absurd h (by omega), fun h => absurd h (by omega)⟩
  · have := h.m2; show c.mean ≤ 8 * n + ((8388608 : Nat) : Int); omega
  · have := h.m1; show 8 * n ≤ c.mean + ((8388608 : Nat) : Int); omega

theorem d200 : iter dstep 200 8388608 = 7 := by decide +kernel
theorem u200 : iter ustep 200 8388608 = 0 := by decide +kernel
theorem v200 : iter vstep 200 4194307 = 3 := by decide +kernel
theorem iter_le {f : Nat → Nat} (hf : ∀ x, f x ≤ x) (k x : Nat) : ∀ j, iter f (k + j) x ≤ iter f k x
  | 0 => Nat.le_refl _
  | j + 1 => by
    rw [← Nat.add_assoc, iter_succ']
    exact Nat.le_trans (hf _) (iter_le hf k x j)
theorem d_late {k : Nat} (h : 200 ≤ k) : iter dstep k 8388608 ≤ 7 := by
  have := iter_le (f := dstep) (fun x => Nat.sub_le _ _) 200 8388608 (k - 200)
  rw [d200, show 200 + (k - 200) = k from by omega] at this
  exact this
theorem u_late {k : Nat} (h : 200 ≤ k) : iter ustep k 8388608 = 0 := by
  have := iter_le (f := ustep) (fun x => Nat.sub_le _ _) 200 8388608 (k - 200)
  rw [u200, show 200 + (k - 200) = k from by omega] at this
  omega

theorem near_step {n : Int} {k : Nat} {c : Clk} (h : Near n k c) (n0 : 0 ≤ n) (n1 : n ≤ 5000) : Near n (k + 1) (c.measure n) := by
  have hok := h.ok.measure n
  obtain ⟨ok, hl, hm, me, hi, lo, va, wt⟩ := h
  have hcl : clip 0 1048576 n = n := by unfold clip; omega
  have hme : (c.measure n).meas = true := by
    unfold Clk.measure Clk.meet
    split
    · assumption
    · rfl
  obtain ⟨l1, l2, l3, l4, m1, m2, v1, v2⟩ := ok
  rcases hmb : c.meas with _ | _
  · have hk : k = 0 := by
      rcases Nat.eq_zero_or_pos k with h0 | h0
      · exact h0
      · have := me h0
        rw [hmb] at this
        cases this
    subst hk
    have e : c.measure n = Clk.set { c with mean := 8 * n, vary := 2 * n, meas := true } (8 * n / 8 + max (2 * n) 1) := by
      unfold Clk.measure
      rw [hcl]
      unfold Clk.meet
      rw [hmb]
      rfl
    refine ⟨hok, by rw [e]; exact hl, by rw [e]; exact hm, fun _ => hme, fun _ => ?_, fun _ => ?_, fun _ h => absurd h (by omega), fun _ => ?_⟩
    · rw [e]; show 8 * n ≤ 8 * n + _; omega
    · rw [e]; show 8 * n ≤ 8 * n + _; omega
    · rw [e]; show clip c.least c.most _ = clip 1 1048576 (8 * n / 8 + max (2 * n) 1); rw [hl, hm]
  · have hi' := hi hmb
    have lo' := lo hmb
    have va' := va hmb
    have e : c.measure n = Clk.set { c with vary := c.vary + (max (n - c.mean / 8) (-(n - c.mean / 8)) - c.vary / 4), mean := c.mean + (n - c.mean / 8) }
        ((c.mean + (n - c.mean / 8)) / 8 + max (c.vary + (max (n - c.mean / 8) (-(n - c.mean / 8)) - c.vary / 4)) 1) := by
      unfold Clk.measure
      rw [hcl]
      unfold Clk.meet
      rw [hmb]
      rfl
    refine ⟨hok, by rw [e]; exact hl, by rw [e]; exact hm, fun _ => hme, fun _ => ?_, fun _ => ?_, fun _ hk => ?_, fun _ => ?_⟩
    · rw [e, iter_succ']
      show c.mean + (n - c.mean / 8) ≤ 8 * n + _
      generalize iter dstep k 8388608 = D at *
      unfold dstep
      omega
    · rw [e, iter_succ']
      show 8 * n ≤ c.mean + (n - c.mean / 8) + _
      generalize iter ustep k 8388608 = D at *
      unfold ustep
      omega
    · rw [e]
      show c.vary + (max (n - c.mean / 8) (-(n - c.mean / 8)) - c.vary / 4) ≤ _
      rcases Nat.lt_or_ge k 200 with hlt | hge
      · have hk2 : k = 199 := by omega
        subst hk2
        have := hok.v2
        rw [e] at this
        exact this
      · have hd := d_late hge
        have hu := u_late hge
        have hx : n - c.mean / 8 = 0 := by omega
        rw [hx]
        have h3 := va' hge
        rw [show k + 1 - 200 = (k - 200) + 1 from by omega, iter_succ']
        generalize iter vstep (k - 200) 4194307 = D at *
        unfold vstep
        omega
    · rw [e]
      show clip c.least c.most ((c.mean + (n - c.mean / 8)) / 8 + max (c.vary + (max (n - c.mean / 8) (-(n - c.mean / 8)) - c.vary / 4)) 1) = clip 1 1048576 ((c.mean + (n - c.mean / 8)) / 8 + max (c.vary + (max (n - c.mean / 8) (-(n - c.mean / 8)) - c.vary / 4)) 1)
      rw [hl, hm]

theorem near_end {n : Int} {c : Clk} (h : Near n 400 c) (n0 : 0 ≤ n) (n1 : n ≤ 5000) : max n 1 ≤ c.wait ∧ c.wait ≤ n + 4 := by
  have hme := h.me (by omega)
  have hi := h.hi hme
  have lo := h.lo hme
  have va := h.va hme (by omega)
  have wt := h.wt (by omega)
  have hd := d_late (k := 400) (by omega)
  have hu := u_late (k := 400) (by omega)
  rw [show 400 - 200 = 200 from rfl, v200] at va
  have hv := h.ok.v1
  rw [wt]
  unfold clip
  omega

end Go.Proofs.Ytcaifpjcgdpekaa
