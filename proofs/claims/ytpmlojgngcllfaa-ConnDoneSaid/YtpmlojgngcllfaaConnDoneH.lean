/- ConnDone: the other end, and what it hears. No walk in sight. -/
import Derived.Test.YtpmlojgngcllfaaConnDoneG
namespace Go.Proofs.Ytpmlojgngcllfaa
open Go.RowKit Go

/-- The other end. -/
structure EX where
  W : Nat
  U : Nat
  H : Nat
  F : Bool
  th : List Bool
  most : Int
def paint (th : List Bool) (a : Nat) : Nat → List Bool
  | 0 => th
  | n + 1 => (paint th a n).set (a + n) true
def climb (th : List Bool) (W : Nat) : Nat → Nat → Nat
  | 0, u => u
  | k + 1, u => if u < W ∧ th.getD u false = true then climb th W k (u + 1) else u
def EX.heard (x : EX) (irs : Int) (s : Sg) : EX := { x with H := max x.H (ahd ((irs + 1) % 4294967296) s.ack).toNat }
def EX.mark (x : EX) (a : Nat) (s : Sg) : EX :=
  { x with
    th := paint x.th a s.data.length
    U := climb (paint x.th a s.data.length) x.W (x.W - x.U) x.U
    F := x.F || (hasF s.flags 1 && decide (a + s.data.length = x.W) && decide (climb (paint x.th a s.data.length) x.W (x.W - x.U) x.U = x.W)) }
def EX.hear (x : EX) (iss irs : Int) (s : Sg) : EX :=
  if hasF s.flags 2 then x.heard irs s else if s.len = 0 then x.heard irs s else (x.heard irs s).mark (ahd ((iss + 1) % 4294967296) s.seq).toNat s
def EX.hears (iss irs : Int) : EX → List Sg → EX
  | x, [] => x
  | x, s :: l => EX.hears iss irs (x.hear iss irs s) l

theorem paint_len (th : List Bool) (a : Nat) : ∀ n, (paint th a n).length = th.length
  | 0 => rfl
  | n + 1 => by show ((paint th a n).set (a + n) true).length = _; rw [List.length_set, paint_len th a n]
theorem paint_get (th : List Bool) (a : Nat) : ∀ n, a + n ≤ th.length → ∀ k, (paint th a n).getD k false = (th.getD k false || decide (a ≤ k ∧ k < a + n))
  | 0, _, k => by
    rw [decide_eq_false (by omega), Bool.or_false]
    rfl
  | n + 1, h, k => by
    show ((paint th a n).set (a + n) true).getD k false = _
    rw [getD_set _ _ _ _ _ (by rw [paint_len]; omega), paint_get th a n (by omega) k]
    by_cases hk : a + n = k
    · rw [if_pos hk, decide_eq_true (by omega : a ≤ k ∧ k < a + (n + 1)), Bool.or_true]
    · rw [if_neg hk]
      congr 1
      by_cases h2 : a ≤ k ∧ k < a + n
      · rw [decide_eq_true h2, decide_eq_true (by omega)]
      · rw [decide_eq_false h2, decide_eq_false (by omega)]
theorem climb_ok (th : List Bool) (W : Nat) : ∀ k u, u ≤ W → W ≤ u + k → u ≤ climb th W k u ∧ climb th W k u ≤ W ∧ (∀ j, u ≤ j → j < climb th W k u → th.getD j false = true) ∧ (climb th W k u = W ∨ th.getD (climb th W k u) false = false)
  | 0, u, h1, h2 => ⟨Nat.le_refl _, h1, fun j hj hj2 => by have : j < u := hj2; omega, .inl (by show u = W; omega)⟩
  | k + 1, u, h1, h2 => by
    unfold climb
    by_cases hc : u < W ∧ th.getD u false = true
    · rw [if_pos hc]
      obtain ⟨a1, a2, a3, a4⟩ := climb_ok th W k (u + 1) (by omega) (by omega)
      refine ⟨by omega, a2, fun j hj hj2 => ?_, a4⟩
      rcases (by omega : j = u ∨ u + 1 ≤ j) with h3 | h3
      · rw [h3]; exact hc.2
      · exact a3 j h3 hj2
    · rw [if_neg hc]
      refine ⟨Nat.le_refl _, h1, fun j hj hj2 => by omega, ?_⟩
      rcases (by omega : u = W ∨ u < W) with h3 | h3
      · exact .inl h3
      · right
        cases hx : th.getD u false
        · rfl
        · exact absurd ⟨h3, hx⟩ hc

/-- What stays true of the other end. -/
structure XI (take : List UInt8) (t : Nat) (x : EX) : Prop where
  tl : x.th.length = take.length + 1
  pre : ∀ k, k < x.U → x.th.getD k false = true
  top : ∀ k, x.th.getD k false = true → k < x.W ∧ k < t
  blk : ∀ k k', k / 100 = k' / 100 → k < take.length → k' < take.length → x.th.getD k false = x.th.getD k' false
  mx : x.U = x.W ∨ x.th.getD x.U false = false
  uw : x.U ≤ x.W
  wt : x.W ≤ take.length
  fx : x.F = true → x.U = take.length ∧ x.W = take.length
  ut : x.U + (if x.F then 1 else 0) ≤ t
theorem XI.later {take : List UInt8} {t t' : Nat} {x : EX} (h : XI take t x) (ht : t ≤ t') : XI take t' x :=
  ⟨h.tl, h.pre, fun k hk => ⟨(h.top k hk).1, by have := (h.top k hk).2; omega⟩, h.blk, h.mx, h.uw, h.wt, h.fx, Nat.le_trans h.ut ht⟩
theorem XI.al {take : List UInt8} {t : Nat} {x : EX} (h : XI take t x) : alg take.length (x.U + (if x.F then 1 else 0)) := by
  have huw := h.uw
  have hwt := h.wt
  cases hF : x.F
  · simp only [Bool.false_eq_true, if_false, Nat.add_zero]
    rcases (by omega : x.U % 100 = 0 ∨ take.length ≤ x.U ∨ (x.U % 100 ≠ 0 ∧ x.U < take.length)) with h1 | h1 | ⟨h1, h2⟩
    · exact .inl h1
    · exact .inr h1
    · exfalso
      have h3 := h.pre (x.U - 1) (by omega)
      have h4 := h.blk (x.U - 1) x.U (by omega) (by omega) h2
      rw [h3] at h4
      have h5 := (h.top x.U h4.symm).1
      rcases h.mx with h6 | h6
      · omega
      · rw [h6] at h4; cases h4
  · have := (h.fx hF).1
    right
    omega
/-- A write. -/
theorem XI.write {take : List UInt8} {t : Nat} {x : EX} (h : XI take t x) {W' : Nat} (hW : x.W ≤ W') (hW2 : W' ≤ take.length) : XI take t { x with W := W' } := by
  refine ⟨h.tl, h.pre, fun k hk => ⟨by have := (h.top k hk).1; show k < W'; omega, (h.top k hk).2⟩, h.blk, ?_, by show x.U ≤ W'; have := h.uw; omega, hW2, fun hF => by have := h.fx hF; exact ⟨this.1, by show W' = take.length; omega⟩, h.ut⟩
  show x.U = W' ∨ x.th.getD x.U false = false
  rcases h.mx with h1 | h1
  · cases hx : x.th.getD x.U false
    · exact .inr rfl
    · have := (h.top _ hx).1
      omega
  · exact .inr h1

section
variable {iss irs : Int} {take : List UInt8} {cl : Bool} {t n : Nat} {x : EX} {s : Sg}

/-- It grows. -/
structure XG (x y : EX) : Prop where
  W : y.W = x.W
  U : x.U ≤ y.U
  F : x.F = true → y.F = true
  H : x.H ≤ y.H
  most : y.most = x.most
theorem XG.refl (x : EX) : XG x x := ⟨rfl, Nat.le_refl _, fun h => h, Nat.le_refl _, rfl⟩
theorem XG.trans {x y z : EX} (h : XG x y) (k : XG y z) : XG x z := ⟨k.W.trans h.W, Nat.le_trans h.U k.U, fun hx => k.F (h.F hx), Nat.le_trans h.H k.H, k.most.trans h.most⟩

theorem heard_ok (hk : n ≤ 3001) (hH : x.H ≤ n) {k : Nat} (h1 : k ≤ n) (h2 : s.ack = (irs + 1 + (k : Int)) % 4294967296) : (x.heard irs s).H ≤ n ∧ k ≤ (x.heard irs s).H ∧ x.H ≤ (x.heard irs s).H := by
  have ha : ahd ((irs + 1) % 4294967296) s.ack = (k : Int) := by rw [h2]; unfold ahd; omega
  unfold EX.heard
  show max x.H (ahd ((irs + 1) % 4294967296) s.ack).toNat ≤ n ∧ k ≤ max x.H (ahd ((irs + 1) % 4294967296) s.ack).toNat ∧ x.H ≤ max x.H (ahd ((irs + 1) % 4294967296) s.ack).toNat
  rw [ha]
  omega
theorem XI.hear (h : XI take t x) (hs : Hon iss irs take cl x.W x.U t n s) (hc : cl = true → x.W = take.length) (htl : take.length ≤ 3000) (hk : n ≤ 3001) (hH : x.H ≤ n) :
    XI take t (x.hear iss irs s) ∧ XG x (x.hear iss irs s) ∧ (x.hear iss irs s).H ≤ n ∧ (∀ k : Nat, k ≤ 3001 → s.ack = (irs + 1 + (k : Int)) % 4294967296 → k ≤ (x.hear iss irs s).H) ∧
      (∀ v : Nat, v ≤ x.U → v ≤ take.length → s.seq = (iss + 1 + (v : Int)) % 4294967296 → ((v < take.length ∧ s.flags = 24 ∧ s.data = (take.drop v).take 100) ∨ (v = take.length ∧ s.flags = 17 ∧ s.data = [])) → nextv take.length v ≤ (x.hear iss irs s).U + (if (x.hear iss irs s).F then 1 else 0)) := by
  obtain ⟨⟨k, hkn, hack⟩, hb⟩ := hs
  obtain ⟨e1, e2, e3⟩ := heard_ok (x := x) hk hH hkn hack
  have hack2 : ∀ k' : Nat, k' ≤ 3001 → s.ack = (irs + 1 + (k' : Int)) % 4294967296 → k' = k := fun k' h1 h2 => by
    rw [hack] at h2
    exact ((eq_off (irs + 1) (by omega) (by omega)).1 h2).symm
  have hxi : XI take t (x.heard irs s) := ⟨h.tl, h.pre, h.top, h.blk, h.mx, h.uw, h.wt, h.fx, h.ut⟩
  have hxg : XG x (x.heard irs s) := ⟨rfl, Nat.le_refl _, fun hx => hx, e3, rfl⟩
  have hquiet : ∀ y : EX, y = x.heard irs s → s.flags ≠ 24 → s.flags ≠ 17 → XI take t y ∧ XG x y ∧ y.H ≤ n ∧ (∀ k : Nat, k ≤ 3001 → s.ack = (irs + 1 + (k : Int)) % 4294967296 → k ≤ y.H) ∧
      (∀ v : Nat, v ≤ x.U → v ≤ take.length → s.seq = (iss + 1 + (v : Int)) % 4294967296 → ((v < take.length ∧ s.flags = 24 ∧ s.data = (take.drop v).take 100) ∨ (v = take.length ∧ s.flags = 17 ∧ s.data = [])) → nextv take.length v ≤ y.U + (if y.F then 1 else 0)) := by
    rintro y rfl h24 h17
    exact ⟨hxi, hxg, e1, fun k' h1 h2 => by rw [hack2 k' h1 h2]; exact e2, fun v _ _ _ hv => by
      rcases hv with hv | hv
      · exact absurd hv.2.1 h24
      · exact absurd hv.2.1 h17⟩
  have huw := h.uw
  have hwt := h.wt
  -- a segment with data, or the Fin
  have hloud : ∀ a : Nat, s.seq = (iss + 1 + (a : Int)) % 4294967296 → a ≤ take.length → hasF s.flags 2 = false → s.len ≠ 0 → a + s.data.length ≤ x.W → (s.data ≠ [] → a % 100 = 0 ∧ a < take.length ∧ s.data.length = min 100 (take.length - a) ∧ a + s.data.length ≤ t) → (hasF s.flags 1 = true → s.data = [] ∧ take.length + 1 ≤ t ∧ x.W = take.length) →
      XI take t (x.hear iss irs s) ∧ XG x (x.hear iss irs s) ∧ (x.hear iss irs s).H ≤ n ∧ (∀ k : Nat, k ≤ 3001 → s.ack = (irs + 1 + (k : Int)) % 4294967296 → k ≤ (x.hear iss irs s).H) ∧
      (a ≤ x.U → a + s.data.length ≤ (x.hear iss irs s).U ∧ (hasF s.flags 1 = true → a = take.length → (x.hear iss irs s).U = take.length ∧ (x.hear iss irs s).F = true)) := by
    intro a ha hat h2 hlen haw hdat hfin
    have hah : (ahd ((iss + 1) % 4294967296) s.seq).toNat = a := by
      rw [ha]
      have : ahd ((iss + 1) % 4294967296) ((iss + 1 + (a : Int)) % 4294967296) = (a : Int) := by unfold ahd; omega
      rw [this]
      rfl
    have hx : x.hear iss irs s = (x.heard irs s).mark a s := by
      unfold EX.hear
      rw [h2, if_neg (by decide), if_neg hlen, hah]
    rw [hx]
    have hpl := paint_len x.th a s.data.length
    have hpg := paint_get x.th a s.data.length (by rw [h.tl]; omega)
    obtain ⟨p1, p2, p3, p4⟩ := climb_ok (paint x.th a s.data.length) x.W (x.W - x.U) x.U huw (by omega)
    obtain ⟨U', hU⟩ : ∃ U', U' = climb (paint x.th a s.data.length) x.W (x.W - x.U) x.U := ⟨_, rfl⟩
    have hm : (x.heard irs s).mark a s = { x.heard irs s with th := paint x.th a s.data.length, U := U', F := x.F || (hasF s.flags 1 && decide (a + s.data.length = x.W) && decide (U' = x.W)) } := by rw [hU]; rfl
    rw [← hU] at p1 p2 p3 p4
    rw [hm]
    have hnew : ∀ k, (paint x.th a s.data.length).getD k false = true → x.th.getD k false = true ∨ (a ≤ k ∧ k < a + s.data.length) := fun k hk => by
      rw [hpg k] at hk
      rcases Bool.or_eq_true_iff.1 hk with h3 | h3
      · exact .inl h3
      · exact .inr (of_decide_eq_true h3)
    have hat2 : ∀ k, a ≤ k → k < a + s.data.length → k < t := fun k h3 h4 => by
      by_cases hd : s.data = []
      · rw [hd] at h4; simp at h4; omega
      · have := (hdat hd).2.2.2; omega
    have hut : U' + (if (x.F || (hasF s.flags 1 && decide (a + s.data.length = x.W) && decide (U' = x.W))) = true then 1 else 0) ≤ t := by
      have hU1 : U' ≤ t := by
        rcases (by omega : U' = x.U ∨ x.U < U') with h3 | h3
        · have := h.ut; omega
        · have h4 := p3 (U' - 1) (by omega) (by omega)
          rcases hnew _ h4 with h5 | h5
          · have := (h.top _ h5).2; omega
          · have := hat2 _ h5.1 h5.2; omega
      cases hF : x.F
      · cases hf1 : hasF s.flags 1
        · simp; exact hU1
        · have h6 := (hfin hf1).2
          split
          · omega
          · omega
      · have h3 := h.fx hF
        have h4 := h.ut
        rw [hF] at h4
        simp at h4
        simp
        omega
    refine ⟨⟨by rw [hpl]; exact h.tl, fun k hk => ?_, fun k hk => ?_, fun k k' h3 h4 h5 => ?_, p4, p2, hwt, fun hF => ?_, hut⟩, ⟨rfl, p1, fun hF => by show (x.F || _) = true; rw [hF]; rfl, e3, rfl⟩, e1, fun k' h3 h4 => by rw [hack2 k' h3 h4]; exact e2, fun hax => ⟨?_, fun hf1 haT => ?_⟩⟩
    · rcases (by omega : k < x.U ∨ x.U ≤ k) with h3 | h3
      · show (paint x.th a s.data.length).getD k false = true
        rw [hpg k, h.pre k h3]
        rfl
      · exact p3 k h3 hk
    · rcases hnew k hk with h3 | h3
      · exact h.top k h3
      · exact ⟨by show k < x.W; omega, hat2 k h3.1 h3.2⟩
    · show (paint x.th a s.data.length).getD k false = (paint x.th a s.data.length).getD k' false
      rw [hpg k, hpg k', h.blk k k' h3 h4 h5]
      congr 1
      by_cases hd : s.data = []
      · rw [hd]
        rw [decide_eq_false (by rw [List.length_nil]; omega), decide_eq_false (by rw [List.length_nil]; omega)]
      · obtain ⟨d1, d2, d3, -⟩ := hdat hd
        rw [d3]
        by_cases h6 : a ≤ k ∧ k < a + min 100 (take.length - a)
        · rw [decide_eq_true h6, decide_eq_true (by omega)]
        · rw [decide_eq_false h6, decide_eq_false (by omega)]
    · show U' = take.length ∧ x.W = take.length
      rcases Bool.or_eq_true_iff.1 hF with h3 | h3
      · have := h.fx h3
        omega
      · rw [Bool.and_eq_true, Bool.and_eq_true] at h3
        have h4 := (hfin h3.1.1).2.2
        have h5 := of_decide_eq_true h3.2
        omega
    · show a + s.data.length ≤ U'
      rcases (by omega : a + s.data.length ≤ U' ∨ U' < a + s.data.length) with h3 | h3
      · exact h3
      · exfalso
        rcases p4 with h4 | h4
        · omega
        · rw [hpg U', decide_eq_true (by omega), Bool.or_true] at h4
          cases h4
    · show U' = take.length ∧ (x.F || _) = true
      obtain ⟨f1, f2, f3⟩ := hfin hf1
      have hUW : U' = take.length := by omega
      refine ⟨hUW, ?_⟩
      rw [hf1, decide_eq_true (by rw [f1]; simp; omega), decide_eq_true (by omega)]
      simp
  rcases hb with ⟨b1, b2⟩ | ⟨b1, b2, b3⟩ | ⟨b1, j, b2, b3, b4, b5, b6, b7, b8⟩ | ⟨b1, b2, b3, b4, b5, b6⟩
  · have hx : x.hear iss irs s = x.heard irs s := by
      unfold EX.hear
      rw [b1, hasF_16.2.1, if_neg (by decide), if_pos (by unfold Sg.len; rw [b1, b2, hasF_16.1, hasF_16.2.1]; rfl)]
    exact hquiet _ hx (by rw [b1]; decide) (by rw [b1]; decide)
  · have hx : x.hear iss irs s = x.heard irs s := by
      unfold EX.hear
      rw [b1, if_pos (by kernel_rfl)]
    exact hquiet _ hx (by rw [b1]; decide) (by rw [b1]; decide)
  · have hdl : s.data.length = min 100 (take.length - j) := by rw [b5, List.length_take, List.length_drop]
    have h24 : hasF 24 1 = false ∧ hasF 24 2 = false := ⟨by kernel_rfl, by kernel_rfl⟩
    obtain ⟨c1, c2, c3, c4, c5⟩ := hloud j b4 (by omega) (by rw [b1]; exact h24.2) (by unfold Sg.len; rw [b1, h24.1, h24.2]; simp only [Bool.false_eq_true, if_false]; omega) b6 (fun _ => ⟨b3, b2, hdl, b8⟩) (fun hx => by rw [b1, h24.1] at hx; cases hx)
    refine ⟨c1, c2, c3, c4, fun v hv hvt hsq hv2 => ?_⟩
    have hvj : v = j := by
      rw [b4] at hsq
      exact ((eq_off (iss + 1) (by omega) (by omega)).1 hsq).symm
    subst hvj
    have := (c5 hv).1
    unfold nextv
    rw [if_pos b2]
    omega
  · obtain ⟨c1, c2, c3, c4, c5⟩ := hloud take.length b3 (Nat.le_refl _) (by rw [b1]; exact hasF_17.2.1) (by unfold Sg.len; rw [b1, b4, hasF_17.1, hasF_17.2.1]; decide) (by rw [b4, hc b2]; exact Nat.le_refl _) (fun hx => absurd b4 hx) (fun _ => ⟨b4, b6, hc b2⟩)
    refine ⟨c1, c2, c3, c4, fun v hv hvt hsq hv2 => ?_⟩
    have hvj : v = take.length := by
      rw [b3] at hsq
      exact ((eq_off (iss + 1) (by omega) (by omega)).1 hsq).symm
    subst hvj
    obtain ⟨f1, f2⟩ := (c5 hv).2 (by rw [b1]; exact hasF_17.1) rfl
    rw [f1, f2]
    unfold nextv
    rw [if_neg (Nat.lt_irrefl _)]
    simp
end
end Go.Proofs.Ytpmlojgngcllfaa
