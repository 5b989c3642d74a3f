/- A region that draws its order and whose last operation waits for all others: the others under a condition S, the last one behind them. Plain lemmas, no program. -/
import Derived.Test.YtpmlojgngcllfaaMem
import Derived.StillTail
import Derived.OrdersHeld
namespace Go.Proofs.Ytpmlojgngcllfaa
open Go.RowKit Go

section
variable {P : Program} {ops front : Array Oper} {o : Oper} {Q : Exit → Act → World → Prop} {S : World → Prop} {n : Nat}

/-- Each operation waits for earlier ones alone. -/
def backB (ops : Array Oper) : Bool := (List.range ops.size).all fun i => match ops[i]? with | some o => o.after.toList.all fun e => decide (e.on < i) | none => true
/-- No guard looks beyond. -/
def guardsB (front : Array Oper) : Bool := front.toList.all fun o => match o.guard with | some g => decide (g.1 < front.size) | none => true

def Midst (P : Program) (ops : Array Oper) (o : Oper) (Q : Exit → Act → World → Prop) : Exit → Act → World → Prop
  | .normal, a, w => wpList P ops Q [o] a w
  | e, a, w => Q e a w

theorem midst_wp {x : Oper} {a : Act} {w : World} {K : Act → World → Prop} (h : x.wp P a w K (Midst P ops o Q)) : x.wp P a w K Q := by
  unfold Oper.wp at *
  generalize (execOp a.eval x).run P w = r at *
  cases r with
  | ok n w' =>
    cases n <;> simp only [Oper.upon] at h ⊢ <;>
      first
        | exact h
        | exact Calls.mono h (fun e w'' he => by cases e <;> exact he)
        | exact Rows.mono h (fun _ _ he => he)
  | halt x w' => cases x <;> simp only [Oper.upon] at h ⊢ <;> exact h

theorem yielded_front (hpop : ∀ i, i < n → front[i]? = ops[i]?) {tmps : Array Value} {g : Nat} (hg : g < n) : yielded front tmps g = yielded ops tmps g := by
  unfold yielded
  rw [hpop g hg]

theorem wpOp_front (hsz : front.size = n) (hpop : ∀ i, i < n → front[i]? = ops[i]?) (hgd : guardsB front = true) {i : Nat} (hi : i < n) {a : Act} {w : World} {K : Act → World → Prop} (h : wpOp P front (Midst P ops o Q) i K a w) : wpOp P ops Q i K a w := by
  unfold wpOp at *
  rw [← hpop i hi]
  cases hf : front[i]? with
  | none => rw [hf] at h; exact h
  | some x =>
    rw [hf] at h
    simp only at h ⊢
    have hw : Region.wanted x (yielded front a.tmps) = Region.wanted x (yielded ops a.tmps) := by
      unfold Region.wanted
      cases hg : x.guard with
      | none => rfl
      | some gw =>
        have h1 := List.all_eq_true.1 hgd x (Array.mem_toList_iff.2 (Array.mem_of_getElem? hf))
        rw [hg] at h1
        have h2 : gw.1 < n := by simpa [hsz] using h1
        obtain ⟨g, b⟩ := gw
        simp only
        rw [yielded_front hpop h2]
    rw [hw] at h
    split
    · rename_i hx
      rw [if_pos hx] at h
      rcases h with h | ⟨h1, a1, w1, h2⟩
      · exact .inl (midst_wp h)
      · exact .inr ⟨h1, a1, w1, h2⟩
    · rename_i hx
      rw [if_neg hx] at h
      exact h

/-- The two lists of what has come up. -/
structure Both (n : Nat) (l L : Array Bool) : Prop where
  sl : l.size = n
  sL : L.size = n + 1
  eq : ∀ i, i < n → ∀ d, l.getD i d = L.getD i d
  last : L.getD n true = false

theorem Both.lastf {l L : Array Bool} (h : Both n l L) : L.getD n false = false := getD_both h.last
theorem Both.false_ {l L : Array Bool} (h : Both n l L) (i : Nat) : l.getD i false = L.getD i false := by
  rcases Nat.lt_trichotomy i n with hi | rfl | hi
  · exact h.eq i hi false
  · rw [h.lastf]
    simp [Array.getElem?_eq_none (Nat.le_of_eq h.sl)]
  · have h1 : L.size ≤ i := by rw [h.sL]; omega
    have h2 : l.size ≤ i := by rw [h.sl]; omega
    simp [Array.getElem?_eq_none h1, Array.getElem?_eq_none h2]
theorem Both.set {l L : Array Bool} (h : Both n l L) {i : Nat} (hi : i < n) : Both n (l.setIfInBounds i true) (L.setIfInBounds i true) := by
  refine ⟨by simp [h.sl], by simp [h.sL], fun j hj d => ?_, by rw [getD_set_ne true (by omega)]; exact h.last⟩
  by_cases hij : i = j
  · subst hij
    have h1 : i < l.size := by rw [h.sl]; exact hi
    have h2 : i < L.size := by rw [h.sL]; omega
    simp [h1, h2]
  · rw [getD_set_ne d hij, getD_set_ne d hij]
    exact h.eq j hj d

theorem both_ready (hpop : ∀ i, i < n → front[i]? = ops[i]?) {l L : Array Bool} (h : Both n l L) {i : Nat} (hi : i < n) : i ∈ Region.ready .any front l ↔ i ∈ Region.ready .any ops L := by
  rw [mem_ready, mem_ready, hpop i hi, h.eq i hi true]
  constructor
  · rintro ⟨h0, x, hx, hall⟩
    exact ⟨h0, x, hx, fun e he hb => by rw [← h.false_]; exact hall e he hb⟩
  · rintro ⟨h0, x, hx, hall⟩
    exact ⟨h0, x, hx, fun e he hb => by rw [h.false_]; exact hall e he hb⟩

theorem all_listed (hback : backB ops = true) (hops : ops.size = n + 1) (hpop : ∀ i, i < n → front[i]? = ops[i]?) {l L : Array Bool} (h : Both n l L) (hr : Region.ready .any front l = []) :
    ∀ i, i < n → L.getD i true = true ∧ L.getD i false = true := by
  intro i
  induction i using Nat.strongRecOn with
  | _ i ih =>
    intro hi
    have hlt : i < L.size := by rw [h.sL]; omega
    have hb : L.getD i true = L.getD i false := by simp [hlt]
    cases hc : L.getD i true with
    | true => exact ⟨rfl, by rw [← hb]; exact hc⟩
    | false =>
      exfalso
      obtain ⟨x, hx⟩ : ∃ x, ops[i]? = some x := ⟨ops[i]'(by omega), Array.getElem?_eq_getElem (by omega)⟩
      have hin : i ∈ Region.ready .any ops L := by
        rw [mem_ready]
        refine ⟨hc, x, hx, fun e he _ => ?_⟩
        have h1 := List.all_eq_true.1 hback i (List.mem_range.2 (by omega))
        rw [hx] at h1
        have h2 := List.all_eq_true.1 h1 e (Array.mem_toList_iff.2 he)
        have h3 : e.on < i := by simpa using h2
        exact (ih e.on h3 (by omega)).2
      rw [← both_ready hpop h hi, hr] at hin
      cases hin

theorem wpAny_of_front (hs : Region.sinkB .any ops n = true) (hback : backB ops = true) (hgd : guardsB front = true) (hsz : front.size = n) (hops : ops.size = n + 1) (ho : ops[n]? = some o) (hpop : ∀ i, i < n → front[i]? = ops[i]?) :
    ∀ (f : Nat) (l L : Array Bool) (a : Act) (w : World), Both n l L → HeadInv .any ops n L → wpAny P .any front (Midst P ops o Q) f l a w → wpAny P .any ops Q (f + 1) L a w := by
  have hc : Region.chainB .any ops n = true := List.all_eq_true.2 fun t ht => by
    have := List.mem_range.1 ht
    simp only [Bool.or_eq_true, decide_eq_true_eq]
    exact .inl (by omega)
  intro f
  induction f with
  | zero =>
    intro l L a w hb inv h
    obtain ⟨hr, hq⟩ := h
    have hall := all_listed hback hops hpop hb hr
    have hn : n ∈ Region.ready .any ops L := by
      rw [mem_ready]
      refine ⟨hb.last, o, ho, fun e he _ => ?_⟩
      have h1 := List.all_eq_true.1 hback n (List.mem_range.2 (by omega))
      rw [ho] at h1
      have h3 : e.on < n := by simpa using List.all_eq_true.1 h1 e (Array.mem_toList_iff.2 he)
      exact (hall e.on h3).2
    refine ⟨fun h0 => (by rw [h0] at hn; cases hn), fun i hi => ?_⟩
    obtain ⟨h0, x, hx, _⟩ := mem_ready.1 hi
    have hin : i < ops.size := (Array.getElem?_eq_some_iff.1 hx).1
    have e : i = n := by
      rcases Nat.lt_or_ge i n with h1 | h1
      · rw [(hall i h1).1] at h0; cases h0
      · omega
    subst e
    have hend : Region.ready .any ops (L.setIfInBounds i true) = [] := by
      rw [List.eq_nil_iff_forall_not_mem]
      intro j hj
      obtain ⟨j0, y, hy, _⟩ := mem_ready.1 hj
      have hjn : j < ops.size := (Array.getElem?_eq_some_iff.1 hy).1
      by_cases hij : i = j
      · subst hij
        have : i < L.size := by rw [hb.sL]; omega
        simp [this] at j0
      · rw [getD_set_ne true hij, (hall j (by omega)).1] at j0
        cases j0
    have hq' : wpList P ops Q [o] a w := hq
    unfold wpOp
    rw [ho]
    unfold wpList at hq'
    simp only
    split
    · rename_i hw
      rw [if_pos hw] at hq'
      exact hq'.imp (Oper.wp_mono fun a' w' h' => ⟨hend, h'⟩) id
    · rename_i hw
      rw [if_neg hw] at hq'
      exact ⟨hend, hq'⟩
  | succ f ih =>
    intro l L a w hb inv h
    by_cases hr : Region.ready .any front l = []
    · have hall := all_listed hback hops hpop hb hr
      have hq := h.1 hr
      have hn : n ∈ Region.ready .any ops L := by
        rw [mem_ready]
        refine ⟨hb.last, o, ho, fun e he _ => ?_⟩
        have h1 := List.all_eq_true.1 hback n (List.mem_range.2 (by omega))
        rw [ho] at h1
        have h3 : e.on < n := by simpa using List.all_eq_true.1 h1 e (Array.mem_toList_iff.2 he)
        exact (hall e.on h3).2
      refine ⟨fun h0 => (by rw [h0] at hn; cases hn), fun i hi => ?_⟩
      obtain ⟨h0, x, hx, _⟩ := mem_ready.1 hi
      have hin : i < ops.size := (Array.getElem?_eq_some_iff.1 hx).1
      have e : i = n := by
        rcases Nat.lt_or_ge i n with h1 | h1
        · rw [(hall i h1).1] at h0; cases h0
        · omega
      subst e
      have hend : Region.ready .any ops (L.setIfInBounds i true) = [] := by
        rw [List.eq_nil_iff_forall_not_mem]
        intro j hj
        obtain ⟨j0, y, hy, _⟩ := mem_ready.1 hj
        have hjn : j < ops.size := (Array.getElem?_eq_some_iff.1 hy).1
        by_cases hij : i = j
        · subst hij
          have : i < L.size := by rw [hb.sL]; omega
          simp [this] at j0
        · rw [getD_set_ne true hij, (hall j (by omega)).1] at j0
          cases j0
      have hq' : wpList P ops Q [o] a w := hq
      have hK : ∀ a' w', Q .normal a' w' → wpAny P .any ops Q (f + 1) (L.setIfInBounds i true) a' w' := fun a' w' h' => ⟨fun _ => h', by rw [hend]; simp⟩
      unfold wpOp
      rw [ho]
      unfold wpList at hq'
      simp only
      split
      · rename_i hw
        rw [if_pos hw] at hq'
        exact hq'.imp (Oper.wp_mono fun a' w' h' => hK a' w' h') id
      · rename_i hw
        rw [if_neg hw] at hq'
        exact hK _ _ hq'
    · obtain ⟨i0, hi0⟩ := List.exists_mem_of_ne_nil _ hr
      obtain ⟨u0, x0, hx0, _⟩ := mem_ready.1 hi0
      have hi0n : i0 < n := by rw [← hsz]; exact (Array.getElem?_eq_some_iff.1 hx0).1
      have hun : L.getD i0 true = false := by rw [← hb.eq i0 hi0n]; exact u0
      have hnot := tail_waits hs hc (by omega) inv _ i0 rfl hi0n hun
      refine ⟨fun h0 => ?_, fun i hi => ?_⟩
      · have := (both_ready hpop hb hi0n).1 hi0
        rw [h0] at this
        cases this
      · have hin : i < n := by
          rcases Nat.lt_or_ge i n with h1 | h1
          · exact h1
          · exact absurd hi (hnot i h1)
        have hif := (both_ready hpop hb hin).2 hi
        exact wpOp_mono (fun a' w' h' => ih _ _ a' w' (hb.set hin) (inv.set hi hin) h') (wpOp_front hsz hpop hgd hin (h.2 i hif))

theorem both_start : Both n (Array.replicate n false) (Array.replicate (n + 1) false) :=
  ⟨by simp, by simp, fun i hi d => by simp [hi, Nat.lt_succ_of_lt hi], by simp⟩
theorem head_start (hops : ops.size = n + 1) : HeadInv .any ops n (Array.replicate (n + 1) false) :=
  ⟨by simp [hops], fun j oj _ h => (by rw [getD_replicate_false] at h; cases h), fun t _ ht => by simp [show t < n + 1 by omega]⟩

theorem wp_region_front {id : Nat} {a : Act} {w : World} (front : Array Oper) (o : Oper) (n : Nat) (hops : ops = front.push o) (hm : P.follows .mixedOrders = true) (hsz : front.size = n) (hs : Region.sinkB .any ops n = true) (hback : backB ops = true) (hgd : guardsB front = true)
    (S : World → Prop) (h : wpAnyH P .any front (Midst P ops o Q) S n (Array.replicate n false) a w.drew) : (Code.region id ops true).wp P Q a w := by
  have hsz2 : ops.size = n + 1 := by rw [hops]; simp [hsz]
  have ho : ops[n]? = some o := by rw [hops]; simp [← hsz]
  have hpop : ∀ i, i < n → front[i]? = ops[i]? := fun i hi => by
    rw [hops, Array.getElem?_push_lt (by rw [hsz]; exact hi), Array.getElem?_eq_getElem (by rw [hsz]; exact hi)]
  refine wp_region_any hm ?_
  rw [hsz2]
  exact wpAny_of_front hs hback hgd hsz hsz2 ho hpop n _ _ a _ both_start (head_start hsz2) (wpAny_of_held _ _ _ _ h)
theorem wp_region_list {id : Nat} {a : Act} {w : World} (l : List Oper) (o : Oper) (n : Nat) (S : World → Prop) (hl : ops.toList.dropLast = l) (ho : ops.toList.getLast? = some o) (hm : P.follows .mixedOrders = true) (hsz : l.length = n) (hs : Region.sinkB .any ops n = true) (hback : backB ops = true) (hgd : guardsB l.toArray = true)
    (hS : S w.drew) (h : S w.drew → wpAnyH P .any l.toArray (Midst P ops o Q) S n (Array.replicate n false) a w.drew) : (Code.region id ops true).wp P Q a w := by
  refine wp_region_front l.toArray o n ?_ hm (by simpa using hsz) hs hback hgd S (h hS)
  obtain ⟨x, hx⟩ := List.getLast?_eq_some_iff.1 ho
  rw [← hl, hx]
  apply Array.ext'
  simp [hx]
end

end Go.Proofs.Ytpmlojgngcllfaa
