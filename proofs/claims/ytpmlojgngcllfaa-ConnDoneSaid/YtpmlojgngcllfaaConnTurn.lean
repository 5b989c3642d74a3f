/- The contracts of package conn: turn, opens. -/
import Derived.Test.YtpmlojgngcllfaaConnTell
namespace Go.Proofs.Ytpmlojgngcllfaa
open Go.RowKit Go

/-- What is turned beside it does not touch it. -/
theorem CnIn.frm {w w' : World} {B g : Nat} {fp ex : List Nat} {c : CN} (h : CnIn w B fp g c) (hf : Frm ex w w') (hx : ∀ i, i ∈ fp → ¬ i ∈ ex) : CnIn w' B fp g c := by
  obtain ⟨gs, gi, gd, gh, gc, rv, ov, hin, hfp, ho, hB⟩ := h
  have e : ∀ i, i ∈ [g, gs, gi, gd, gh, gc] ++ rv.ownBlock.toList ++ ov.ownBlock.toList → ¬ i ∈ ex := fun i hi => hx i (hfp ▸ hi)
  refine ⟨gs, gi, gd, gh, gc, rv, ov, ⟨hin.blk.frm hf (e _ (by simp)), hin.sb.frm hf (e _ (by simp)), hin.rb.frm hf (e _ (by simp)) (e _ (by simp)) (e _ (by simp)) (fun k hk => e _ (by simp [hk])), hin.clk.frm hf (e _ (by simp)), own_frm hin.own hf (fun k hk => e _ (by simp [hk]))⟩, hfp, ho, Nat.le_trans hB hf.size⟩
theorem CnIn.fp_lt {w : World} {B g : Nat} {fp : List Nat} {c : CN} (h : CnIn w B fp g c) {i : Nat} (hi : i ∈ fp) : i < w.heap.size := by
  obtain ⟨gs, gi, gd, gh, gc, rv, ov, hin, hfp, ho, hB⟩ := h
  rw [hfp] at hi
  simp only [List.mem_append, List.mem_cons, List.not_mem_nil, or_false, Option.mem_toList] at hi
  rcases hi with ((rfl | rfl | rfl | rfl | rfl | rfl) | hi) | hi
  · exact hin.blk.lt
  · exact hin.sb.lt
  · exact hin.rb.blk.lt
  · exact hin.rb.dat.lt
  · exact hin.rb.has.lt
  · exact hin.clk.lt
  · exact (own_lt hin.rb.own hi).1
  · exact (own_lt hin.own hi).1

theorem CnIn.mem {w : World} {B g : Nat} {fp : List Nat} {c : CN} (h : CnIn w B fp g c) : g ∈ fp := by
  obtain ⟨gs, gi, gd, gh, gc, rv, ov, hin, hfp, ho, hB⟩ := h
  rw [hfp]
  simp

def Sg.box (s : Sg) : Array Value := #[.int .i64 s.frm, .int .i64 s.dst, .int .u32 s.seq, .int .u32 s.ack, .int .i64 s.flags, .int .i64 s.window, .int .i64 s.mss, .string ⟨s.data.toArray⟩]
/-- The connection, and a segment in a box of its own. -/
def Boxed (w wx : World) (B : Nat) (fp : List Nat) (g b : Nat) (c : CN) (s : Sg) : Prop :=
  ∃ fp1, CnIn wx B fp1 g c ∧ Frm fp w wx ∧ (∀ i, i ∈ fp1 → i ∈ fp ∨ w.heap.size ≤ i) ∧ Blk wx b 42 s.box ∧ ¬ b ∈ fp1 ∧ w.heap.size ≤ b
theorem boxed_new {w : World} {B g : Nat} {fp : List Nat} {c : CN} (s : Sg) (h : CnIn w B fp g c) : Boxed w (w.alloc (.cells s.box 42)) B fp g w.heap.size c s :=
  ⟨fp, h.frm (ex := []) ((Frm.refl _ _).alloc _) (by simp), (Frm.refl _ _).alloc _, fun _ h => .inl h, Blk.new _ _ _, fun hm => absurd (h.fp_lt hm) (Nat.lt_irrefl _), Nat.le_refl _⟩
/-- What the connection does leaves the box as it was. -/
theorem boxed_next {w wx wy : World} {B g b : Nat} {fp fp1 : List Nat} {d : CN} {s : Sg} (hfx : Frm fp w wx) (hix : ∀ i, i ∈ fp1 → i ∈ fp ∨ w.heap.size ≤ i) (hb : Blk wx b 42 s.box) (hn : ¬ b ∈ fp1) (hB : w.heap.size ≤ b) (k : CnTo wx wy B fp1 g d) : Boxed w wy B fp g b d s := by
  obtain ⟨fp2, hy, hfy, hiy⟩ := k
  refine ⟨fp2, hy, hfx.next hfy hix, fun i hi => ?_, hb.frm hfy hn, fun hm => ?_, hB⟩
  · rcases hiy i hi with h1 | h1
    · exact hix i h1
    · exact .inr (Nat.le_trans hfx.size h1)
  · rcases hiy b hm with h1 | h1
    · exact hn h1
    · exact absurd hb.lt (by omega)
theorem Boxed.to {w wx : World} {B g b : Nat} {fp : List Nat} {c : CN} {s : Sg} (h : Boxed w wx B fp g b c s) : CnTo w wx B fp g c := by
  obtain ⟨fp1, hx, hf, hi, _⟩ := h
  exact ⟨fp1, hx, hf, hi⟩

theorem CN.Ok.state {c : CN} (h : c.Ok) (b : Int) : CN.Ok { c with state := b } := ⟨h.sb, h.rb, h.clk, h.opt, h.win, h.mss, h.tr, h.left, h.lin⟩
theorem CN.Ok.linger {c : CN} (h : c.Ok) : CN.Ok { c with state := 6, lingers := c.o.linger } :=
  ⟨h.sb, h.rb, h.clk, h.opt, h.win, h.mss, h.tr, h.left, ⟨by have := h.opt.l0; show 0 ≤ c.o.linger; omega, h.opt.l1⟩⟩
theorem CN.Ok.turn {c : CN} (h : c.Ok) (a b : Int) : (c.turn a b).Ok := by
  unfold CN.turn
  split
  · split
    · exact h.finish _
    · split
      · exact h.linger
      · exact h.state _
  · exact h

set_option maxRecDepth 100000 in
theorem cturn_in {B g : Nat} {fp : List Nat} {c : CN} (w : World) (a b : Int) (h : CnIn w B fp g c) :
    Calls Try.prog 40 #[.pointer (some ⟨g, 0, none⟩), .int .i64 a, .int .i64 b] w fun e w' => e = .returned (.tuple #[]) ∧ CnTo w w' B fp g (c.turn a b) := by
  have d7 := h.c7
  by_cases h1 : c.state = a
  · have b1 : (c.state != a) = false := by simpa using h1
    have f7 := h.fz 7
    by_cases h2 : b = 9
    · have ht : c.turn a b = CN.finish { c with state := 9 } false := by unfold CN.turn; rw [if_pos h1, if_pos h2]; rfl
      have hto := CnTo.self (w' := w.setCell ⟨g, 7, none⟩ (.int .i64 9)) (c' := { c with state := 9 }) h (fun _ _ _ _ hb => hb.set_to 7 _ rfl) ((Frm.refl _ _).setCell (.inl (by simp)) _) rfl rfl rfl rfl (fun h => h.state _)
      subst h2
      have HT := Lib.hid ht
      clear h1 ht
      obtain ⟨fp1, hx, hfx, hix⟩ := hto
      go_enter Try.func40, Try.ntmps40
      go_wp2_with fail
      refine (cend_in _ false hx).mono ?_
      rintro e w1 ⟨rfl, hto⟩
      go_wp2_with fail
      go_end0
      refine ⟨rfl, ?_⟩
      rw [HT.out]
      exact CnTo.after hfx hix hto
    · have b9 : (b == 9) = false := by simpa using h2
      by_cases h3 : b = 6
      · have ht : c.turn a b = { c with state := 6, lingers := c.o.linger } := by unfold CN.turn; rw [if_pos h1, if_neg h2, if_pos h3]
        subst h3
        have d6 := h.c6
        have f28 := h.fz 28
        have d28 := h.c28
        have HT := Lib.hid ht
        clear h1 ht h2
        go_enter Try.func40, Try.ntmps40
        go_wp2_with fail
        go_end0
        refine ⟨rfl, ?_⟩
        rw [HT.out]
        exact CnTo.self h (fun _ _ _ _ hb => (hb.set_ 7 _).set_to 28 _ rfl) (((Frm.refl _ _).setCell (.inl (by simp)) _).setCell (.inl (by simp)) _) rfl rfl rfl rfl CN.Ok.linger
      · have b6 : (b == 6) = false := by simpa using h3
        have ht : c.turn a b = { c with state := b } := by unfold CN.turn; rw [if_pos h1, if_neg h2, if_neg h3]
        have HT := Lib.hid ht
        clear h1 ht h2 h3
        go_enter Try.func40, Try.ntmps40
        go_wp2_with fail
        go_end0
        refine ⟨rfl, ?_⟩
        rw [HT.out]
        exact CnTo.self h (fun _ _ _ _ hb => hb.set_to 7 _ rfl) ((Frm.refl _ _).setCell (.inl (by simp)) _) rfl rfl rfl rfl (fun h => h.state _)
  · have b1 : (c.state != a) = true := by simpa using h1
    have ht : c.turn a b = c := by unfold CN.turn; rw [if_neg h1]
    have HT := Lib.hid ht
    clear h1 ht
    go_enter Try.func40, Try.ntmps40
    go_wp2_with fail
    refine bodyPost_ret (results_none rfl _ _ _) rfl ?_
    refine ⟨rfl, ?_⟩
    rw [HT.out]
    exact h.to

end Go.Proofs.Ytpmlojgngcllfaa
