/- The contracts of package conn: tell, hello, longer. -/
import Derived.Test.YtpmlojgngcllfaaConnSend
namespace Go.Proofs.Ytpmlojgngcllfaa
open Go.RowKit Go

theorem CnTo.drw {a b d : World} {B g : Nat} {fp : List Nat} {c : CN} (h : CnTo a b B fp g c) (k : Drw b d) : CnTo a d B fp g c := by
  obtain ⟨fp1, hx, hfx, hix⟩ := h
  exact ⟨fp1, hx.drw k, k.next hfx, hix⟩
/-- Only the clock turns. -/
theorem CnTo.clk {w w' : World} {B g : Nat} {fp : List Nat} {c : CN} {gs gi gd gh gc : Nat} {rv ov : Value} {k : Clk} (h : CnIn w B fp g c) (hin : ConnIn w B g gs gi gd gh gc rv ov c) (hfp : fp = [g, gs, gi, gd, gh, gc] ++ rv.ownBlock.toList ++ ov.ownBlock.toList)
    (hb : Blk w' gc 89 k.cells) (hf : Frm [gc] w w') (hk : k.Ok) : CnTo w w' B fp g { c with clk := k } := by
  have ho : c.Ok := by obtain ⟨_, _, _, _, _, _, _, _, _, ho, _⟩ := h; exact ho
  have hB : B ≤ w.heap.size := by obtain ⟨_, _, _, _, _, _, _, _, _, _, hB⟩ := h; exact hB
  have n1 : g ≠ gc := hin.blk.ne_ hin.clk (by decide)
  have n2 : gs ≠ gc := hin.sb.ne_ hin.clk (by decide)
  have n3 : gi ≠ gc := hin.rb.blk.ne_ hin.clk (by decide)
  have n4 : gd ≠ gc := hin.rb.dat.ne_ hin.clk (by decide)
  have n5 : gh ≠ gc := hin.rb.has.ne_ hin.clk (by decide)
  have n6 := own_ne hin.rb.own hin.clk (by decide)
  have n7 := own_ne hin.own hin.clk (by decide)
  have hm : ∀ x, x ∈ [gc] → x = gc := fun x hx => by simpa using hx
  refine ⟨fp, ⟨gs, gi, gd, gh, gc, rv, ov, ⟨hin.blk.frm hf (by simpa using n1), hin.sb.frm hf (by simpa using n2), hin.rb.frm hf (by simpa using n3) (by simpa using n4) (by simpa using n5) (fun x hx hx2 => n6 (by rw [hx, hm x hx2])), hb, own_frm hin.own hf (fun x hx hx2 => n7 (by rw [hx, hm x hx2]))⟩, hfp, ⟨ho.sb, ho.rb, hk, ho.opt, ho.win, ho.mss, ho.tr, ho.left, ho.lin⟩, Nat.le_trans hB hf.size⟩, hf.mono fun i hi => .inl ?_, fun i hi => .inl hi⟩
  rw [hm i hi, hfp]
  simp

theorem sget_len {b : SB} (h : b.Ok) (seq n : Int) : (b.get seq n).length ≤ 2048 := by
  have h1 := h.l1
  have h2 := h.r2
  unfold SB.get
  split
  · simp
  · rw [List.length_take, List.length_drop]
    omega
theorem or_0 : bits .or .i64 0 16 = 16 := by decide
theorem or_1 : bits .or .i64 1 16 = 17 := by decide
theorem or_2 : bits .or .i64 2 16 = 18 := by decide
theorem or_4 : bits .or .i64 4 16 = 20 := by decide
theorem or_8 : bits .or .i64 8 16 = 24 := by decide

theorem ctell_in {B g : Nat} {fp : List Nat} {c : CN} (w : World) (hn : c.out.length ≤ 1000000) (h : CnIn w B fp g c) :
    Calls Try.prog 39 #[.pointer (some ⟨g, 0, none⟩)] w fun e w' => e = .returned (.tuple #[]) ∧ CnTo w w' B fp g c.tell := by
  have h0 := h
  obtain ⟨gs, gi, gd, gh, gc, rv, ov, hin, -, -, -⟩ := h
  have d12 : w.cell? ⟨g, 12, none⟩ = some (.int .u32 c.nxt) := hin.blk.cell 12
  clear hin
  go_enter Try.func39, Try.ntmps39
  go_wp2_with (go_at_call 47; refine (csend_in _ c.nxt 0 16 [] or_0 hn h0).mono ?_; rintro e w' ⟨rfl, hto⟩)
  go_end0
  exact ⟨rfl, hto⟩

theorem set_take {cur : Array Value} {n i : Nat} {u : Value} : (cur.setIfInBounds i u).toList.take n = (cur.toList.take n).set i u := by
  rw [Array.toList_setIfInBounds, List.take_set]

/-- The last segment out tells its MSS. -/
theorem hello_set {w : World} {B g : Nat} {fp : List Nat} {c : CN} {gs gi gd gh gc : Nat} {rv : Value} {k n cap : Nat}
    (hin : ConnIn w B g gs gi gd gh gc rv (.slice (some ⟨k, 0, none⟩) n cap) (c.say c.iss 18 0 [])) (hfp : fp = [g, gs, gi, gd, gh, gc] ++ rv.ownBlock.toList ++ (Value.slice (some ⟨k, 0, none⟩) n cap).ownBlock.toList) (ho : (c.say c.iss 18 0 []).Ok) (hB : B ≤ w.heap.size) {L : Nat} (hL : c.out.length = L) :
    CnTo w (w.setCell ⟨k, L * 8 + 6, none⟩ (.int .i64 536)) B fp g c.hello := by
  subst hL
  have hf : Frm [k] w (w.setCell ⟨k, c.out.length * 8 + 6, none⟩ (.int .i64 536)) := (Frm.refl _ _).setCell (.inl (by simp)) _
  have hob : (Value.slice (some ⟨k, 0, none⟩) n cap).ownBlock = some k := rfl
  have e1 : g ≠ k := fun h => own_ne hin.own hin.blk (by decide) (by rw [hob, h])
  have e2 : gs ≠ k := fun h => own_ne hin.own hin.sb (by decide) (by rw [hob, h])
  have e3 : gi ≠ k := fun h => own_ne hin.own hin.rb.blk (by decide) (by rw [hob, h])
  have e4 : gd ≠ k := fun h => own_ne hin.own hin.rb.dat (by decide) (by rw [hob, h])
  have e5 : gh ≠ k := fun h => own_ne hin.own hin.rb.has (by decide) (by rw [hob, h])
  have e6 : gc ≠ k := fun h => own_ne hin.own hin.clk (by decide) (by rw [hob, h])
  have e7 : ∀ x, rv.ownBlock = some x → ¬ x ∈ [k] := fun x hx hm => own_own_ne hin.rb.own hin.own (by decide) hx (by rw [hob, show x = k from by simpa using hm])
  have hno : n = c.out.length + 1 := by
    have := hin.own
    have h2 := hin.own.2
    rcases h2 with ⟨h3, _⟩ | ⟨_, _, _, h3, _⟩
    · cases h3
    · injection h3 with _ h4 _
      rw [h4]
      simp [CN.say]
  subst hno
  refine ⟨fp, ⟨gs, gi, gd, gh, gc, rv, .slice (some ⟨k, 0, none⟩) (c.out.length + 1) cap, ⟨hin.blk.frm hf (by simpa using e1), hin.sb.frm hf (by simpa using e2), hin.rb.frm hf (by simpa using e3) (by simpa using e4) (by simpa using e5) e7, hin.clk.frm hf (by simpa using e6), ?_⟩, hfp, ?_, ?_⟩, ?_, fun i hi => .inl hi⟩
  · have hown := hin.own
    have hnl : (c.say c.iss 18 0 []).out.length = c.out.length + 1 := by simp [CN.say]
    have hnl2 : c.hello.out.length = c.out.length + 1 := by simp [CN.hello, CN.say]
    rw [hnl] at hown
    rw [hnl2]
    rcases hown.2 with ⟨h3, h1⟩ | ⟨k', cap', cur, h3, hbk, hh, hc1, hc2, hc3, hc4⟩
    · cases h3
    · injection h3 with h4 _ h5
      injection h4 with h4
      injection h4 with h4
      subst h4 h5
      refine ⟨by rw [segs_len, hnl2], .inr ⟨k, cap, cur.setIfInBounds (c.out.length * 8 + 6) (.int .i64 536), rfl, hbk, (show Blk w k _ cur from hh).set_ _ _, hc1, hc2, by simpa using hc3, ?_⟩⟩
      rw [set_take, hc4]
      show (segs (c.out ++ [_])).set _ _ = segs (c.out ++ [_])
      rw [segs_snoc, segs_snoc, List.set_append_right _ _ (by rw [segs_len]; omega), segs_len, show c.out.length * 8 + 6 - c.out.length * 8 = 6 from by omega]
      rfl
  · exact ⟨ho.sb, ho.rb, ho.clk, ho.opt, ho.win, ho.mss, ho.tr, ho.left, ho.lin⟩
  · exact Nat.le_trans hB hf.size
  · refine hf.mono fun i hi => .inl ?_
    rw [hfp, show i = k from by simpa using hi]
    simp [Value.ownBlock]

set_option maxRecDepth 100000 in
set_option maxHeartbeats 1000000 in
theorem chello_in {B g : Nat} {fp : List Nat} {c : CN} (w : World) (hn : c.out.length ≤ 1000000) (h : CnIn w B fp g c) :
    Calls Try.prog 52 #[.pointer (some ⟨g, 0, none⟩)] w fun e w' => e = .returned (.tuple #[]) ∧ CnTo w w' B fp g c.hello := by
  have h0 := h
  obtain ⟨gs, gi, gd, gh, gc, rv, ov, hin, -, -, -⟩ := h
  have d9 : w.cell? ⟨g, 9, none⟩ = some (.int .u32 c.iss) := hin.blk.cell 9
  clear hin
  go_enter Try.func52, Try.ntmps52
  go_upto_region 1 with (go_at_call 47; refine (csend_in _ c.iss 2 18 [] or_2 hn h0).mono ?_; rintro e w1 ⟨rfl, hto⟩)
  clear d9 h0
  obtain ⟨fp1, hx, hfx, hix⟩ := hto
  obtain ⟨gs, gi, gd, gh, gc, rv, ov, hin, hfp, ho, hB⟩ := hx
  have hown := hin.own
  have hnl : (c.say c.iss 18 0 []).out.length = c.out.length + 1 := by simp [CN.say]
  rw [hnl] at hown
  rcases hown.2 with ⟨rfl, h1⟩ | ⟨k, cap, cur, rfl, hbk, hh, hc1, hc2, hc3, hc4⟩
  · exact absurd h1 (by omega)
  have hkb : Blk w1 k 42 cur := hh
  have hsz : c.out.length * 8 + 6 < cur.size := by omega
  have hold : cur[c.out.length * 8 + 6]? = some (.int .i64 0) := by
    have e : cur[c.out.length * 8 + 6]? = (segs (c.say c.iss 18 0 []).out)[c.out.length * 8 + 6]? := own_cell hc4 (by rw [segs_len, hnl]; omega)
    rw [e]
    show (segs (c.out ++ [_]))[_]? = _
    rw [segs_snoc, List.getElem?_append_right (by rw [segs_len]; omega), segs_len, show c.out.length * 8 + 6 - c.out.length * 8 = 6 from by omega]
    rfl
  have dk : w1.cell? ⟨k, c.out.length * 8 + 6, none⟩ = some (.int .i64 0) := (hkb.cell _).trans hold
  have fk := hkb.frozen (c.out.length * 8 + 6)
  have d30 : w1.cell? ⟨g, 30, none⟩ = some (.slice (some ⟨k, 0, none⟩) (c.out.length + 1) cap) := (hin.blk.cell 30).trans (by rfl)
  have hhs := hello_set hin hfp ho hB rfl
  generalize hL : c.out.length = L at *
  have l0 : (0 : Int) ≤ (L : Int) := by omega
  have l1 : (L : Int) < ((L + 1 : Nat) : Int) := by omega
  have l2 : ((L + 1 : Nat) : Int) ≤ (cap : Int) := by omega
  have HS := Lib.hid hhs
  clear hhs hL hkb hsz hold hin hfp hown hnl hh hc2 hc3 hc4 hbk
  go_region
  go_end0
  exact ⟨rfl, CnTo.after hfx hix (HS.out.drw (Drw.mk _ 1))⟩

theorem clonger_in {B g : Nat} {fp : List Nat} {c : CN} (w : World) (h : CnIn w B fp g c) :
    Calls Try.prog 55 #[.pointer (some ⟨g, 0, none⟩)] w fun e w' => e = .returned (.tuple #[]) ∧ CnTo w w' B fp g c.longer := by
  have h0 := h
  obtain ⟨gs, gi, gd, gh, gc, rv, ov, hin, hfp, ho, hB⟩ := h
  have d22 : w.cell? ⟨g, 22, none⟩ = some (.pointer (some ⟨gc, 0, none⟩)) := hin.blk.cell 22
  go_enter Try.func55, Try.ntmps55
  go_wp2_with fail
  refine (back_blk gc _ _ ho.clk hin.clk).mono ?_
  rintro e w1 ⟨rfl, hb, hf⟩
  have hto := CnTo.clk h0 hin hfp hb hf ho.clk.back
  clear d22 hin hb hf ho hB
  obtain ⟨fp1, hx, hfx, hix⟩ := hto
  go_wp2_with fail
  refine (crun_in _ hx).mono ?_
  rintro e w2 ⟨rfl, hto⟩
  go_wp2_with fail
  go_end0
  exact ⟨rfl, CnTo.after hfx hix hto⟩

end Go.Proofs.Ytpmlojgngcllfaa
