/- The contracts of package conn: the small functions. -/
import Derived.Test.YtpmlojgngcllfaaConnSpec
namespace Go.Proofs.Ytpmlojgngcllfaa
open Go.RowKit Go

/-- A connection in memory, with the list of its own blocks. -/
def CnIn (w : World) (B : Nat) (fp : List Nat) (g : Nat) (c : CN) : Prop :=
  ∃ gs gi gd gh gc rv ov, ConnIn w B g gs gi gd gh gc rv ov c ∧ fp = [g, gs, gi, gd, gh, gc] ++ rv.ownBlock.toList ++ ov.ownBlock.toList ∧ c.Ok ∧ B ≤ w.heap.size
def CnTo (w w' : World) (B : Nat) (fp : List Nat) (g : Nat) (c : CN) : Prop :=
  ∃ fp', CnIn w' B fp' g c ∧ Frm fp w w' ∧ ∀ i, i ∈ fp' → i ∈ fp ∨ w.heap.size ≤ i

theorem CnTo.trans {a b d : World} {B g : Nat} {fp : List Nat} {c c' : CN} (h : CnTo a b B fp g c) (k : ∀ fp', CnIn b B fp' g c → CnTo b d B fp' g c') : CnTo a d B fp g c' := by
  obtain ⟨fp1, hin, hf, hx⟩ := h
  obtain ⟨fp2, hin2, hf2, hx2⟩ := k fp1 hin
  refine ⟨fp2, hin2, hf.next hf2 hx, fun i hi => ?_⟩
  rcases hx2 i hi with h1 | h1
  · exact hx i h1
  · exact .inr (Nat.le_trans hf.size h1)
theorem CnIn.to {w : World} {B g : Nat} {fp : List Nat} {c : CN} (h : CnIn w B fp g c) : CnTo w w B fp g c := ⟨fp, h, Frm.refl _ _, fun _ hi => .inl hi⟩

section
variable {w : World} {B g : Nat} {fp : List Nat} {c : CN}
theorem CnIn.c0 (h : CnIn w B fp g c) : w.cell? ⟨g, 0, none⟩ = some (.int .i64 c.frm) := by obtain ⟨_, _, _, _, _, _, _, hin, _⟩ := h; exact hin.blk.cell 0
theorem CnIn.c1 (h : CnIn w B fp g c) : w.cell? ⟨g, 1, none⟩ = some (.int .i64 c.dst) := by obtain ⟨_, _, _, _, _, _, _, hin, _⟩ := h; exact hin.blk.cell 1
theorem CnIn.c2 (h : CnIn w B fp g c) : w.cell? ⟨g, 2, none⟩ = some (.int .i64 c.o.first) := by obtain ⟨_, _, _, _, _, _, _, hin, _⟩ := h; exact hin.blk.cell 2
theorem CnIn.c3 (h : CnIn w B fp g c) : w.cell? ⟨g, 3, none⟩ = some (.int .i64 c.o.least) := by obtain ⟨_, _, _, _, _, _, _, hin, _⟩ := h; exact hin.blk.cell 3
theorem CnIn.c4 (h : CnIn w B fp g c) : w.cell? ⟨g, 4, none⟩ = some (.int .i64 c.o.most) := by obtain ⟨_, _, _, _, _, _, _, hin, _⟩ := h; exact hin.blk.cell 4
theorem CnIn.c5 (h : CnIn w B fp g c) : w.cell? ⟨g, 5, none⟩ = some (.int .i64 c.o.tries) := by obtain ⟨_, _, _, _, _, _, _, hin, _⟩ := h; exact hin.blk.cell 5
theorem CnIn.c6 (h : CnIn w B fp g c) : w.cell? ⟨g, 6, none⟩ = some (.int .i64 c.o.linger) := by obtain ⟨_, _, _, _, _, _, _, hin, _⟩ := h; exact hin.blk.cell 6
theorem CnIn.c7 (h : CnIn w B fp g c) : w.cell? ⟨g, 7, none⟩ = some (.int .i64 c.state) := by obtain ⟨_, _, _, _, _, _, _, hin, _⟩ := h; exact hin.blk.cell 7
theorem CnIn.c8 (h : CnIn w B fp g c) : w.cell? ⟨g, 8, none⟩ = some (.bool c.reset) := by obtain ⟨_, _, _, _, _, _, _, hin, _⟩ := h; exact hin.blk.cell 8
theorem CnIn.c9 (h : CnIn w B fp g c) : w.cell? ⟨g, 9, none⟩ = some (.int .u32 c.iss) := by obtain ⟨_, _, _, _, _, _, _, hin, _⟩ := h; exact hin.blk.cell 9
theorem CnIn.c11 (h : CnIn w B fp g c) : w.cell? ⟨g, 11, none⟩ = some (.int .u32 c.una) := by obtain ⟨_, _, _, _, _, _, _, hin, _⟩ := h; exact hin.blk.cell 11
theorem CnIn.c12 (h : CnIn w B fp g c) : w.cell? ⟨g, 12, none⟩ = some (.int .u32 c.nxt) := by obtain ⟨_, _, _, _, _, _, _, hin, _⟩ := h; exact hin.blk.cell 12
theorem CnIn.c13 (h : CnIn w B fp g c) : w.cell? ⟨g, 13, none⟩ = some (.int .u32 c.top) := by obtain ⟨_, _, _, _, _, _, _, hin, _⟩ := h; exact hin.blk.cell 13
theorem CnIn.c14 (h : CnIn w B fp g c) : w.cell? ⟨g, 14, none⟩ = some (.bool c.closed) := by obtain ⟨_, _, _, _, _, _, _, hin, _⟩ := h; exact hin.blk.cell 14
theorem CnIn.c15 (h : CnIn w B fp g c) : w.cell? ⟨g, 15, none⟩ = some (.bool c.acked) := by obtain ⟨_, _, _, _, _, _, _, hin, _⟩ := h; exact hin.blk.cell 15
theorem CnIn.c17 (h : CnIn w B fp g c) : w.cell? ⟨g, 17, none⟩ = some (.bool c.eof) := by obtain ⟨_, _, _, _, _, _, _, hin, _⟩ := h; exact hin.blk.cell 17
theorem CnIn.c18 (h : CnIn w B fp g c) : w.cell? ⟨g, 18, none⟩ = some (.int .i64 c.window) := by obtain ⟨_, _, _, _, _, _, _, hin, _⟩ := h; exact hin.blk.cell 18
theorem CnIn.c19 (h : CnIn w B fp g c) : w.cell? ⟨g, 19, none⟩ = some (.int .i64 c.mss) := by obtain ⟨_, _, _, _, _, _, _, hin, _⟩ := h; exact hin.blk.cell 19
theorem CnIn.c20 (h : CnIn w B fp g c) : w.cell? ⟨g, 20, none⟩ = some (.int .u32 c.seq) := by obtain ⟨_, _, _, _, _, _, _, hin, _⟩ := h; exact hin.blk.cell 20
theorem CnIn.c21 (h : CnIn w B fp g c) : w.cell? ⟨g, 21, none⟩ = some (.int .u32 c.ack) := by obtain ⟨_, _, _, _, _, _, _, hin, _⟩ := h; exact hin.blk.cell 21
theorem CnIn.c23 (h : CnIn w B fp g c) : w.cell? ⟨g, 23, none⟩ = some (.int .i64 c.left) := by obtain ⟨_, _, _, _, _, _, _, hin, _⟩ := h; exact hin.blk.cell 23
theorem CnIn.c24 (h : CnIn w B fp g c) : w.cell? ⟨g, 24, none⟩ = some (.int .i64 c.tries) := by obtain ⟨_, _, _, _, _, _, _, hin, _⟩ := h; exact hin.blk.cell 24
theorem CnIn.c25 (h : CnIn w B fp g c) : w.cell? ⟨g, 25, none⟩ = some (.bool c.measures) := by obtain ⟨_, _, _, _, _, _, _, hin, _⟩ := h; exact hin.blk.cell 25
theorem CnIn.c26 (h : CnIn w B fp g c) : w.cell? ⟨g, 26, none⟩ = some (.int .u32 c.measureTo) := by obtain ⟨_, _, _, _, _, _, _, hin, _⟩ := h; exact hin.blk.cell 26
theorem CnIn.c27 (h : CnIn w B fp g c) : w.cell? ⟨g, 27, none⟩ = some (.int .i64 c.age) := by obtain ⟨_, _, _, _, _, _, _, hin, _⟩ := h; exact hin.blk.cell 27
theorem CnIn.c28 (h : CnIn w B fp g c) : w.cell? ⟨g, 28, none⟩ = some (.int .i64 c.lingers) := by obtain ⟨_, _, _, _, _, _, _, hin, _⟩ := h; exact hin.blk.cell 28
theorem CnIn.c29 (h : CnIn w B fp g c) : w.cell? ⟨g, 29, none⟩ = some (.int .i64 c.told) := by obtain ⟨_, _, _, _, _, _, _, hin, _⟩ := h; exact hin.blk.cell 29
theorem CnIn.fz (h : CnIn w B fp g c) (i : Nat) : w.frozen? ⟨g, i, none⟩ = false := by obtain ⟨_, _, _, _, _, _, _, hin, _⟩ := h; exact hin.blk.frozen i
theorem CnIn.ok (h : CnIn w B fp g c) : c.Ok := by obtain ⟨_, _, _, _, _, _, _, _, _, ho, _⟩ := h; exact ho
theorem CnIn.size (h : CnIn w B fp g c) : B ≤ w.heap.size := by obtain ⟨_, _, _, _, _, _, _, _, _, _, hB⟩ := h; exact hB
theorem CnIn.lt (h : CnIn w B fp g c) : g < w.heap.size := by obtain ⟨_, _, _, _, _, _, _, hin, _⟩ := h; exact hin.blk.lt
end

theorem cwant_in {B g : Nat} {fp : List Nat} {c : CN} (w : World) (h : CnIn w B fp g c) :
    Calls Try.prog 61 #[.pointer (some ⟨g, 0, none⟩)] w fun e w' => e = .returned (.int .u32 c.want) ∧ w = w' := by
  obtain ⟨gs, gi, gd, gh, gc, rv, ov, hin, -, ho, -⟩ := h
  have d16 : w.cell? ⟨g, 16, none⟩ = some (.pointer (some ⟨gi, 0, none⟩)) := hin.blk.cell 16
  have d17 : w.cell? ⟨g, 17, none⟩ = some (.bool c.eof) := hin.blk.cell 17
  unfold CN.want M32
  rcases he : c.eof with _ | _
  · rw [he] at d17
    go_enter Try.func61, Try.ntmps61
    go_wp2_with (go_at_call 68; refine (rnext_in _ ho.rb hin.rb).mono ?_; rintro e w' ⟨rfl, rfl⟩)
    go_ret
    exact ⟨rfl, rfl⟩
  · rw [he] at d17
    go_enter Try.func61, Try.ntmps61
    go_wp2_with (go_at_call 68; refine (rnext_in _ ho.rb hin.rb).mono ?_; rintro e w' ⟨rfl, rfl⟩)
    go_ret
    exact ⟨rfl, rfl⟩

/-- Only the connection's own cells turn. -/
theorem CnTo.self {w w' : World} {B g : Nat} {fp : List Nat} {c c' : CN} (h : CnIn w B fp g c) (hb : ∀ gs gi gc ov, Blk w g 49 (c.cells gs gi gc ov) → Blk w' g 49 (c'.cells gs gi gc ov)) (hf : Frm [g] w w')
    (e1 : c'.sb = c.sb) (e2 : c'.rb = c.rb) (e3 : c'.clk = c.clk) (e4 : c'.out = c.out) (hok : c.Ok → c'.Ok) : CnTo w w' B fp g c' := by
  obtain ⟨gs, gi, gd, gh, gc, rv, ov, hin, hfp, ho, hB⟩ := h
  have n1 : gs ≠ g := hin.sb.ne_ hin.blk (by decide)
  have n2 : gi ≠ g := hin.rb.blk.ne_ hin.blk (by decide)
  have n3 : gd ≠ g := hin.rb.dat.ne_ hin.blk (by decide)
  have n4 : gh ≠ g := hin.rb.has.ne_ hin.blk (by decide)
  have n5 : gc ≠ g := hin.clk.ne_ hin.blk (by decide)
  have n6 := own_ne hin.rb.own hin.blk (by decide)
  have n7 := own_ne hin.own hin.blk (by decide)
  have hm : ∀ k, k ∈ [g] → k = g := fun k hk => by simpa using hk
  refine ⟨fp, ⟨gs, gi, gd, gh, gc, rv, ov, ⟨hb _ _ _ _ hin.blk, ?_, ?_, ?_, ?_⟩, hfp, hok ho, Nat.le_trans hB hf.size⟩, hf.mono fun i hi => ?_, fun i hi => .inl hi⟩
  · rw [e1]; exact hin.sb.frm hf (by simpa using n1)
  · rw [e2]; exact hin.rb.frm hf (by simpa using n2) (by simpa using n3) (by simpa using n4) (fun k hk hk2 => n6 (by rw [hk, hm k hk2]))
  · rw [e3]; exact hin.clk.frm hf (by simpa using n5)
  · rw [e4]; exact own_frm hin.own hf (fun k hk hk2 => n7 (by rw [hk, hm k hk2]))
  · rw [hm i hi, hfp]
    exact .inl (by simp)

theorem crun_in {B g : Nat} {fp : List Nat} {c : CN} (w : World) (h : CnIn w B fp g c) :
    Calls Try.prog 53 #[.pointer (some ⟨g, 0, none⟩)] w fun e w' => e = .returned (.tuple #[]) ∧ CnTo w w' B fp g c.run := by
  have h0 := h
  obtain ⟨gs, gi, gd, gh, gc, rv, ov, hin, -, ho, -⟩ := h
  have d22 : w.cell? ⟨g, 22, none⟩ = some (.pointer (some ⟨gc, 0, none⟩)) := hin.blk.cell 22
  have d23 : w.cell? ⟨g, 23, none⟩ = some (.int .i64 c.left) := hin.blk.cell 23
  have f23 := hin.blk.frozen 23
  have hm : c.clk.most ≠ 0 := by have := ho.clk.l1; have := ho.clk.l2; have := ho.clk.l3; omega
  go_enter Try.func53, Try.ntmps53
  go_wp2_with (go_at_call 70; refine (wait_blk gc _ _ hm hin.clk).mono ?_; rintro e w' ⟨rfl, rfl⟩)
  go_end0
  exact ⟨rfl, CnTo.self h0 (fun _ _ _ _ hb => hb.set_to 23 _ rfl) ((Frm.refl _ _).setCell (.inl (by simp)) _) rfl rfl rfl rfl CN.Ok.run⟩

theorem cmeasure_in {B g : Nat} {fp : List Nat} {c : CN} (w : World) (h : CnIn w B fp g c) :
    Calls Try.prog 54 #[.pointer (some ⟨g, 0, none⟩)] w fun e w' => e = .returned (.tuple #[]) ∧ CnTo w w' B fp g c.measure := by
  have h0 := h
  obtain ⟨gs, gi, gd, gh, gc, rv, ov, hin, -, ho, -⟩ := h
  have d12 : w.cell? ⟨g, 12, none⟩ = some (.int .u32 c.nxt) := hin.blk.cell 12
  have d25 : w.cell? ⟨g, 25, none⟩ = some (.bool c.measures) := hin.blk.cell 25
  have d26 : w.cell? ⟨g, 26, none⟩ = some (.int .u32 c.measureTo) := hin.blk.cell 26
  have d27 : w.cell? ⟨g, 27, none⟩ = some (.int .i64 c.age) := hin.blk.cell 27
  have f25 := hin.blk.frozen 25
  have f26 := hin.blk.frozen 26
  have f27 := hin.blk.frozen 27
  go_enter Try.func54, Try.ntmps54
  go_wp2
  go_end0
  exact ⟨rfl, CnTo.self h0 (fun _ _ _ _ hb => ((hb.set_ 25 _).set_ 26 _).set_to 27 _ rfl) ((((Frm.refl _ _).setCell (.inl (by simp)) _).setCell (.inl (by simp)) _).setCell (.inl (by simp)) _) rfl rfl rfl rfl CN.Ok.measure⟩

theorem cend_in {B g : Nat} {fp : List Nat} {c : CN} (w : World) (r : Bool) (h : CnIn w B fp g c) :
    Calls Try.prog 32 #[.pointer (some ⟨g, 0, none⟩), .bool r] w fun e w' => e = .returned (.tuple #[]) ∧ CnTo w w' B fp g (c.finish r) := by
  have h0 := h
  obtain ⟨gs, gi, gd, gh, gc, rv, ov, hin, -, ho, -⟩ := h
  have d7 : w.cell? ⟨g, 7, none⟩ = some (.int .i64 c.state) := hin.blk.cell 7
  have d8 : w.cell? ⟨g, 8, none⟩ = some (.bool c.reset) := hin.blk.cell 8
  have d23 : w.cell? ⟨g, 23, none⟩ = some (.int .i64 c.left) := hin.blk.cell 23
  have f7 := hin.blk.frozen 7
  have f8 := hin.blk.frozen 8
  have f23 := hin.blk.frozen 23
  rcases hr : c.reset with _ | _
  · rw [hr] at d8
    go_enter Try.func32, Try.ntmps32
    go_wp2
    go_end0
    refine ⟨rfl, CnTo.self h0 (fun _ _ _ _ hb => ((hb.set_ 7 _).set_ 23 _).set_to 8 _ ?_) ((((Frm.refl _ _).setCell (.inl (by simp)) _).setCell (.inl (by simp)) _).setCell (.inl (by simp)) _) rfl rfl rfl rfl (fun h => h.finish r)⟩
    simp [CN.cells, CN.finish, hr]
  · rw [hr] at d8
    go_enter Try.func32, Try.ntmps32
    go_wp2
    go_end0
    refine ⟨rfl, CnTo.self h0 (fun _ _ _ _ hb => ((hb.set_ 7 _).set_ 23 _).set_to 8 _ ?_) ((((Frm.refl _ _).setCell (.inl (by simp)) _).setCell (.inl (by simp)) _).setCell (.inl (by simp)) _) rfl rfl rfl rfl (fun h => h.finish r)⟩
    simp [CN.cells, CN.finish, hr]

theorem CnIn.drw {w w' : World} {B g : Nat} {fp : List Nat} {c : CN} (h : CnIn w B fp g c) (d : Drw w w') : CnIn w' B fp g c := by
  obtain ⟨m, rfl⟩ := d
  obtain ⟨gs, gi, gd, gh, gc, rv, ov, hin, hfp, ho, hB⟩ := h
  exact ⟨gs, gi, gd, gh, gc, rv, ov, ⟨hin.blk.drewN m, hin.sb.drewN m, hin.rb.drw (Drw.mk _ _), hin.clk.drewN m, own_frm hin.own ((Frm.refl [] _).drewN m) (by simp)⟩, hfp, ho, hB⟩

theorem cfin_in {B g : Nat} {fp : List Nat} {c : CN} (w : World) (h : CnIn w B fp g c) :
    Calls Try.prog 64 #[.pointer (some ⟨g, 0, none⟩)] w fun e w' => e = .returned (.int .u32 c.fin) ∧ w = w' := by
  obtain ⟨gs, gi, gd, gh, gc, rv, ov, hin, -, ho, -⟩ := h
  have d10 : w.cell? ⟨g, 10, none⟩ = some (.pointer (some ⟨gs, 0, none⟩)) := hin.blk.cell 10
  go_enter Try.func64, Try.ntmps64
  go_wp2_with (go_at_call 74; refine (send_blk gs _ _ ho.sb hin.sb).mono ?_; rintro e w' ⟨rfl, rfl⟩)
  go_ret
  exact ⟨rfl, rfl⟩

theorem cwaits_in {B g : Nat} {fp : List Nat} {c : CN} (w : World) (h : CnIn w B fp g c) :
    Calls Try.prog 58 #[.pointer (some ⟨g, 0, none⟩)] w fun e w' => e = .returned (.bool c.waits) ∧ Drw w w' := by
  have h0 := h
  obtain ⟨gs, gi, gd, gh, gc, rv, ov, hin, -, ho, -⟩ := h
  have d10 : w.cell? ⟨g, 10, none⟩ = some (.pointer (some ⟨gs, 0, none⟩)) := hin.blk.cell 10
  have d12 : w.cell? ⟨g, 12, none⟩ = some (.int .u32 c.nxt) := hin.blk.cell 12
  have d14 : w.cell? ⟨g, 14, none⟩ = some (.bool c.closed) := hin.blk.cell 14
  have d15 : w.cell? ⟨g, 15, none⟩ = some (.bool c.acked) := hin.blk.cell 15
  have hget := fun n => sget_blk gs c.sb c.nxt 1 (w.drewN n) ho.sb (hin.sb.drewN n)
  have hfin := fun n => cfin_in (w.drewN n) (h0.drw (Drw.mk w n))
  unfold CN.waits
  generalize c.fin = F at *
  generalize c.sb.get c.nxt 1 = D at *
  have HGET := Lib.hid hget
  have HFIN := Lib.hid hfin
  clear hget hfin hin ho h0
  rcases D with _ | ⟨x, xs⟩
  · rcases hc : c.closed with _ | _
    · rw [hc] at d14
      go_enter Try.func58, Try.ntmps58
      go_wp2_with fail
      go_quiet ((first | (go_at_call 72; exact Drw.quiet (HGET.out _)) | (go_at_call 64; exact quiet_left (HFIN.out _))))
      go_wp2_with fail
      go_ret
      exact ⟨rfl, Drw.mk _ _⟩
    · rw [hc] at d14
      rcases ha : c.acked with _ | _
      · rw [ha] at d15
        by_cases hn : c.nxt = F
        · subst hn
          go_enter Try.func58, Try.ntmps58
          go_wp2_with fail
          go_quiet ((first | (go_at_call 72; exact Drw.quiet (HGET.out _)) | (go_at_call 64; exact quiet_left (HFIN.out _))))
          go_wp2_with fail
          go_ret
          exact ⟨ret_bool (by simp), Drw.mk _ _⟩
        · have hn' : (c.nxt == F) = false := by simpa using hn
          go_enter Try.func58, Try.ntmps58
          go_wp2_with fail
          go_quiet ((first | (go_at_call 72; exact Drw.quiet (HGET.out _)) | (go_at_call 64; exact quiet_left (HFIN.out _))))
          go_wp2_with fail
          go_ret
          exact ⟨ret_bool (by simp [hn]), Drw.mk _ _⟩
      · rw [ha] at d15
        go_enter Try.func58, Try.ntmps58
        go_wp2_with fail
        go_quiet ((first | (go_at_call 72; exact Drw.quiet (HGET.out _)) | (go_at_call 64; exact quiet_left (HFIN.out _))))
        go_wp2_with fail
        go_ret
        exact ⟨rfl, Drw.mk _ _⟩
  · go_enter Try.func58, Try.ntmps58
    go_wp2_with fail
    go_quiet ((first | (go_at_call 72; exact Drw.quiet (HGET.out _)) | (go_at_call 64; exact quiet_left (HFIN.out _))))
    go_wp2_with fail
    go_ret
    exact ⟨rfl, Drw.mk _ _⟩

end Go.Proofs.Ytpmlojgngcllfaa
