/- The contracts of conn.New. -/
import Derived.Test.YtpmlojgngcllfaaConnUser
import Derived.Test.YtpmlojgngcllfaaConnTick
import Derived.Test.YtpmlojgngcllfaaConnIn
namespace Go.Proofs.Ytpmlojgngcllfaa
open Go.RowKit Go

def Tp.box (o : Tp) : Array Value := #[.int .i64 o.first, .int .i64 o.least, .int .i64 o.most, .int .i64 o.tries, .int .i64 o.linger]
/-- The arguments that New takes. -/
structure NewOk (s : Sg) (o : Tp) : Prop where
  c1 : 1 ≤ o.least
  c2 : o.least ≤ o.first
  c3 : o.first ≤ o.most
  c4 : o.most ≤ 1048576
  op : o.Ok
  fl : bits .and .i64 s.flags 23 = 2

theorem CN.fresh_ok {s : Sg} {o : Tp} (h : NewOk s o) (iss : Int) {m : Int} (m0 : 1 ≤ m) (m1 : m ≤ 536) : (CN.fresh s iss o m).Ok := by
  have i0 : 0 ≤ (iss + 1) % M32 ∧ (iss + 1) % M32 < 4294967296 := by unfold M32; omega
  have i1 : 0 ≤ (s.seq + 1) % M32 ∧ (s.seq + 1) % M32 < 4294967296 := by unfold M32; omega
  exact ⟨SB.new_ok (by decide) (by decide) i0.1 i0.2, RB.start_ok (by decide) (by decide) i1.1 i1.2, Clk.start_ok h.c1 h.c2 h.c3 h.c4, h.op, ⟨Int.le_refl 0, show (0 : Int) ≤ 65535 by decide⟩, ⟨m0, m1⟩, ⟨Int.le_refl 0, show (0 : Int) ≤ 101 by decide⟩, ⟨Int.le_refl 0, show (0 : Int) ≤ 1048576 by decide⟩, ⟨Int.le_refl 0, show (0 : Int) ≤ 1048576 by decide⟩⟩

def CnNew (w : World) (s : Sg) (iss : Int) (o : Tp) (e : Ending) (w' : World) : Prop :=
  ∃ g fp, e = .returned (.tuple #[.pointer (some ⟨g, 0, none⟩), .int .i64 0]) ∧ CnIn w' w.heap.size fp g (CN.start s iss o) ∧ Frm [] w w' ∧ ∀ i, i ∈ fp → w.heap.size ≤ i

set_option maxRecDepth 100000 in
set_option maxHeartbeats 4000000 in
theorem cnew_ok (s : Sg) (iss : Int) (o : Tp) (w : World) (h : NewOk s o) :
    Calls Try.prog 25 #[.agg #[.int .i64 s.frm, .int .i64 s.dst, .int .u32 s.seq, .int .u32 s.ack, .int .i64 s.flags, .int .i64 s.window, .int .i64 s.mss, .string ⟨s.data.toArray⟩], .int .u32 iss, .agg #[.int .i64 o.first, .int .i64 o.least, .int .i64 o.most, .int .i64 o.tries, .int .i64 o.linger]] w (CnNew w s iss o) := by
  have q1 : decide (o.tries < 1) = false := by have := h.op.t0; simp; omega
  have q2 : decide (100 < o.tries) = false := by have := h.op.t1; simp; omega
  have q3 : decide (o.linger < 1) = false := by have := h.op.l0; simp; omega
  have q4 : decide (1048576 < o.linger) = false := by have := h.op.l1; simp; omega
  have q5 := h.fl
  have H := Lib.hid h
  clear h
  go_enter Try.func25, Try.ntmps25
  go_upto_region 1 with fail
  obtain ⟨b1, hb1⟩ : ∃ b1, b1 = w.heap.size := ⟨_, rfl⟩
  obtain ⟨b2, hb2⟩ : ∃ b2, b2 = w.heap.size + 1 := ⟨_, rfl⟩
  refine wp_world (fun wx => Frm [] w wx ∧ Blk wx b1 42 s.box ∧ Blk wx b2 30 o.box) ⟨((Frm.refl _ _).alloc _).alloc _, (Blk.new_at hb1.symm _ _).alloc _, Blk.new_at (by simp [hb2]) _ _⟩ ?_
  rintro wx ⟨hfx, hs, ho⟩
  rw [← hb2, ← hb1]
  have x0 : wx.cell? ⟨b2, 0, none⟩ = some (.int .i64 o.first) := ho.cell 0
  have x1 : wx.cell? ⟨b2, 1, none⟩ = some (.int .i64 o.least) := ho.cell 1
  have x2 : wx.cell? ⟨b2, 2, none⟩ = some (.int .i64 o.most) := ho.cell 2
  have HB1 := Lib.hid hb1
  have HB2 := Lib.hid hb2
  clear hb1 hb2
  go_wp2_with fail
  refine (new_ok o.first o.least o.most _ H.out.c1 H.out.c2 H.out.c3 H.out.c4).mono ?_
  rintro e w1 ⟨rfl, hck, hf1, -⟩
  have hs1 := hs.frm hf1 (by simp)
  have ho1 := ho.frm hf1 (by simp)
  have hfa := hfx.next0 hf1
  obtain ⟨gc, hgc⟩ : ∃ gc, gc = wx.heap.size := ⟨_, rfl⟩
  rw [← hgc] at hck
  rw [← hgc]
  have hgl : w.heap.size ≤ gc := by rw [hgc]; exact hfx.size
  clear x0 x1 x2 hs ho hfx hf1 hgc
  have y3 : w1.cell? ⟨b2, 3, none⟩ = some (.int .i64 o.tries) := ho1.cell 3
  have y4 : w1.cell? ⟨b2, 4, none⟩ = some (.int .i64 o.linger) := ho1.cell 4
  have z4 : w1.cell? ⟨b1, 4, none⟩ = some (.int .i64 s.flags) := hs1.cell 4
  have z2 : w1.cell? ⟨b1, 2, none⟩ = some (.int .u32 s.seq) := hs1.cell 2
  go_wp2_with fail
  refine (rnew_ok _ 2048 _ (by decide) (by decide)).mono ?_
  rintro e w2 ⟨gi, gd, gh, rfl, hli, hld, hlh, hrb, hf2⟩
  have hs2 := hs1.frm hf2 (by simp)
  have ho2 := ho1.frm hf2 (by simp)
  have hck2 := hck.frm hf2 (by simp)
  have hfb := hfa.next0 hf2
  have hli' := Nat.le_trans hfa.size hli
  have hld' := Nat.le_trans hfa.size hld
  have hlh' := Nat.le_trans hfa.size hlh
  have hrb2 : RbIn w2 w.heap.size gi gd gh (.slice none 0 0) (RB.start 2048 ((s.seq + 1) % M32)) := ⟨hrb.blk, hrb.dat, hrb.has, ⟨rfl, .inl ⟨rfl, rfl⟩⟩, by simp [Value.ownBlock]⟩
  clear y3 y4 z4 z2 hs1 ho1 hck hf2 hfa hrb hli hld hlh
  go_wp2_with fail
  refine (snew_ok _ 2048 _ (by decide) (by decide)).mono ?_
  rintro e w3 ⟨rfl, hsb, hf3⟩
  have hs3 := hs2.frm hf3 (by simp)
  have ho3 := ho2.frm hf3 (by simp)
  have hck3 := hck2.frm hf3 (by simp)
  have hrb3 := hrb2.frm hf3 (by simp) (by simp) (by simp) (by simp)
  have hfc := hfb.next0 hf3
  obtain ⟨gs, hgs⟩ : ∃ gs, gs = w2.heap.size := ⟨_, rfl⟩
  rw [← hgs] at hsb
  rw [← hgs]
  have hsl : w.heap.size ≤ gs := by rw [hgs]; exact hfb.size
  clear hs2 ho2 hck2 hrb2 hf3 hfb hgs
  have y0 : w3.cell? ⟨b2, 0, none⟩ = some (.int .i64 o.first) := ho3.cell 0
  have y1 : w3.cell? ⟨b2, 1, none⟩ = some (.int .i64 o.least) := ho3.cell 1
  have y2 : w3.cell? ⟨b2, 2, none⟩ = some (.int .i64 o.most) := ho3.cell 2
  have y3 : w3.cell? ⟨b2, 3, none⟩ = some (.int .i64 o.tries) := ho3.cell 3
  have y4 : w3.cell? ⟨b2, 4, none⟩ = some (.int .i64 o.linger) := ho3.cell 4
  have z0 : w3.cell? ⟨b1, 0, none⟩ = some (.int .i64 s.frm) := hs3.cell 0
  have z1 : w3.cell? ⟨b1, 1, none⟩ = some (.int .i64 s.dst) := hs3.cell 1
  go_upto_region 11 with fail
  obtain ⟨g, hg⟩ : ∃ g, g = w3.heap.size := ⟨_, rfl⟩
  have hgl2 : w.heap.size ≤ g := by rw [hg]; exact hfc.size
  have hb1l : w.heap.size ≤ b1 := Nat.le_of_eq HB1.out.symm
  have n1 : g ≠ b1 := fun e => by have := hs3.lt; omega
  have n2 : gs ≠ b1 := hsb.ne_ hs3 (by decide)
  have n3 : gi ≠ b1 := hrb3.blk.ne_ hs3 (by decide)
  have n4 : gd ≠ b1 := hrb3.dat.ne_ hs3 (by decide)
  have n5 : gh ≠ b1 := hrb3.has.ne_ hs3 (by decide)
  have n6 : gc ≠ b1 := hck3.ne_ hs3 (by decide)
  refine wp_world (fun wx => CnIn wx w.heap.size [g, gs, gi, gd, gh, gc] g (CN.fresh s iss o 536) ∧ Frm [] w wx ∧ Blk wx b1 42 s.box) ⟨⟨gs, gi, gd, gh, gc, .slice none 0 0, .slice none 0 0, ⟨Blk.new_at hg.symm _ _, hsb.alloc _, hrb3.frm (ex := []) ((Frm.refl _ _).alloc _) (by simp) (by simp) (by simp) (by simp), hck3.alloc _, ⟨rfl, .inl ⟨rfl, rfl⟩⟩⟩, rfl, CN.fresh_ok H.out iss (by decide) (by decide), Nat.le_trans hfc.size ((Frm.refl [] w3).alloc _).size⟩, hfc.alloc _, hs3.alloc _⟩ ?_
  have hmem : ∀ i, i ∈ [g, gs, gi, gd, gh, gc] → w.heap.size ≤ i := fun i hi => by
    simp only [List.mem_cons, List.not_mem_nil, or_false] at hi
    rcases hi with rfl | rfl | rfl | rfl | rfl | rfl <;> assumption
  have hnb : ¬ b1 ∈ [g, gs, gi, gd, gh, gc] := by
    simp only [List.mem_cons, List.not_mem_nil, or_false]
    rintro (e | e | e | e | e | e)
    · exact n1 e.symm
    · exact n2 e.symm
    · exact n3 e.symm
    · exact n4 e.symm
    · exact n5 e.symm
    · exact n6 e.symm
  rw [← hg]
  clear hsb hrb3 hck3 hs3 ho3 hfc y0 y1 y2 y3 y4 z0 z1 n1 n2 n3 n4 n5 n6 hg q1 q2 q3 q4 q5 hgl hgl2 hsl hli' hld' hlh'
  generalize [g, gs, gi, gd, gh, gc] = fp at *
  rintro wx ⟨hx, hfx, hs⟩
  have z6 : wx.cell? ⟨b1, 6, none⟩ = some (.int .i64 s.mss) := hs.cell 6
  have d19 := hx.c19
  have f19 := hx.fz 19
  obtain ⟨m, hm⟩ : ∃ m, m = if 0 < s.mss then min s.mss 536 else 536 := ⟨_, rfl⟩
  have hm01 : 1 ≤ m ∧ m ≤ 536 := by rw [hm]; split <;> omega
  have hst : CN.start s iss o = (CN.fresh s iss o m).hello.run.measure := by unfold CN.start; rw [hm]
  have hsf : ∀ wy, Frm [g] wx wy → (∀ gs gi gc ov, Blk wx g 49 ((CN.fresh s iss o 536).cells gs gi gc ov) → Blk wy g 49 ((CN.fresh s iss o m).cells gs gi gc ov)) → CnTo wx wy w.heap.size fp g (CN.fresh s iss o m) := fun wy hf hb =>
    CnTo.self hx hb hf rfl rfl rfl rfl (fun _ => CN.fresh_ok H.out iss hm01.1 hm01.2)
  have HSF := Lib.hid hsf
  have HST := Lib.hid hst
  have HMEM := Lib.hid hmem
  have HFX := Lib.hid hfx
  clear hs hsf hst hmem hnb hfx hm01
  go_upto_if 88 with fail
  go_cut [] (fun wy => CnTo wx wy w.heap.size fp g (CN.fresh s iss o m))
  case first =>
    rcases Int.lt_or_le 0 s.mss with hp | hp
    · have q6 : decide (0 < s.mss) = true := by simpa using hp
      rcases Int.lt_or_le 536 s.mss with h5 | h5
      · have hm2 : m = 536 := by rw [hm, if_pos hp]; omega
        have HM2 := Lib.hid hm2
        clear hm hm2
        go_wp2_with fail
        go_meet
        exact HSF.out _ ((Frm.refl _ _).setCell (.inl (by simp)) _) (fun _ _ _ _ hb => hb.set_to 19 _ (by rw [HM2.out]; rfl))
      · have hm2 : m = s.mss := by rw [hm, if_pos hp]; omega
        have HM2 := Lib.hid hm2
        clear hm hm2
        go_wp2_with fail
        go_meet
        exact HSF.out _ ((Frm.refl _ _).setCell (.inl (by simp)) _) (fun _ _ _ _ hb => hb.set_to 19 _ (by rw [HM2.out]; rfl))
    · have q6 : decide (0 < s.mss) = false := by simpa using hp
      have hm2 : m = 536 := by rw [hm, if_neg (by omega)]
      have HM2 := Lib.hid hm2
      clear hm hm2
      go_wp2_with fail
      go_meet
      exact HSF.out _ (Frm.refl _ _) (fun _ _ _ _ hb => by rw [HM2.out]; exact hb)
  case rest =>
    obtain ⟨fp1, hy, hfy, hiy⟩ := hcut
    have HFY := Lib.hid hfy
    have HIY := Lib.hid hiy
    clear z6 d19 f19 hx HSF hm hfy hiy
    go_wp2_with fail
    refine (chello_in _ (Nat.zero_le _) hy).mono ?_
    rintro e w4 ⟨rfl, fp2, hz, hfz, hiz⟩
    go_wp2_with fail
    refine (crun_in _ hz).mono ?_
    rintro e w5 ⟨rfl, fp3, hu, hfu, hiu⟩
    go_wp2_with fail
    refine (cmeasure_in _ hu).mono ?_
    rintro e w6 ⟨rfl, hto⟩
    obtain ⟨fp4, hv, hfv, hiv⟩ := CnTo.after HFY.out HIY.out (CnTo.after hfz hiz (CnTo.after hfu hiu hto))
    go_wp2_with fail
    go_ret2
    refine ⟨g, fp4, rfl, by rw [HST.out]; exact hv, HFX.out.next hfv (fun i hi => .inr (HMEM.out i hi)), fun i hi => ?_⟩
    rcases hiv i hi with h1 | h1
    · exact HMEM.out i h1
    · exact Nat.le_trans HFX.out.size h1

/-- Arguments that New does not take. -/
theorem cnew_bad1 (s : Sg) (iss : Int) (o : Tp) (w : World) (h : o.least < 1 ∨ o.first < o.least ∨ o.most < o.first ∨ 1048576 < o.most) :
    Calls Try.prog 25 #[.agg #[.int .i64 s.frm, .int .i64 s.dst, .int .u32 s.seq, .int .u32 s.ack, .int .i64 s.flags, .int .i64 s.window, .int .i64 s.mss, .string ⟨s.data.toArray⟩], .int .u32 iss, .agg #[.int .i64 o.first, .int .i64 o.least, .int .i64 o.most, .int .i64 o.tries, .int .i64 o.linger]] w
      fun e w' => e = .returned (.tuple #[.pointer none, .int .i64 1]) ∧ Frm [] w w' := by
  go_enter Try.func25, Try.ntmps25
  go_wp2_with fail
  refine (new_bad o.first o.least o.most _ h).mono ?_
  rintro e w1 ⟨rfl, rfl⟩
  clear h
  go_wp2_with fail
  go_ret2
  exact ⟨rfl, ((Frm.refl _ _).alloc _).alloc _⟩

set_option maxRecDepth 100000 in
set_option maxHeartbeats 2000000 in
theorem cnew_bad2 (s : Sg) (iss : Int) (o : Tp) (w : World) (c1 : 1 ≤ o.least) (c2 : o.least ≤ o.first) (c3 : o.first ≤ o.most) (c4 : o.most ≤ 1048576) (h : o.tries < 1 ∨ (1 ≤ o.tries ∧ o.tries ≤ 100 ∧ 1 ≤ o.linger ∧ o.linger ≤ 1048576 ∧ bits .and .i64 s.flags 23 ≠ 2)) :
    Calls Try.prog 25 #[.agg #[.int .i64 s.frm, .int .i64 s.dst, .int .u32 s.seq, .int .u32 s.ack, .int .i64 s.flags, .int .i64 s.window, .int .i64 s.mss, .string ⟨s.data.toArray⟩], .int .u32 iss, .agg #[.int .i64 o.first, .int .i64 o.least, .int .i64 o.most, .int .i64 o.tries, .int .i64 o.linger]] w
      fun e w' => e = .returned (.tuple #[.pointer none, .int .i64 1]) ∧ Frm [] w w' := by
  rcases h with h | ⟨t0, t1, l0, l1, hf⟩
  · have q1 : decide (o.tries < 1) = true := by simpa using h
    clear h
    go_enter Try.func25, Try.ntmps25
    go_upto_region 1 with fail
    obtain ⟨b1, hb1⟩ : ∃ b1, b1 = w.heap.size := ⟨_, rfl⟩
    obtain ⟨b2, hb2⟩ : ∃ b2, b2 = w.heap.size + 1 := ⟨_, rfl⟩
    refine wp_world (fun wx => Frm [] w wx ∧ Blk wx b1 42 s.box ∧ Blk wx b2 30 o.box) ⟨((Frm.refl _ _).alloc _).alloc _, (Blk.new_at hb1.symm _ _).alloc _, Blk.new_at (by simp [hb2]) _ _⟩ ?_
    rintro wx ⟨hfx, hs, ho⟩
    rw [← hb2, ← hb1]
    have x0 : wx.cell? ⟨b2, 0, none⟩ = some (.int .i64 o.first) := ho.cell 0
    have x1 : wx.cell? ⟨b2, 1, none⟩ = some (.int .i64 o.least) := ho.cell 1
    have x2 : wx.cell? ⟨b2, 2, none⟩ = some (.int .i64 o.most) := ho.cell 2
    clear hb1 hb2
    go_wp2_with fail
    refine (new_ok o.first o.least o.most _ c1 c2 c3 c4).mono ?_
    rintro e w1 ⟨rfl, hck, hf1, -⟩
    have ho1 := ho.frm hf1 (by simp)
    have y3 : w1.cell? ⟨b2, 3, none⟩ = some (.int .i64 o.tries) := ho1.cell 3
    go_wp2_with fail
    go_ret2
    exact ⟨rfl, hfx.next0 hf1⟩
  · have q1 : decide (o.tries < 1) = false := by simp; omega
    have q2 : decide (100 < o.tries) = false := by simp; omega
    have q3 : decide (o.linger < 1) = false := by simp; omega
    have q4 : decide (1048576 < o.linger) = false := by simp; omega
    have q5 : (bits .and .i64 s.flags 23 != 2) = true := by simpa using hf
    clear hf
    go_enter Try.func25, Try.ntmps25
    go_upto_region 1 with fail
    obtain ⟨b1, hb1⟩ : ∃ b1, b1 = w.heap.size := ⟨_, rfl⟩
    obtain ⟨b2, hb2⟩ : ∃ b2, b2 = w.heap.size + 1 := ⟨_, rfl⟩
    refine wp_world (fun wx => Frm [] w wx ∧ Blk wx b1 42 s.box ∧ Blk wx b2 30 o.box) ⟨((Frm.refl _ _).alloc _).alloc _, (Blk.new_at hb1.symm _ _).alloc _, Blk.new_at (by simp [hb2]) _ _⟩ ?_
    rintro wx ⟨hfx, hs, ho⟩
    rw [← hb2, ← hb1]
    have x0 : wx.cell? ⟨b2, 0, none⟩ = some (.int .i64 o.first) := ho.cell 0
    have x1 : wx.cell? ⟨b2, 1, none⟩ = some (.int .i64 o.least) := ho.cell 1
    have x2 : wx.cell? ⟨b2, 2, none⟩ = some (.int .i64 o.most) := ho.cell 2
    clear hb1 hb2
    go_wp2_with fail
    refine (new_ok o.first o.least o.most _ c1 c2 c3 c4).mono ?_
    rintro e w1 ⟨rfl, hck, hf1, -⟩
    have ho1 := ho.frm hf1 (by simp)
    have hs1 := hs.frm hf1 (by simp)
    have y3 : w1.cell? ⟨b2, 3, none⟩ = some (.int .i64 o.tries) := ho1.cell 3
    have y4 : w1.cell? ⟨b2, 4, none⟩ = some (.int .i64 o.linger) := ho1.cell 4
    have z4 : w1.cell? ⟨b1, 4, none⟩ = some (.int .i64 s.flags) := hs1.cell 4
    go_wp2_with fail
    go_ret2
    exact ⟨rfl, hfx.next0 hf1⟩

end Go.Proofs.Ytpmlojgngcllfaa
