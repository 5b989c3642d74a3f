/- The contracts of package conn: a segment is sent. -/
import Derived.Test.YtpmlojgngcllfaaConn
import Derived.Test.YtpmlojgngcllfaaRegion
namespace Go.Proofs.Ytpmlojgngcllfaa
open Go.RowKit Go

theorem info_seg : (Try.prog.info? 42).map (fun i => (i.zero, i.size, i.bytes)) = some (some (.agg #[.int .i64 0, .int .i64 0, .int .u32 0, .int .u32 0, .int .i64 0, .int .i64 0, .int .i64 0, .string ⟨#[]⟩]), 8, 64) := by kernel_rfl

theorem own_own_ne {w : World} {base base' : Nat} {e e' : TypeId} {size size' n n' : Nat} {v v' : Value} {xs xs' : List Value} (h : w.ownsRow base e size v n xs) (h' : w.ownsRow base' e' size' v' n' xs') (hne : e ≠ e') {k : Nat} (hk : v.ownBlock = some k) : v'.ownBlock ≠ some k := by
  rcases h.2 with ⟨rfl, _⟩ | ⟨g', cap, cur, rfl, _, hh, _⟩
  · cases hk
  · have : g' = k := by simpa [Value.ownBlock] using hk
    subst this
    exact own_ne h' (show Blk w g' e cur from hh) (Ne.symm hne)

theorem segs_len (l : List Sg) : (segs l).length = l.length * 8 := by
  induction l with
  | nil => rfl
  | cons a l ih =>
    show (a.cells ++ segs l).length = _
    rw [List.length_append, ih]
    show 8 + l.length * 8 = (l.length + 1) * 8
    omega
theorem segs_snoc (l : List Sg) (s : Sg) : segs (l ++ [s]) = segs l ++ s.cells := by
  unfold segs
  rw [List.flatMap_append]
  simp

theorem CnTo.after {a b d : World} {B g : Nat} {fp fp1 : List Nat} {c : CN} (hf : Frm fp a b) (hx : ∀ i, i ∈ fp1 → i ∈ fp ∨ a.heap.size ≤ i) (k : CnTo b d B fp1 g c) : CnTo a d B fp g c := by
  obtain ⟨fp2, hin2, hf2, hx2⟩ := k
  refine ⟨fp2, hin2, hf.next hf2 hx, fun i hi => ?_⟩
  rcases hx2 i hi with h1 | h1
  · exact hx i h1
  · exact .inr (Nat.le_trans hf.size h1)

/-- What is out has grown by one segment. -/
theorem CnIn.push {w w1 : World} {B g : Nat} {fp : List Nat} {c : CN} {gs gi gd gh gc : Nat} {rv ov : Value} {s : Sg} {A1 : Option Addr} {n c1 : Nat}
    (hin : ConnIn w B g gs gi gd gh gc rv ov c) (hfp : fp = [g, gs, gi, gd, gh, gc] ++ rv.ownBlock.toList ++ ov.ownBlock.toList) (ho : c.Ok) (hB : B ≤ w.heap.size)
    (hf : Frm ov.ownBlock.toList w w1) (hn : n = c.out.length + 1)
    (hown : w1.ownsRow B 42 8 (.slice A1 n c1) n (segs c.out ++ s.cells)) (hblk : (Value.slice A1 n c1).ownBlock = ov.ownBlock ∨ ∃ k, (Value.slice A1 n c1).ownBlock = some k ∧ w.heap.size ≤ k) :
    CnTo w (w1.setCell ⟨g, 30, none⟩ (.slice A1 n c1)) B fp g { c with out := c.out ++ [s] } := by
  subst hn
  have e1 : ¬ g ∈ ov.ownBlock.toList := by simpa using own_ne hin.own hin.blk (by decide)
  have e2 : ¬ gs ∈ ov.ownBlock.toList := by simpa using own_ne hin.own hin.sb (by decide)
  have e3 : ¬ gi ∈ ov.ownBlock.toList := by simpa using own_ne hin.own hin.rb.blk (by decide)
  have e4 : ¬ gd ∈ ov.ownBlock.toList := by simpa using own_ne hin.own hin.rb.dat (by decide)
  have e5 : ¬ gh ∈ ov.ownBlock.toList := by simpa using own_ne hin.own hin.rb.has (by decide)
  have e6 : ¬ gc ∈ ov.ownBlock.toList := by simpa using own_ne hin.own hin.clk (by decide)
  have e7 : ∀ k, rv.ownBlock = some k → ¬ k ∈ ov.ownBlock.toList := fun k hk => by simpa using own_own_ne hin.rb.own hin.own (by decide) hk
  have n1 : gs ≠ g := hin.sb.ne_ hin.blk (by decide)
  have n2 : gi ≠ g := hin.rb.blk.ne_ hin.blk (by decide)
  have n3 : gd ≠ g := hin.rb.dat.ne_ hin.blk (by decide)
  have n4 : gh ≠ g := hin.rb.has.ne_ hin.blk (by decide)
  have n5 : gc ≠ g := hin.clk.ne_ hin.blk (by decide)
  have n6 := own_ne hin.rb.own hin.blk (by decide)
  have hg1 := hin.blk.frm hf e1
  have hs1 := hin.sb.frm hf e2
  have hr1 := hin.rb.frm hf e3 e4 e5 e7
  have hc1 := hin.clk.frm hf e6
  have hm : ∀ k, k ∈ [g] → k = g := fun k hk => by simpa using hk
  have hf2 : Frm [g] w1 (w1.setCell ⟨g, 30, none⟩ (.slice A1 (c.out.length + 1) c1)) := (Frm.refl _ _).setCell (.inl (by simp)) _
  have n7 := own_ne hown hg1 (by decide)
  refine ⟨[g, gs, gi, gd, gh, gc] ++ rv.ownBlock.toList ++ (Value.slice A1 (c.out.length + 1) c1).ownBlock.toList, ⟨gs, gi, gd, gh, gc, rv, .slice A1 (c.out.length + 1) c1, ⟨hg1.set_to 30 _ rfl, ?_, ?_, ?_, ?_⟩, rfl, ?_, ?_⟩, ?_, ?_⟩
  · exact hs1.frm hf2 (by simpa using n1)
  · exact hr1.frm hf2 (by simpa using n2) (by simpa using n3) (by simpa using n4) (fun k hk hk2 => n6 (by rw [hk, hm k hk2]))
  · exact hc1.frm hf2 (by simpa using n5)
  · show World.ownsRow _ B _ 8 _ (c.out ++ [s]).length (segs (c.out ++ [s]))
    rw [segs_snoc, List.length_append]
    exact own_frm hown hf2 (fun k hk hk2 => n7 (by rw [hk, hm k hk2]))
  · exact ⟨ho.sb, ho.rb, ho.clk, ho.opt, ho.win, ho.mss, ho.tr, ho.left, ho.lin⟩
  · exact Nat.le_trans hB (Nat.le_trans hf.size hf2.size)
  · refine (hf.mono (ex' := fp) fun i hi => .inl ?_).next hf2 fun i hi => .inl ?_
    · rw [hfp]
      exact List.mem_append.2 (.inr hi)
    · rw [hm i hi, hfp]
      simp
  · intro i hi
    rcases List.mem_append.1 hi with hi | hi
    · exact .inl (by rw [hfp]; exact List.mem_append.2 (.inl hi))
    · rcases hblk with hb | ⟨k, hb, hk⟩
      · rw [hb] at hi
        exact .inl (by rw [hfp]; exact List.mem_append.2 (.inr hi))
      · rw [hb] at hi
        have : i = k := by simpa using hi
        exact .inr (this ▸ hk)

def CN.tells (c : CN) : CN := { c with told := ((c.rb.win : Nat) : Int) }
set_option linter.unusedSimpArgs false in
set_option maxRecDepth 100000 in
set_option maxHeartbeats 1000000 in
theorem csend_in {B g : Nat} {fp : List Nat} {c : CN} (w : World) (seq fl f2 : Int) (d : List UInt8) (hfl : bits .or .i64 fl 16 = f2) (hn : c.out.length ≤ 1000000) (h : CnIn w B fp g c) :
    Calls Try.prog 47 #[.pointer (some ⟨g, 0, none⟩), .int .u32 seq, .int .i64 fl, .string ⟨d.toArray⟩] w fun e w' => e = .returned (.tuple #[]) ∧ CnTo w w' B fp g (c.say seq f2 0 d) := by
  have h0 := h
  obtain ⟨gs, gi, gd, gh, gc, rv, ov, hin, -, ho, -⟩ := h
  have d16 : w.cell? ⟨g, 16, none⟩ = some (.pointer (some ⟨gi, 0, none⟩)) := hin.blk.cell 16
  have hb := hin.blk
  go_enter Try.func47, Try.ntmps47
  go_upto_region 1 with (go_at_call 38; refine (rwindow_in _ ho.rb hin.rb).mono ?_; rintro e w1 ⟨rfl, hd⟩; have hb1 := hd.blk hb; have d29 := hb1.cell 29; have f29 := hb1.frozen 29)
  have hto1 : CnTo w (w1.setCell ⟨g, 29, none⟩ (.int .i64 ((c.rb.win : Nat) : Int))) B fp g c.tells :=
    CnTo.self h0 (fun gs' gi' gc' ov' hb => (hd.blk hb).set_to 29 _ rfl) ((hd.next (Frm.refl _ _)).setCell (.inl (by simp)) _) rfl rfl rfl rfl (fun h => ⟨h.sb, h.rb, h.clk, h.opt, h.win, h.mss, h.tr, h.left, h.lin⟩)
  refine wp_world (fun wx => CnTo w wx B fp g c.tells) hto1 ?_
  intro wx hto
  clear hto1 d29 f29 hb1 hd hb d16 hin h0 ho
  obtain ⟨fp1, hx, hfx, hix⟩ := hto
  have hxd := hx.drw (Drw.mk wx 1)
  have hx0 := hx
  obtain ⟨gs, gi, gd, gh, gc, rv, ov, hin, hfp, ho, hB⟩ := hx
  have d0 : wx.cell? ⟨g, 0, none⟩ = some (.int .i64 c.frm) := hin.blk.cell 0
  have d1 : wx.cell? ⟨g, 1, none⟩ = some (.int .i64 c.dst) := hin.blk.cell 1
  have d29 : wx.cell? ⟨g, 29, none⟩ = some (.int .i64 ((c.rb.win : Nat) : Int)) := hin.blk.cell 29
  have d30 : wx.cell? ⟨g, 30, none⟩ = some ov := hin.blk.cell 30
  have f30 := hin.blk.frozen 30
  have hlt := hin.blk.lt
  have hown := hin.own
  have hne := own_ne hin.own hin.blk (by decide)
  have HIN := Lib.hid hin
  have HFP := Lib.hid hfp
  have HX := Lib.hid hxd
  clear hin hfp hxd
  refine' wp_region_list _ _ 28 (fun w' => w'.cell? ⟨g, 0, none⟩ = some (.int .i64 c.frm) ∧ w'.cell? ⟨g, 1, none⟩ = some (.int .i64 c.dst) ∧ w'.cell? ⟨g, 29, none⟩ = some (.int .i64 ((c.rb.win : Nat) : Int)) ∧ w'.cell? ⟨g, 30, none⟩ = some ov) ?hl ?ho (by kernel_rfl) ?hsz ?hs ?hback ?hgd ⟨d0, d1, d29, d30⟩ ?_
  case hl => (simp only [List.dropLast_cons_cons, List.dropLast_singleton]; rfl)
  case ho => rfl
  case hsz => rfl
  case hs => kernel_rfl
  case hback => kernel_rfl
  case hgd => kernel_rfl
  intro hS
  refine wpAnyH_take (i := 0) (oi := _) (v := ?_) rfl (by kernel_rfl) (by kernel_rfl) (by kernel_rfl) (fun _ _ _ h => h) (Or.inl ⟨by rfl, ?_⟩) (by assumption) ?_
  rotate_left
  · intro wy hSw; (try dsimp only at hSw); go_simp; try with_reducible rfl
  try simp only [Act.put, List.setIfInBounds_toArray, List.set_cons_zero, List.set_cons_succ]
  refine wpAnyH_take (i := 1) (oi := _) (v := ?_) rfl (by kernel_rfl) (by kernel_rfl) (by kernel_rfl) (fun _ _ _ h => h) (Or.inl ⟨by rfl, ?_⟩) (by assumption) ?_
  rotate_left
  · intro wy hSw; (try dsimp only at hSw); go_simp; try with_reducible rfl
  try simp only [Act.put, List.setIfInBounds_toArray, List.set_cons_zero, List.set_cons_succ]
  refine wpAnyH_take (i := 2) (oi := _) (v := ?_) rfl (by kernel_rfl) (by kernel_rfl) (by kernel_rfl) (fun _ _ _ h => h) (Or.inl ⟨by rfl, ?_⟩) (by assumption) ?_
  rotate_left
  · intro wy hSw; (try dsimp only at hSw); go_simp; try with_reducible rfl
  try simp only [Act.put, List.setIfInBounds_toArray, List.set_cons_zero, List.set_cons_succ]
  refine wpAnyH_take (i := 3) (oi := _) (v := ?_) rfl (by kernel_rfl) (by kernel_rfl) (by kernel_rfl) (fun _ _ _ h => h) (Or.inl ⟨by rfl, ?_⟩) (by assumption) ?_
  rotate_left
  · intro wy hSw; (try dsimp only at hSw); go_simp; try with_reducible rfl
  try simp only [Act.put, List.setIfInBounds_toArray, List.set_cons_zero, List.set_cons_succ]
  refine wpAnyH_take (i := 4) (oi := _) (v := ?_) rfl (by kernel_rfl) (by kernel_rfl) (by kernel_rfl) (fun _ _ _ h => h) (Or.inl ⟨by rfl, ?_⟩) (by assumption) ?_
  rotate_left
  · intro wy hSw; (try dsimp only at hSw); go_simp; try with_reducible rfl
  try simp only [Act.put, List.setIfInBounds_toArray, List.set_cons_zero, List.set_cons_succ]
  refine wpAnyH_take (i := 5) (oi := _) (v := ?_) rfl (by kernel_rfl) (by kernel_rfl) (by kernel_rfl) (fun _ _ _ h => h) (Or.inl ⟨by rfl, ?_⟩) (by assumption) ?_
  rotate_left
  · intro wy hSw; (try dsimp only at hSw); go_simp; try with_reducible rfl
  try simp only [Act.put, List.setIfInBounds_toArray, List.set_cons_zero, List.set_cons_succ]
  refine wpAnyH_take (i := 6) (oi := _) (v := ?_) rfl (by kernel_rfl) (by kernel_rfl) (by kernel_rfl) (fun _ _ _ h => h) (Or.inl ⟨by rfl, ?_⟩) (by assumption) ?_
  rotate_left
  · intro wy hSw; (try dsimp only at hSw); go_simp; try with_reducible rfl
  try simp only [Act.put, List.setIfInBounds_toArray, List.set_cons_zero, List.set_cons_succ]
  refine wpAnyH_take (i := 7) (oi := _) (v := ?_) rfl (by kernel_rfl) (by kernel_rfl) (by kernel_rfl) (fun _ _ _ h => h) (Or.inl ⟨by rfl, ?_⟩) (by assumption) ?_
  rotate_left
  · intro wy hSw; (try dsimp only at hSw); go_simp; try with_reducible rfl
  try simp only [Act.put, List.setIfInBounds_toArray, List.set_cons_zero, List.set_cons_succ]
  refine wpAnyH_take (i := 8) (oi := _) (v := ?_) rfl (by kernel_rfl) (by kernel_rfl) (by kernel_rfl) (fun _ _ _ h => h) (Or.inl ⟨by rfl, ?_⟩) (by assumption) ?_
  rotate_left
  · intro wy hSw; (try dsimp only at hSw); go_simp; try with_reducible rfl
  try simp only [Act.put, List.setIfInBounds_toArray, List.set_cons_zero, List.set_cons_succ]
  refine wpAnyH_take (i := 9) (oi := _) (v := ?_) rfl (by kernel_rfl) (by kernel_rfl) (by kernel_rfl) (fun _ _ _ h => h) (Or.inl ⟨by rfl, ?_⟩) (by assumption) ?_
  rotate_left
  · intro wy hSw; (try dsimp only at hSw); go_simp; try with_reducible rfl
  try simp only [Act.put, List.setIfInBounds_toArray, List.set_cons_zero, List.set_cons_succ]
  refine wpAnyH_take (i := 10) (oi := _) (v := ?_) rfl (by kernel_rfl) (by kernel_rfl) (by kernel_rfl) (fun _ _ _ h => h) (Or.inl ⟨by rfl, ?_⟩) (by assumption) ?_
  rotate_left
  · intro wy hSw; (try dsimp only at hSw); go_simp; try with_reducible rfl
  try simp only [Act.put, List.setIfInBounds_toArray, List.set_cons_zero, List.set_cons_succ]
  refine wpAnyH_take (i := 11) (oi := _) (v := ?_) rfl (by kernel_rfl) (by kernel_rfl) (by kernel_rfl) (fun _ _ _ h => h) (Or.inl ⟨by rfl, ?_⟩) (by assumption) ?_
  rotate_left
  · intro wy hSw; (try dsimp only at hSw); go_simp; try with_reducible rfl
  try simp only [Act.put, List.setIfInBounds_toArray, List.set_cons_zero, List.set_cons_succ]
  refine wpAnyH_take (i := 12) (oi := _) (v := ?_) rfl (by kernel_rfl) (by kernel_rfl) (by kernel_rfl) (fun _ _ _ h => h) (Or.inl ⟨by rfl, ?_⟩) (by assumption) ?_
  rotate_left
  · intro wy hSw; (try dsimp only at hSw); go_simp; try with_reducible rfl
  try simp only [Act.put, List.setIfInBounds_toArray, List.set_cons_zero, List.set_cons_succ]
  refine wpAnyH_take (i := 13) (oi := _) (v := ?_) rfl (by kernel_rfl) (by kernel_rfl) (by kernel_rfl) (fun _ _ _ h => h) (Or.inl ⟨by rfl, ?_⟩) (by assumption) ?_
  rotate_left
  · intro wy hSw; (try dsimp only at hSw); go_simp; try with_reducible rfl
  try simp only [Act.put, List.setIfInBounds_toArray, List.set_cons_zero, List.set_cons_succ]
  refine wpAnyH_take (i := 14) (oi := _) (v := ?_) rfl (by kernel_rfl) (by kernel_rfl) (by kernel_rfl) (fun _ _ _ h => h) (Or.inl ⟨by rfl, ?_⟩) (by assumption) ?_
  rotate_left
  · intro wy hSw; (try dsimp only at hSw); go_simp; try with_reducible rfl
  try simp only [Act.put, List.setIfInBounds_toArray, List.set_cons_zero, List.set_cons_succ]
  refine wpAnyH_take (i := 16) (oi := _) (v := ?_) rfl (by kernel_rfl) (by kernel_rfl) (by kernel_rfl) (fun _ _ _ h => h) (Or.inl ⟨by rfl, ?_⟩) (by assumption) ?_
  rotate_left
  · intro wy hSw; (try dsimp only at hSw); go_simp; try with_reducible rfl
  try simp only [Act.put, List.setIfInBounds_toArray, List.set_cons_zero, List.set_cons_succ]
  refine wpAnyH_take (i := 17) (oi := _) (v := ?_) rfl (by kernel_rfl) (by kernel_rfl) (by kernel_rfl) (fun _ _ _ h => h) (Or.inl ⟨by rfl, ?_⟩) (by assumption) ?_
  rotate_left
  · intro wy hSw; (try dsimp only at hSw); go_simp; try with_reducible rfl
  try simp only [Act.put, List.setIfInBounds_toArray, List.set_cons_zero, List.set_cons_succ]
  refine wpAnyH_take (i := 18) (oi := _) (v := ?_) rfl (by kernel_rfl) (by kernel_rfl) (by kernel_rfl) (fun _ _ _ h => h) (Or.inl ⟨by rfl, ?_⟩) (by assumption) ?_
  rotate_left
  · intro wy hSw; (try dsimp only at hSw); go_simp; try with_reducible rfl
  try simp only [Act.put, List.setIfInBounds_toArray, List.set_cons_zero, List.set_cons_succ]
  refine wpAnyH_take (i := 19) (oi := _) (v := ?_) rfl (by kernel_rfl) (by kernel_rfl) (by kernel_rfl) (fun _ _ _ h => h) (Or.inl ⟨by rfl, ?_⟩) (by assumption) ?_
  rotate_left
  · intro wy hSw; (try dsimp only at hSw); go_simp; try with_reducible rfl
  try simp only [Act.put, List.setIfInBounds_toArray, List.set_cons_zero, List.set_cons_succ]
  refine wpAnyH_take (i := 20) (oi := _) (v := ?_) rfl (by kernel_rfl) (by kernel_rfl) (by kernel_rfl) (fun _ _ _ h => h) (Or.inl ⟨by rfl, ?_⟩) (by assumption) ?_
  rotate_left
  · intro wy hSw; (try dsimp only at hSw); go_simp; try with_reducible rfl
  try simp only [Act.put, List.setIfInBounds_toArray, List.set_cons_zero, List.set_cons_succ]
  refine wpAnyH_take (i := 21) (oi := _) (v := ?_) rfl (by kernel_rfl) (by kernel_rfl) (by kernel_rfl) (fun _ _ _ h => h) (Or.inl ⟨by rfl, ?_⟩) (by assumption) ?_
  rotate_left
  · intro wy hSw; (try dsimp only at hSw); go_simp; try with_reducible rfl
  try simp only [Act.put, List.setIfInBounds_toArray, List.set_cons_zero, List.set_cons_succ]
  refine wpAnyH_take (i := 22) (oi := _) (v := ?_) rfl (by kernel_rfl) (by kernel_rfl) (by kernel_rfl) (fun _ _ _ h => h) (Or.inl ⟨by rfl, ?_⟩) (by assumption) ?_
  rotate_left
  · intro wy hSw; (try dsimp only at hSw); go_simp; try with_reducible rfl
  try simp only [Act.put, List.setIfInBounds_toArray, List.set_cons_zero, List.set_cons_succ]
  refine wpAnyH_ready (rs := [15]) (by kernel_rfl) (by simp) ?_
  refine AllReadyH.cons (o := _) rfl (fun K hK => ?_) AllReadyH.nil
  go_simp
  go_at_call 61
  refine (cwant_in _ HX.out).mono ?_
  rintro e w' ⟨rfl, rfl⟩
  go_simp
  refine hK.out _ _ ⟨d0, d1, d29, d30⟩ (fun hHeld => ?_)
  clear hK K hS
  try simp only [Act.put, List.setIfInBounds_toArray, List.set_cons_zero, List.set_cons_succ]
  refine wpAnyH_take (i := 23) (oi := _) (v := ?_) rfl (by kernel_rfl) (by kernel_rfl) (by kernel_rfl) (fun _ _ _ h => h) (Or.inl ⟨by rfl, ?_⟩) (by assumption) ?_
  rotate_left
  · intro wy hSw; (try dsimp only at hSw); go_simp; try with_reducible rfl
  try simp only [Act.put, List.setIfInBounds_toArray, List.set_cons_zero, List.set_cons_succ]
  refine wpAnyH_ready (rs := [24]) (by kernel_rfl) (by simp) ?_
  refine AllReadyH.cons (o := _) rfl (fun K hK => ?_) AllReadyH.nil
  go_simp
  refine hK.out _ _ ?_ (fun hH2 => ?_)
  · go_keep
  clear hK K
  try simp only [Act.put, List.setIfInBounds_toArray, List.set_cons_zero, List.set_cons_succ]
  refine wpAnyH_ready (rs := [25]) (by kernel_rfl) (by simp) ?_
  refine AllReadyH.cons (o := _) rfl (fun K hK => ?_) AllReadyH.nil
  refine step_append_own2 rfl _ _ 37 (by rfl) B 42 _ 8 64 Try.underlying37 info_seg rfl (by decide) ov c.out.length (segs c.out) (by rfl) ((hown.alloc _).drew)
    ⟨wx.heap.size, 0, none⟩ 1 1 [.int .i64 c.frm, .int .i64 c.dst, .int .u32 seq, .int .u32 c.tells.want, .int .i64 f2, .int .i64 ((c.rb.win : Nat) : Int), .int .i64 0, .string ⟨d.toArray⟩] (by rfl) (by rfl) (World.news_of_block (cs := #[.int .i64 c.frm, .int .i64 c.dst, .int .u32 seq, .int .u32 c.tells.want, .int .i64 f2, .int .i64 ((c.rb.win : Nat) : Int), .int .i64 0, .string ⟨d.toArray⟩]) (t := 42) (fr := (0, 0)) (heap_alloc_new wx _)) (by simp [Value.oneCell'])
    (by unfold maxLen; omega) (by omega) (by simp; omega) ?_
  intro A1 c1 wz hown1 hgrow hblk
  refine hK.out _ _ ?_ (fun hHeld => ?_)
  · refine ⟨?_, ?_, ?_, ?_⟩
    · rw [hgrow.cell_far _ (by simp; omega) (Ne.symm hne)]; exact hH2.1
    · rw [hgrow.cell_far _ (by simp; omega) (Ne.symm hne)]; exact hH2.2.1
    · rw [hgrow.cell_far _ (by simp; omega) (Ne.symm hne)]; exact hH2.2.2.1
    · rw [hgrow.cell_far _ (by simp; omega) (Ne.symm hne)]; exact hH2.2.2.2
  clear hK K
  try simp only [Act.put, List.setIfInBounds_toArray, List.set_cons_zero, List.set_cons_succ]
  refine wpAnyH_take (i := 26) (oi := _) (v := ?_) rfl (by kernel_rfl) (by kernel_rfl) (by kernel_rfl) (fun _ _ _ h => h) (Or.inl ⟨by rfl, ?_⟩) (by assumption) ?_
  rotate_left
  · intro wy hSw; (try dsimp only at hSw); go_simp; try with_reducible rfl
  try simp only [Act.put, List.setIfInBounds_toArray, List.set_cons_zero, List.set_cons_succ]
  refine wpAnyH_take (i := 27) (oi := _) (v := ?_) rfl (by kernel_rfl) (by kernel_rfl) (by kernel_rfl) (fun _ _ _ h => h) (Or.inl ⟨by rfl, ?_⟩) (by assumption) ?_
  rotate_left
  · intro wy hSw; (try dsimp only at hSw); go_simp; try with_reducible rfl
  try simp only [Act.put, List.setIfInBounds_toArray, List.set_cons_zero, List.set_cons_succ]
  refine wpAnyH_done (by kernel_rfl) ?_ _
  change wpList _ _ _ [_] _ _
  have d31 := hHeld.2.2.2
  have f31 : wz.frozen? ⟨g, 30, none⟩ = false := by rw [hgrow.frozen_far _ (by simp; omega) (Ne.symm hne)]; exact ((HIN.out.blk.drewN 1).alloc _).frozen 30
  have HB := Lib.hid hblk
  have HO := Lib.hid hown1
  have HG := Lib.hid hgrow
  clear hblk hown1 hgrow hH2 hHeld hown hne d0 d1 d29 d30 f30
  go_wp2_with fail
  go_end0
  refine ⟨rfl, CnTo.after hfx hix ?_⟩
  exact CnIn.push (c := c.tells) (s := ⟨c.frm, c.dst, seq, c.want, f2, c.rb.win, 0, d⟩) HIN.out HFP.out ho hB (Frm.grown (((Frm.refl _ _).drewN 1).alloc _) HG.out (fun k hk => .inl (by simp [hk]))) rfl HO.out (HB.out.imp id fun h => ⟨_, h, by simp⟩)

end Go.Proofs.Ytpmlojgngcllfaa
