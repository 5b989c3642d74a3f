/- ConnDone: the connection and the other end beside each other in memory; a segment is heard. -/
import Derived.Test.YtpmlojgngcllfaaConnDoneYA
import Derived.Test.YtpmlojgngcllfaaConnDoneYB
import Derived.Test.YtpmlojgngcllfaaConnDoneL
import Derived.Test.YtpmlojgngcllfaaConnAwake
namespace Go.Proofs.Ytpmlojgngcllfaa
open Go.RowKit Go

structure Two (iss irs : Int) (give take : List UInt8) (wa wr : World) (fp : List Nat) (g gx gt : Nat) (c : CN) (x : EX) : Prop where
  live : Live wa wr fp g c
  xin : XIn iss irs give take wr gx gt x
  nx : ¬ gx ∈ fp
  nt : ¬ gt ∈ fp
  lx : wa.heap.size ≤ gx
  lt : wa.heap.size ≤ gt
section
variable {iss irs : Int} {give take : List UInt8} {wa a b : World} {fp : List Nat} {g gx gt : Nat} {c d : CN} {x y : EX}
theorem Two.next (h : Two iss irs give take wa a fp g gx gt c x) (k : CnTo a b wa.heap.size fp g d) : ∃ fp', Two iss irs give take wa b fp' g gx gt d x ∧ Live.Step a b fp fp' := by
  obtain ⟨fp', hl, hs⟩ := h.live.next k
  refine ⟨fp', ⟨hl, h.xin.frm hs.1 h.nx h.nt, fun hm => ?_, fun hm => ?_, h.lx, h.lt⟩, hs⟩
  · rcases hs.2 _ hm with h1 | h1
    · exact h.nx h1
    · have := h.xin.blk.lt
      omega
  · rcases hs.2 _ hm with h1 | h1
    · exact h.nt h1
    · have := h.xin.th.lt
      omega
theorem Two.out {e : Ending} (h : Two iss irs give take wa a fp g gx gt c x) (k : OutPost a wa.heap.size fp g c e b) : ∃ v fp', e = .returned v ∧ Two iss irs give take wa b fp' g gx gt c.drain x ∧ Row wa.heap.size b fp' v c.out := by
  obtain ⟨v, fp', he, hl, hs, hr⟩ := h.live.out k
  refine ⟨v, fp', he, ⟨hl, h.xin.frm hs.1 h.nx h.nt, fun hm => ?_, fun hm => ?_, h.lx, h.lt⟩, hr⟩
  · rcases hs.2 _ hm with h1 | h1
    · exact h.nx h1
    · have := h.xin.blk.lt
      omega
  · rcases hs.2 _ hm with h1 | h1
    · exact h.nt h1
    · have := h.xin.th.lt
      omega
theorem Two.frm0 (h : Two iss irs give take wa a fp g gx gt c x) (hf : Frm [] a b) : Two iss irs give take wa b fp g gx gt c x :=
  ⟨h.live.frm0 hf, h.xin.frm hf (by simp) (by simp), h.nx, h.nt, h.lx, h.lt⟩
theorem Two.ends (h : Two iss irs give take wa a fp g gx gt c x) (hf : Frm [gx, gt] a b) (hx : XIn iss irs give take b gx gt y) : Two iss irs give take wa b fp g gx gt c y := by
  refine ⟨⟨h.live.inn.frm hf fun i hi hm => ?_, h.live.frm.next hf fun i hi => .inr ?_, h.live.new⟩, hx, h.nx, h.nt, h.lx, h.lt⟩
  · simp at hm
    rcases hm with rfl | rfl
    · exact h.nx hi
    · exact h.nt hi
  · simp at hi
    rcases hi with rfl | rfl
    · exact h.lx
    · exact h.lt
theorem Row.ends {B : Nat} {v : Value} {l : List Sg} (h : Row B a fp v l) (hx : XIn iss irs give take a gx gt x) (hf : Frm [gx, gt] a b) : Row B b fp v l := by
  refine ⟨own_frm h.1 hf fun k hk hm => ?_, h.2⟩
  simp at hm
  rcases hm with rfl | rfl
  · exact own_ne h.1 hx.blk (by decide) hk
  · exact own_ne h.1 hx.th (by decide) hk
/-- One segment of a row. -/
def SegIn (w : World) (b j : Nat) (s : Sg) : Prop := ∀ i u, i < 8 → s.cells[i]? = some u → w.cell? ⟨b, j * 8 + i, none⟩ = some u
theorem Row.at {B : Nat} {v : Value} {l : List Sg} {j : Nat} {s : Sg} (h : Row B a fp v l) (hj : l[j]? = some s) (hl : l.length ≤ 1000000) : ∃ bo cap, v = .slice (some ⟨bo, 0, none⟩) l.length cap ∧ l.length ≤ cap ∧ SegIn a bo j s := by
  have hlt : j < l.length := (List.getElem?_eq_some_iff.1 hj).1
  obtain ⟨bo, cap, hv, hc, -, hcl⟩ := h.segs (by omega) (by omega)
  exact ⟨bo, cap, hv, hc, fun i u hi hu => hcl _ u (by rw [segs_get l j s hj i hi]; exact hu)⟩

theorem xhears_in {cl : Bool} {t n : Nat} {s : Sg} {l : List Sg} (w : World) (h : XIn iss irs give take w gx gt x) (i0 : 0 ≤ iss) (i1 : iss < 4294967296) (he : Ear iss irs take cl t n x (s :: l)) :
    Calls Try.prog 16 #[.pointer (some ⟨gx, 0, none⟩), .agg #[.int .i64 s.frm, .int .i64 s.dst, .int .u32 s.seq, .int .u32 s.ack, .int .i64 s.flags, .int .i64 s.window, .int .i64 s.mss, .string ⟨s.data.toArray⟩]] w
      fun e w' => e = .returned (.tuple #[]) ∧ XIn iss irs give take w' gx gt (x.hear iss irs s) ∧ Frm [gx, gt] w w' := by
  obtain ⟨⟨k, hkn, hack⟩, hb⟩ := he.hon s (List.mem_cons_self ..)
  have hn := he.nn
  have hH : x.H ≤ 3001 := Nat.le_trans he.hh hn
  have hT := he.tl
  have ha : (ahd ((irs + 1) % 4294967296) s.ack).toNat ≤ 3001 := by
    have e1 : ahd ((irs + 1) % 4294967296) s.ack = (k : Int) := by rw [hack]; unfold ahd; omega
    rw [e1]
    show k ≤ 3001
    omega
  have huw := he.xi.uw
  have hwt := he.xi.wt
  have h24 : hasF 24 1 = false ∧ hasF 24 2 = false := ⟨by kernel_rfl, by kernel_rfl⟩
  rcases hb with ⟨b1, b2⟩ | ⟨b1, b2, b3⟩ | ⟨b1, j, b2, b3, b4, b5, b6, b7, b8⟩ | ⟨b1, b2, b3, b4, b5, b6⟩
  · have hx : x.hear iss irs s = x.heard irs s := by
      unfold EX.hear
      rw [b1, hasF_16.2.1, if_neg (by decide), if_pos (by unfold Sg.len; rw [b1, b2, hasF_16.1, hasF_16.2.1]; rfl)]
    rw [hx]
    exact xhears_16 w h hH ha b1 b2
  · have hx : x.hear iss irs s = x.heard irs s := by
      unfold EX.hear
      rw [b1, if_pos (by kernel_rfl)]
    rw [hx]
    exact xhears_18 w h hH ha b1 b2
  · have hdl : s.data.length = min 100 (take.length - j) := by rw [b5, List.length_take, List.length_drop]
    have hah : (ahd ((iss + 1) % 4294967296) s.seq).toNat = j := by
      rw [b4]
      have : ahd ((iss + 1) % 4294967296) ((iss + 1 + (j : Int)) % 4294967296) = (j : Int) := by unfold ahd; omega
      rw [this]
      rfl
    have hln : s.len ≠ 0 := by unfold Sg.len; rw [b1, h24.1, h24.2]; simp only [Bool.false_eq_true, if_false]; omega
    have hx : x.hear iss irs s = (x.heard irs s).mark j s := by
      unfold EX.hear
      rw [b1, h24.2, if_neg (by decide), if_neg hln, hah]
    have hmo : x.most = 1000 := by
      rcases he.mo with h1 | ⟨-, h2⟩
      · exact h1
      · omega
    rw [hx]
    refine xhears_24 w h hH ha b1 i0 i1 b4 hT b6 hwt huw ?_ (by omega) (by omega) hmo b7
    rw [hdl, b5]
    rcases (by omega : take.length - j ≤ 100 ∨ 100 ≤ take.length - j) with h1 | h1
    · rw [Nat.min_eq_right h1, List.take_of_length_le (by rw [List.length_drop]; exact h1), List.take_of_length_le (by rw [List.length_drop]; exact Nat.le_refl _)]
    · rw [Nat.min_eq_left h1]
  · have hah : (ahd ((iss + 1) % 4294967296) s.seq).toNat = take.length := by
      rw [b3]
      have : ahd ((iss + 1) % 4294967296) ((iss + 1 + (take.length : Int)) % 4294967296) = (take.length : Int) := by unfold ahd; omega
      rw [this]
      rfl
    have hx : x.hear iss irs s = (x.heard irs s).mark take.length s := by
      unfold EX.hear
      rw [b1, hasF_17.2.1, if_neg (by decide), if_neg (by unfold Sg.len; rw [b1, b4, hasF_17.1, hasF_17.2.1]; decide), hah]
    have hmo : x.most = 1000 := by
      rcases he.mo with h1 | ⟨-, h2⟩
      · exact h1
      · omega
    have hW := he.cl b2
    rw [hx]
    refine xhears_17 w h hH ha b1 i0 i1 b3 hT (by rw [b4, hW]; exact Nat.le_refl _) hwt huw (by rw [b4]; simp) (by rw [b4]; decide) b4 hmo (by rw [b4]; exact b5)
end

theorem xbegin_in (iss irs : Int) (give take : List UInt8) (w : World) (hT : take.length ≤ 3000) :
    Calls Try.prog 9 #[.int .u32 iss, .int .u32 irs, .string ⟨give.toArray⟩, .string ⟨take.toArray⟩, .agg #[.int .i64 3, .int .i64 2, .int .i64 8, .int .i64 100, .int .i64 4]] w fun e w' =>
      ∃ wa fp g gx gt, e = .returned (.tuple #[.pointer (some ⟨gx, 0, none⟩), .pointer (some ⟨g, 0, none⟩), .bool true]) ∧ Frm [] w wa ∧ Two iss irs give take wa w' fp g gx gt (CN.start (sIn irs) iss oIn) (x0 take.length) := by
  have hmk := run_make_row' (P := Try.prog) 33 4 _ _ Try.underlying33 info_bool rfl .i64 .i64 (take.length + 1) (by omega) (by omega)
  simp only [Int.natCast_add, Int.natCast_one] at hmk
  have hsz : (ByteArray.mk take.toArray).size = take.length := by simp [ByteArray.size]
  go_enter Try.func9, Try.ntmps9
  go_upto_region 1 with fail
  go_wp2_with fail
  refine (cnew_ok (sIn irs) iss oIn _ (newok_in irs)).mono ?_
  intro e w1 hnew
  obtain ⟨g, fp, rfl, hl, -⟩ := Live.of_new (Frm.refl _ _) hnew
  have HL := Lib.hid hl
  clear hnew hl
  go_wp2_with fail
  refine bodyPost_ret (v := .tuple #[.pointer (some ⟨w1.heap.size + 1, 0, none⟩), .pointer (some ⟨g, 0, none⟩), .bool true]) (by simp [results, Try.results9, go_sem]) rfl ?_
  refine ⟨_, fp, g, w1.heap.size + 1, w1.heap.size, rfl, (Frm.refl _ _).alloc _, ⟨HL.out.frm0 (((Frm.refl _ _).alloc _).alloc _), ⟨(Blk.new_at (by simp) _ _).as_ rfl, ((Blk.new_at rfl _ _).as_ (made_bools (take.length + 1))).alloc _, List.length_replicate⟩, fun hm => ?_, fun hm => ?_, ?_, ?_⟩⟩
  · have := HL.out.inn.fp_lt hm
    omega
  · have := HL.out.inn.fp_lt hm
    omega
  · have := HL.out.frm.size
    omega
  · exact HL.out.frm.size
end Go.Proofs.Ytpmlojgngcllfaa
