/- The reference's Put: the walk. -/
import Derived.Test.YtjfamjaebehieaaRbufRefSpec
namespace Go.Proofs.Ytjfamjaebehieaa
open Go.RowKit Go
set_option linter.unusedSimpArgs false

theorem info_b12 : (Try.prog.info? 59).map (fun i => (i.zero, i.size, i.bytes)) = some (some (.agg #[.int .u32 0, .int .u8 0]), 2, 8) := by kernel_rfl
theorem u64_small {a : Int} (h0 : 0 ≤ a) (h1 : a < 18446744073709551616) : IntKind.u64.wrap a = a := by
  simp [IntKind.wrap, IntKind.signed, IntKind.bits] <;> (try split) <;> omega
/-- How it stands in Put: the box, the result's cell, what is held. -/
structure WP (w wy : World) (b1 b2 : Nat) (room nx : Int) (rd : List UInt8) (v : Value) (h : List (Int × UInt8)) : Prop where
  frm : Frm [] w wy
  box : Blk wy b1 39 (refC room nx rd v)
  res : Blk wy b2 39 #[.int .i64 0, .int .u32 0, .string ⟨#[]⟩, .slice none 0 0]
  own : Own w.heap.size wy v h
  e1 : b1 = w.heap.size
  e2 : b2 = w.heap.size + 1
theorem WP.rules {w wy : World} {b1 b2 : Nat} {room nx : Int} {rd : List UInt8} {v : Value} {h : List (Int × UInt8)} (q : WP w wy b1 b2 room nx rd v h) :
    wy.cell? ⟨b1, 0, none⟩ = some (.int .i64 room) ∧ wy.cell? ⟨b1, 1, none⟩ = some (.int .u32 nx) ∧ wy.cell? ⟨b1, 2, none⟩ = some (.string ⟨rd.toArray⟩) ∧ wy.cell? ⟨b1, 3, none⟩ = some v ∧
    wy.frozen? ⟨b1, 1, none⟩ = false ∧ wy.frozen? ⟨b1, 2, none⟩ = false ∧ wy.frozen? ⟨b1, 3, none⟩ = false ∧ b1 < wy.heap.size ∧ b1 ≠ b2 :=
  ⟨q.box.cell 0, q.box.cell 1, q.box.cell 2, q.box.cell 3, q.box.frozen 1, q.box.frozen 2, q.box.frozen 3, q.box.lt, by have := q.e1; have := q.e2; omega⟩
theorem WP.frm_ {w wy w' : World} {b1 b2 : Nat} {room nx : Int} {rd : List UInt8} {v : Value} {h : List (Int × UInt8)} (q : WP w wy b1 b2 room nx rd v h) (hf : Frm [] wy w') : WP w w' b1 b2 room nx rd v h :=
  ⟨q.frm.next0 hf, q.box.frm hf (by simp), q.res.frm hf (by simp), q.own.frm hf, q.e1, q.e2⟩
/-- The box is written anew. -/
theorem WP.put {w wy : World} {b1 b2 : Nat} {room nx nx' : Int} {rd rd' : List UInt8} {v v' : Value} {h h' : List (Int × UInt8)} (q : WP w wy b1 b2 room nx rd v h) (ho : Own w.heap.size wy v' h') {w' : World}
    (hf : Frm [b1] wy w') (hb : Blk w' b1 39 (refC room nx' rd' v')) : WP w w' b1 b2 room nx' rd' v' h' := by
  have e1 := q.e1
  have e2 := q.e2
  refine ⟨q.frm.next1 hf (.inr (by omega)), hb, q.res.frm hf (by simp; omega), own_frm ho hf fun k hk hi => ?_, e1, e2⟩
  have n1 := own_ne ho q.box (by decide)
  rw [hk] at n1
  simp at hi
  exact n1 (by rw [hi])
/-- What is appended to what is held: the world is the box's but for that row. -/
theorem WP.grow {w wy w' : World} {b1 b2 : Nat} {room nx : Int} {rd : List UInt8} {v u : Value} {h hu : List (Int × UInt8)} (q : WP w wy b1 b2 room nx rd v h) (ho : Own w.heap.size wy u hu)
    (hg : wy.grownBy w' u.ownBlock) : Frm [] w w' ∧ Blk w' b1 39 (refC room nx rd v) ∧ Blk w' b2 39 #[.int .i64 0, .int .u32 0, .string ⟨#[]⟩, .slice none 0 0] :=
  ⟨q.frm.grown hg fun k hk => .inr (own_lt ho hk).2, q.box.grown hg (Ne.symm (own_ne ho q.box (by decide))), q.res.grown hg (Ne.symm (own_ne ho q.res (by decide)))⟩

theorem WP.push {w wy w0 w1 : World} {b1 b2 : Nat} {room nx : Int} {rd : List UInt8} {v v' : Value} {h h' : List (Int × UInt8)} {n : Nat} (q : WP w wy b1 b2 room nx rd v h) (hf0 : Frm [] wy w0)
    (ho : w1.ownsRow w.heap.size 59 2 v' n (ncells h')) (hn : h'.length = n) (hg : w0.grownBy w1 v.ownBlock) : WP w (w1.setCell ⟨b1, 3, none⟩ v') b1 b2 room nx rd v' h' := by
  have q0 := q.frm_ hf0
  obtain ⟨hf1, hb1, hb2⟩ := q0.grow q0.own hg
  have e1 := q.e1
  have e2 := q.e2
  subst hn
  refine ⟨hf1.setCell (.inr (by show w.heap.size ≤ b1; omega)) _, (hb1.set_ 3 _).as_ rfl, hb2.far (p := ⟨b1, 3, none⟩) (by show b2 ≠ b1; omega) _, own_frm ho ((Frm.refl [b1] _).setCell (.inl (by simp)) _) fun k hk hi => ?_, e1, e2⟩
  have n1 := own_ne ho hb1 (by decide)
  rw [hk] at n1
  simp at hi
  exact n1 (by rw [hi])

/-- The rest of what is held, put together in a row of its own, and laid into the box. -/
theorem WP.lay {w wy w1 : World} {b1 b2 : Nat} {room nx : Int} {rd : List UInt8} {v v' u : Value} {h h' hu : List (Int × UInt8)} {n : Nat} (q : WP w wy b1 b2 room nx rd v h) (hu : Own w.heap.size wy u hu)
    (ho : w1.ownsRow w.heap.size 59 2 v' n (ncells h')) (hn : h'.length = n) (hg : wy.grownBy w1 u.ownBlock) : WP w (w1.setCell ⟨b1, 3, none⟩ v') b1 b2 room nx rd v' h' := by
  obtain ⟨hf1, hb1, hb2⟩ := q.grow hu hg
  have e1 := q.e1
  have e2 := q.e2
  subst hn
  refine ⟨hf1.setCell (.inr (by show w.heap.size ≤ b1; omega)) _, (hb1.set_ 3 _).as_ rfl, hb2.far (p := ⟨b1, 3, none⟩) (by show b2 ≠ b1; omega) _, own_frm ho ((Frm.refl [b1] _).setCell (.inl (by simp)) _) fun k hk hi => ?_, e1, e2⟩
  have n1 := own_ne ho hb1 (by decide)
  rw [hk] at n1
  simp at hi
  exact n1 (by rw [hi])
/-- A cell of the box is written. -/
theorem WP.cell1 {w wy : World} {b1 b2 : Nat} {room nx nx' : Int} {rd : List UInt8} {v : Value} {h : List (Int × UInt8)} (q : WP w wy b1 b2 room nx rd v h) : WP w (wy.setCell ⟨b1, 1, none⟩ (.int .u32 nx')) b1 b2 room nx' rd v h :=
  q.put q.own ((Frm.refl [b1] _).setCell (.inl (by simp)) _) ((q.box.set_ 1 _).as_ rfl)
theorem WP.cell2 {w wy : World} {b1 b2 : Nat} {room nx : Int} {rd rd' : List UInt8} {v : Value} {h : List (Int × UInt8)} (q : WP w wy b1 b2 room nx rd v h) : WP w (wy.setCell ⟨b1, 2, none⟩ (.string ⟨rd'.toArray⟩)) b1 b2 room nx rd' v h :=
  q.put q.own ((Frm.refl [b1] _).setCell (.inl (by simp)) _) ((q.box.set_ 2 _).as_ rfl)
theorem WP.fin {w wy : World} {b1 b2 : Nat} {room nx : Int} {rd : List UInt8} {v : Value} {h : List (Int × UInt8)} (q : WP w wy b1 b2 room nx rd v h) : ∀ wz, wz = (((wy.setCell ⟨b2, 0, none⟩ (.int .i64 room)).setCell ⟨b2, 1, none⟩ (.int .u32 nx)).setCell ⟨b2, 2, none⟩ (.string ⟨rd.toArray⟩)).setCell ⟨b2, 3, none⟩ v →
    Frm [] w wz ∧ Own w.heap.size wz v h ∧ Blk wz b2 39 (refC room nx rd v) := by
  rintro wz rfl
  have e2 := q.e2
  have hf : Frm [b2] wy ((((wy.setCell ⟨b2, 0, none⟩ (.int .i64 room)).setCell ⟨b2, 1, none⟩ (.int .u32 nx)).setCell ⟨b2, 2, none⟩ (.string ⟨rd.toArray⟩)).setCell ⟨b2, 3, none⟩ v) :=
    ((((Frm.refl _ _).setCell (.inl (by simp)) _).setCell (.inl (by simp)) _).setCell (.inl (by simp)) _).setCell (.inl (by simp)) _
  refine ⟨q.frm.next1 hf (.inr (by omega)), own_frm q.own hf fun k hk hi => ?_, ((((q.res.set_ 0 _).set_ 1 _).set_ 2 _).set_ 3 _).as_ rfl⟩
  have n1 := own_ne q.own q.res (by decide)
  rw [hk] at n1
  simp at hi
  exact n1 (by rw [hi])
theorem WP.resrules {w wy : World} {b1 b2 : Nat} {room nx : Int} {rd : List UInt8} {v : Value} {h : List (Int × UInt8)} (q : WP w wy b1 b2 room nx rd v h) :
    wy.cell? ⟨b2, 0, none⟩ = some (.int .i64 0) ∧ wy.cell? ⟨b2, 1, none⟩ = some (.int .u32 0) ∧ wy.cell? ⟨b2, 2, none⟩ = some (.string ⟨#[]⟩) ∧ wy.cell? ⟨b2, 3, none⟩ = some (.slice none 0 0) ∧
    wy.frozen? ⟨b2, 0, none⟩ = false ∧ wy.frozen? ⟨b2, 1, none⟩ = false ∧ wy.frozen? ⟨b2, 2, none⟩ = false ∧ wy.frozen? ⟨b2, 3, none⟩ = false :=
  ⟨q.res.cell 0, q.res.cell 1, q.res.cell 2, q.res.cell 3, q.res.frozen 0, q.res.frozen 1, q.res.frozen 2, q.res.frozen 3⟩


set_option maxRecDepth 100000 in
set_option maxHeartbeats 4000000 in
theorem rput12_any (base : Nat) (room nx seq : Int) (rd : List UInt8) (v : Value) (h : List (Int × UInt8)) (l : List UInt8) (w : World) (ho : Own base w v h) (hlen : h.length ≤ 1000) (hr0 : 0 ≤ room) (hr1 : room ≤ 1000) (hrd : rd.length ≤ 1000)
    (n0 : 0 ≤ nx) (n1 : nx < 4294967296) (s0 : 0 ≤ seq) (s1 : seq < 4294967296) (hl : l.length ≤ 9223372036854775807) :
    Calls Try.prog 17 #[.agg #[.int .i64 room, .int .u32 nx, .string ⟨rd.toArray⟩, v], .int .u32 seq, .string ⟨l.toArray⟩] w (RputPost w.heap.size room nx seq rd h l w) := by
  obtain ⟨A, cap, rfl, h1, h2, h4, h3⟩ := ho.form
  have HO := Lib.hid ho
  have H4 := Lib.hid h4
  obtain ⟨N, hN⟩ : ∃ N, h.length = N := ⟨_, rfl⟩
  rw [hN] at h1 hlen ⊢
  have HN := Lib.hid hN
  have HL := Lib.hid hl
  have HNX := Lib.hid (show 0 ≤ nx ∧ nx < 4294967296 from ⟨n0, n1⟩)
  have HSQ := Lib.hid (show 0 ≤ seq ∧ seq < 4294967296 from ⟨s0, s1⟩)
  clear h3 h4 hN ho n0 n1 s0 s1 hl h2
  obtain ⟨b1, hb1⟩ : ∃ b, b = w.heap.size := ⟨_, rfl⟩
  obtain ⟨b2, hb2⟩ : ∃ b, b = w.heap.size + 1 := ⟨_, rfl⟩
  have HB1 := Lib.hid hb1
  have HB2 := Lib.hid hb2
  clear hb1 hb2
  go_enter Try.func17, Try.ntmps17
  go_upto_region 2 with fail
  have hb1 := HB1.out
  have hb2 := HB2.out
  refine wp_world (fun wx => Frm [] w wx ∧ Blk wx b1 39 (refC room nx rd (.slice A N cap)) ∧ Blk wx b2 39 #[.int .i64 0, .int .u32 0, .string ⟨#[]⟩, .slice none 0 0]) ⟨((Frm.refl _ _).alloc _).alloc _, (Blk.new_at hb1.symm _ _).alloc _, Blk.new_at (by simp [hb2]) _ _⟩ ?_
  rintro wx ⟨hfx, hx1, hx2⟩
  rw [← hb2, ← hb1]
  clear hb1 hb2
  go_cut [8] (fun v8 wy => ∃ A1 c1, v8 = .slice A1 N c1 ∧ Frm [] wx wy ∧ Own w.heap.size wy (.slice A1 N c1) h)
  case first =>
    have c3 : wx.cell? ⟨b1, 3, none⟩ = some (.slice A N cap) := hx1.cell 3
    have hox := HO.out.frm hfx
    have HOX := Lib.hid hox
    have hbase : w.heap.size ≤ wx.heap.size := hfx.size
    clear hfx hx1 hx2 hox
    rcases A with _ | ⟨g, off, sp⟩
    · obtain rfl : cap = 0 := H4.out rfl
      obtain rfl : N = 0 := by omega
      obtain ⟨i0, hi, hz0, hz1, hz2⟩ := info_parts info_b12
      have HI := Lib.hid hi
      clear hi hz0 hz1 hz2
      go_wp2_with ((at_builtin; go_must (refine wpList_append_own_none rfl _ _ 37 rfl w.heap.size 59 i0 2 Try.underlying37 HI.out (.slice none 0 0) 0 [] rfl ⟨rfl, .inl ⟨rfl, rfl⟩⟩ rfl ?_)))
      go_meet
      have hl : h = [] := List.eq_nil_of_length_eq_zero HN.out
      rw [hl]
      exact ⟨none, 0, rfl, Frm.refl _ _, rfl, .inl ⟨rfl, rfl⟩⟩
    · have hnews : ∀ j u, (ncells h)[j]? = some u → wx.cell? ((⟨g, off, sp⟩ : Addr).add j) = some u := fun j u hu => by
        rcases HOX.out.2 with ⟨h0, -⟩ | ⟨g', cap', cur, hv, -⟩
        · cases h0
        · cases hv
          exact World.ownsRow.cells HOX.out rfl j u hu
      have hl2 : (ncells h).length = N * 2 := by rw [ncells_length, HN.out]
      have HNEWS := Lib.hid hnews
      have HL2 := Lib.hid hl2
      clear hnews hl2
      go_wp2_with ((at_builtin; go_must (refine wpList_append_own2 rfl _ _ 37 rfl w.heap.size 59 (.agg #[.int .u32 0, .int .u8 0]) 2 8 Try.underlying37 info_b12 rfl (by decide) (.slice none 0 0) 0 [] rfl ⟨rfl, .inl ⟨rfl, rfl⟩⟩ ⟨g, off, sp⟩ N cap (ncells h) rfl HL2.out HNEWS.out (ncells_one h) (by unfold maxLen; omega) (by omega) hbase ?_); intro A1 c1 w1 hown1 hgrow1 hblk1))
      go_meet
      simp only [Nat.zero_add, List.nil_append] at hown1
      have hf1 := Frm.grown (ex := []) (Frm.refl _ _) hgrow1 (by simp [Value.ownBlock])
      refine ⟨A1, c1, by simp, hf1, ?_⟩
      unfold Own
      rw [HN.out]
      exact hown1
  case rest =>
    obtain ⟨A1, c1, rfl, hf9, ho9⟩ := hcut
    have f3 : wc.frozen? ⟨b1, 3, none⟩ = false := (hx1.frm hf9 (by simp)).frozen 3
    have c3 : wc.cell? ⟨b1, 3, none⟩ = some (.slice A N cap) := (hx1.frm hf9 (by simp)).cell 3
    have hw9 : WP w (wc.setCell ⟨b1, 3, none⟩ (.slice A1 N c1)) b1 b2 room nx rd (.slice A1 N c1) h := by
      have e1 := HB1.out
      have e2 := HB2.out
      refine ⟨(hfx.next0 hf9).setCell (.inr (by show w.heap.size ≤ b1; omega)) _, ((hx1.frm hf9 (by simp)).set_ 3 _).as_ rfl, (hx2.frm hf9 (by simp)).far (p := ⟨b1, 3, none⟩) (by show b2 ≠ b1; omega) _, own_frm ho9 ((Frm.refl [b1] _).setCell (.inl (by simp)) _) fun k hk hi => ?_, e1, e2⟩
      have n1 := own_ne ho9 (hx1.frm hf9 (by simp)) (by decide)
      rw [hk] at n1
      simp at hi
      exact n1 (by rw [hi])
    go_upto_region 4 with fail
    refine wp_world (fun wx => WP w wx b1 b2 room nx rd (.slice A1 N c1) h) hw9 ?_
    clear hw9 f3 c3 hf9 ho9 hfx hx1 hx2
    intro wz hws
    have hsz : (ByteArray.mk l.toArray).size = l.length := by simp [ByteArray.size]
    obtain ⟨M, hM⟩ : ∃ M, M = min l.length 65536 := ⟨_, rfl⟩
    have hM1 : M ≤ l.length := by omega
    have hM2 : M ≤ 65536 := by omega
    have HM := Lib.hid hM
    clear hM
    go_upto_block 0 with fail
    go_cut [] (fun wy => ∃ A2 c2, WP w wy b1 b2 room nx rd (.slice A2 (rmany nx (room - rd.length) seq h l M).length c2) (rmany nx (room - rd.length) seq h l M))
    case first =>
     go_wp2_with fail
     go_loopg [9] M (fun gk ii wr => ∃ (k : Nat) (A2 : Option Addr) (c2 : Nat), k ≤ M ∧ gk = M - k ∧ ii = .int .i64 (k : Int) ∧ WP w wr b1 b2 room nx rd (.slice A2 (rmany nx (room - rd.length) seq h l k).length c2) (rmany nx (room - rd.length) seq h l k))
     case atStart => exact ⟨0, A1, c1, Nat.zero_le _, rfl, rfl, by show WP w wz b1 b2 room nx rd (.slice A1 h.length c1) h; rw [HN.out]; exact hws⟩
     case round =>
       clear hws
       obtain ⟨k, A2, c2, hk, hgk, rfl, hws⟩ := hrel
       obtain ⟨k0, k1, k2, k3, f1, f2, f3, hl1, hbb⟩ := hws.rules
       by_cases hlt : k < M
       · have hkl : k < l.length := by omega
         have hk6 : k < 65536 := by omega
         obtain ⟨q, hq⟩ : ∃ q : Int, q = (k : Int) := ⟨_, rfl⟩
         rw [← hq]
         have q0 : 0 ≤ q := by omega
         have q1 : q < (l.length : Int) := by omega
         have q6 : q < 65536 := by omega
         obtain ⟨x, hx⟩ : ∃ x : Int, x = (seq + (k : Nat)) % 4294967296 := ⟨_, rfl⟩
         have hx01 : 0 ≤ x ∧ x < 4294967296 := by omega
         have z1 : IntKind.u64.wrap seq = seq := u64_small HSQ.out.1 (by have := HSQ.out.2; omega)
         have z2 : IntKind.u64.wrap (seq + q) = seq + q := u64_small (by have := HSQ.out.1; omega) (by have := HSQ.out.2; omega)
         have z3 : (seq + q).tmod 4294967296 % 4294967296 = x := by
           rw [Int.tmod_eq_emod_of_nonneg (by have := HSQ.out.1; omega), hx, hq]
           omega
         have HX := Lib.hid hx
         have HX01 := Lib.hid hx01
         clear hx hx01
         have HQ := Lib.hid hq
         have HK6 := Lib.hid hk6
         clear hq hk6 hk hM1 hM2
         go_upto_region 7 with fail
         go_cut [10] (fun u wy => u = .int .u32 x ∧ wr = wy)
         case first =>
           have Z3 := Lib.hid z3
           clear z3
           go_wp2_with fail
           go_meet
           exact ⟨by rw [Z3.out], rfl⟩
         case rest =>
           obtain ⟨rfl, rfl⟩ := hcut
           clear z1 z2 z3 k0 k1 k2 k3 f1 f2 f3 hl1 hbb
           have hstep : rmany nx (room - rd.length) seq h l (k + 1) = rone nx (room - rd.length) (rmany nx (room - rd.length) seq h l k) x (l.getD k 0) := by rw [HX.out]; rfl
           have hkl2 : (rmany nx (room - rd.length) seq h l k).length ≤ 66536 := by
             have h9 := rmany_len nx (room - rd.length) seq h l k
             rw [HN.out] at h9
             have := HK6.out
             omega
           generalize rmany nx (room - rd.length) seq h l k = hh at *
           have HST := Lib.hid hstep
           have hW2 : (room - (rd.length : Int)) ≤ 1000 := by omega
           clear hstep
           obtain ⟨N2, hN2⟩ : ∃ N2, hh.length = N2 := ⟨_, rfl⟩
           rw [hN2] at hkl2
           have HKL := Lib.hid hkl2
           have HN2 := Lib.hid hN2
           rw [hN2] at hws
           clear hkl2 hN2
           obtain ⟨W, hW⟩ : ∃ W, W = room - (rd.length : Int) := ⟨_, rfl⟩
           have HW := Lib.hid hW
           clear hW
           obtain ⟨R, hR⟩ : ∃ R, R = fndI x hh 0 := ⟨_, rfl⟩
           have HR := Lib.hid hR
           clear hR
           go_upto_region 8 with fail
           by_cases hin : inB x nx W = true
           · have HIN := Lib.hid hin
             clear hin
             by_cases hfd : R < 0
             · have HS : ∀ w', WP w w' b1 b2 room nx rd (.slice A2 N2 c2) hh → (fun w' => w'.cell? ⟨b1, 0, none⟩ = some (.int .i64 room) ∧ w'.cell? ⟨b1, 1, none⟩ = some (.int .u32 nx) ∧ w'.cell? ⟨b1, 2, none⟩ = some (.string ⟨rd.toArray⟩) ∧ w'.cell? ⟨b1, 3, none⟩ = some (.slice A2 N2 c2) ∧ WP w w' b1 b2 room nx rd (.slice A2 N2 c2) hh) w' := fun w' h => ⟨h.rules.1, h.rules.2.1, h.rules.2.2.1, h.rules.2.2.2.1, h⟩
               have HS0 := Lib.hid HS
               have hnow : WP w wr.drew b1 b2 room nx rd (.slice A2 N2 c2) hh := hws.frm_ (Frm.drew (Frm.refl [] _))
               clear HS hws
               go_region_held3 (fun w' => w'.cell? ⟨b1, 0, none⟩ = some (.int .i64 room) ∧ w'.cell? ⟨b1, 1, none⟩ = some (.int .u32 nx) ∧ w'.cell? ⟨b1, 2, none⟩ = some (.string ⟨rd.toArray⟩) ∧ w'.cell? ⟨b1, 3, none⟩ = some (.slice A2 N2 c2) ∧ WP w w' b1 b2 room nx rd (.slice A2 N2 c2) hh)
                 (exact HS0.out _ hnow)
                 (first
                   | (go_at_call 19; refine (rwin_any room nx rd (.slice A2 N2 c2) _ hr0 (by omega) (by omega)).mono ?_; rw [← HW.out]; rintro e' wb ⟨rfl, hfa⟩; have hnow : WP w wb b1 b2 room nx rd (.slice A2 N2 c2) hh := hnow.frm_ hfa)
                   | (go_at_call 22; refine (rin12_any x nx W HX01.out.1 HX01.out.2 HNX.out.1 HNX.out.2 _).mono ?_; rw [HIN.out]; rintro e' wb ⟨rfl, rfl⟩)
                   | (go_at_call 23; refine (rfind_any w.heap.size room nx x rd (.slice A2 N2 c2) hh _ hnow.own (by rw [HN2.out]; have := HKL.out; omega)).mono ?_; rw [← HR.out]; rintro e' wb ⟨rfl, hfa⟩; have hnow : WP w wb b1 b2 room nx rd (.slice A2 N2 c2) hh := hnow.frm_ hfa))
               go_upto_region 9 with fail
               refine wp_world (fun wq => WP w wq b1 b2 room nx rd (.slice A2 N2 c2) hh) hnow ?_
               clear hnow
               intro wq hws
               obtain ⟨k0, k1, k2, k3, f1, f2, f3, hl1, hbb⟩ := hws.rules
               have hown : wq.ownsRow w.heap.size 59 2 (.slice A2 N2 c2) N2 (ncells hh) := by have h9 := hws.own; unfold Own at h9; rwa [HN2.out] at h9
               have hne1 : (Value.slice A2 N2 c2).ownBlock ≠ some b1 := own_ne hown hws.box (by decide)
               have hbs : w.heap.size ≤ wq.heap.size := hws.frm.size
               have hN63 : N2 + 1 ≤ maxLen := by have := HKL.out; unfold maxLen; omega
               have hN64 : (N2 + 1) * 8 ≤ 140737488355328 := by have := HKL.out; omega
               have HOWN := Lib.hid hown
               have HNE1 := Lib.hid hne1
               have HBS := Lib.hid hbs
               have HN63 := Lib.hid hN63
               have HN64 := Lib.hid hN64
               have HWS := Lib.hid hws
               have hqq : q.toNat < l.length := by omega
               clear hown hne1 hbs hN63 hN64 hws k0 k1 k2 f1 f2
               go_region_law ((refine step_append_own2 rfl _ _ 37 (by rfl) w.heap.size 59 (.agg #[.int .u32 0, .int .u8 0]) 2 8 Try.underlying37 info_b12 rfl (by decide) (.slice A2 N2 c2) N2 (ncells hh) (by rfl) (by first | exact (HOWN.out.alloc _).drew | exact HOWN.out.drew.alloc _) ⟨wq.heap.size, 0, none⟩ 1 1 _ (by rfl) (by rfl) (World.news_of_block (heap_alloc_new _ _)) (by simp [Value.oneCell']) HN63.out HN64.out (by have := HBS.out; simp; omega) ?_); intro A3 c3 w1 hown1 hgrow1 hblk1; have c31 : w1.cell? ⟨b1, 3, none⟩ = some (.slice A2 N2 c2) := (by first | exact ((HWS.out.box.alloc _).drew.grown hgrow1 (Ne.symm HNE1.out)).cell 3 | exact ((HWS.out.box.drew.alloc _).grown hgrow1 (Ne.symm HNE1.out)).cell 3); have f31 : w1.frozen? ⟨b1, 3, none⟩ = false := (by first | exact ((HWS.out.box.alloc _).drew.grown hgrow1 (Ne.symm HNE1.out)).frozen 3 | exact ((HWS.out.box.drew.alloc _).grown hgrow1 (Ne.symm HNE1.out)).frozen 3))
               all_goals
                 go_wp2_with fail
                 go_roundg (M - (k + 1))
                 case measure => omega
                 case rel =>
                   have hqk := HQ.out
                   subst hqk
                   have hh1 : rmany nx (room - rd.length) seq h l (k + 1) = hh ++ [(x, l.getD k 0)] := by
                     rw [HST.out]
                     unfold rone
                     rw [if_pos ⟨by rw [← HW.out]; exact HIN.out, by rw [← HR.out]; exact hfd⟩]
                   have hlen1 : (hh ++ [(x, l.getD k 0)]).length = N2 + 1 := by rw [List.length_append, HN2.out]; rfl
                   refine ⟨k + 1, A3, c3, by omega, rfl, by go_num, ?_⟩
                   rw [hh1, hlen1]
                   simp only [Int.toNat_natCast] at hown1 hgrow1
                   rw [ba_get l k hkl] at hown1
                   exact HWS.out.push (((Frm.refl _ _).alloc _).drew) (by rw [ncells_append]; exact hown1) hlen1 hgrow1
             · have HS : ∀ w', WP w w' b1 b2 room nx rd (.slice A2 N2 c2) hh → (fun w' => w'.cell? ⟨b1, 0, none⟩ = some (.int .i64 room) ∧ w'.cell? ⟨b1, 1, none⟩ = some (.int .u32 nx) ∧ w'.cell? ⟨b1, 2, none⟩ = some (.string ⟨rd.toArray⟩) ∧ w'.cell? ⟨b1, 3, none⟩ = some (.slice A2 N2 c2) ∧ WP w w' b1 b2 room nx rd (.slice A2 N2 c2) hh) w' := fun w' h => ⟨h.rules.1, h.rules.2.1, h.rules.2.2.1, h.rules.2.2.2.1, h⟩
               have HS0 := Lib.hid HS
               have hnow : WP w wr.drew b1 b2 room nx rd (.slice A2 N2 c2) hh := hws.frm_ (Frm.drew (Frm.refl [] _))
               clear HS hws
               go_region_held3 (fun w' => w'.cell? ⟨b1, 0, none⟩ = some (.int .i64 room) ∧ w'.cell? ⟨b1, 1, none⟩ = some (.int .u32 nx) ∧ w'.cell? ⟨b1, 2, none⟩ = some (.string ⟨rd.toArray⟩) ∧ w'.cell? ⟨b1, 3, none⟩ = some (.slice A2 N2 c2) ∧ WP w w' b1 b2 room nx rd (.slice A2 N2 c2) hh)
                 (exact HS0.out _ hnow)
                 (first
                   | (go_at_call 19; refine (rwin_any room nx rd (.slice A2 N2 c2) _ hr0 (by omega) (by omega)).mono ?_; rw [← HW.out]; rintro e' wb ⟨rfl, hfa⟩; have hnow : WP w wb b1 b2 room nx rd (.slice A2 N2 c2) hh := hnow.frm_ hfa)
                   | (go_at_call 22; refine (rin12_any x nx W HX01.out.1 HX01.out.2 HNX.out.1 HNX.out.2 _).mono ?_; rw [HIN.out]; rintro e' wb ⟨rfl, rfl⟩)
                   | (go_at_call 23; refine (rfind_any w.heap.size room nx x rd (.slice A2 N2 c2) hh _ hnow.own (by rw [HN2.out]; have := HKL.out; omega)).mono ?_; rw [← HR.out]; rintro e' wb ⟨rfl, hfa⟩; have hnow : WP w wb b1 b2 room nx rd (.slice A2 N2 c2) hh := hnow.frm_ hfa))
               go_wp2_with fail
               go_roundg (M - (k + 1))
               case measure => omega
               case rel =>
                 have hh1 : rmany nx (room - rd.length) seq h l (k + 1) = hh := by
                   rw [HST.out]
                   unfold rone
                   rw [if_neg (fun h9 => by have h8 := h9.2; rw [← HR.out] at h8; omega)]
                 have hqk := HQ.out
                 subst hqk
                 refine ⟨k + 1, A2, c2, by omega, rfl, by go_num, ?_⟩
                 rw [hh1, HN2.out]
                 exact hnow
           · have HIN : Hid (inB x nx W = false) := Lib.hid (by simpa using hin)
             clear hin
             have HS : ∀ w', WP w w' b1 b2 room nx rd (.slice A2 N2 c2) hh → (fun w' => w'.cell? ⟨b1, 0, none⟩ = some (.int .i64 room) ∧ w'.cell? ⟨b1, 1, none⟩ = some (.int .u32 nx) ∧ w'.cell? ⟨b1, 2, none⟩ = some (.string ⟨rd.toArray⟩) ∧ w'.cell? ⟨b1, 3, none⟩ = some (.slice A2 N2 c2) ∧ WP w w' b1 b2 room nx rd (.slice A2 N2 c2) hh) w' := fun w' h => ⟨h.rules.1, h.rules.2.1, h.rules.2.2.1, h.rules.2.2.2.1, h⟩
             have HS0 := Lib.hid HS
             have hnow : WP w wr.drew b1 b2 room nx rd (.slice A2 N2 c2) hh := hws.frm_ (Frm.drew (Frm.refl [] _))
             clear HS hws
             refine wp_region_held_drew (S := (fun w' => w'.cell? ⟨b1, 0, none⟩ = some (.int .i64 room) ∧ w'.cell? ⟨b1, 1, none⟩ = some (.int .u32 nx) ∧ w'.cell? ⟨b1, 2, none⟩ = some (.string ⟨rd.toArray⟩) ∧ w'.cell? ⟨b1, 3, none⟩ = some (.slice A2 N2 c2) ∧ WP w w' b1 b2 room nx rd (.slice A2 N2 c2) hh)) (by kernel_rfl) ?_ (fun hHeld => ?_)
             · exact HS0.out _ hnow
             refine wpAnyH_take (i := 0) (oi := _) (v := ?_) rfl (by kernel_rfl) (by kernel_rfl) (by kernel_rfl) (fun _ _ _ h => h) (Or.inl ⟨by rfl, ?_⟩) (by assumption) ?_
             rotate_left
             · intro wy hSw; (try dsimp only at hSw); go_simp; try with_reducible rfl
             try simp only [Act.put, List.setIfInBounds_toArray, List.set_cons_zero, List.set_cons_succ]
             refine wpAnyH_take (i := 1) (oi := _) (v := ?_) rfl (by kernel_rfl) (by kernel_rfl) (by kernel_rfl) (fun _ _ _ h => h) (Or.inl ⟨by rfl, ?_⟩) (by assumption) ?_
             rotate_left
             · intro wy hSw; (try dsimp only at hSw); go_simp; try with_reducible rfl
             try simp only [Act.put, List.setIfInBounds_toArray, List.set_cons_zero, List.set_cons_succ]
             refine wpAnyH_take (i := 2) (oi := _) (v := ?_) rfl (by kernel_rfl) (by kernel_rfl) (by kernel_rfl) (fun _ _ _ h => h) (Or.inl ⟨by rfl, ?_⟩) (by assumption) ?_
             rotate_left
             · intro wy hSw; (try dsimp only at hSw); go_simp; try with_reducible rfl
             try simp only [Act.put, List.setIfInBounds_toArray, List.set_cons_zero, List.set_cons_succ]
             refine wpAnyH_take (i := 3) (oi := _) (v := ?_) rfl (by kernel_rfl) (by kernel_rfl) (by kernel_rfl) (fun _ _ _ h => h) (Or.inl ⟨by rfl, ?_⟩) (by assumption) ?_
             rotate_left
             · intro wy hSw; (try dsimp only at hSw); go_simp; try with_reducible rfl
             try simp only [Act.put, List.setIfInBounds_toArray, List.set_cons_zero, List.set_cons_succ]
             refine wpAnyH_ready (rs := [4]) (by kernel_rfl) (by simp) ?_
             refine AllReadyH.cons (o := _) rfl (fun K hK => ?_) AllReadyH.nil
             go_simp
             go_at_call 19
             refine (rwin_any room nx rd (.slice A2 N2 c2) _ hr0 (by omega) (by omega)).mono ?_
             rw [← HW.out]
             rintro e' wb ⟨rfl, hfa⟩
             have hnow : WP w wb b1 b2 room nx rd (.slice A2 N2 c2) hh := hnow.frm_ hfa
             go_simp
             refine hK.out _ _ (HS0.out _ hnow) (fun hHeld => ?_)
             clear hK K
             try simp only [Act.put, List.setIfInBounds_toArray, List.set_cons_zero, List.set_cons_succ]
             refine wpAnyH_ready (rs := [5]) (by kernel_rfl) (by simp) ?_
             refine AllReadyH.cons (o := _) rfl (fun K hK => ?_) AllReadyH.nil
             go_simp
             go_at_call 22
             refine (rin12_any x nx W HX01.out.1 HX01.out.2 HNX.out.1 HNX.out.2 _).mono ?_
             rw [HIN.out]
             rintro e' wb' ⟨rfl, rfl⟩
             go_simp
             refine hK.out _ _ (HS0.out _ hnow) (fun hHeld => ?_)
             clear hK K
             try simp only [Act.put, List.setIfInBounds_toArray, List.set_cons_zero, List.set_cons_succ]
             refine wpAnyH_take (i := 6) (oi := _) (v := ?_) rfl (by kernel_rfl) (by kernel_rfl) (by kernel_rfl) (fun _ _ _ h => h) (Or.inl ⟨by rfl, ?_⟩) (by assumption) ?_
             rotate_left
             · intro wy hSw; (try dsimp only at hSw); go_simp; try with_reducible rfl
             try simp only [Act.put, List.setIfInBounds_toArray, List.set_cons_zero, List.set_cons_succ]
             refine wpAnyH_take (i := 7) (oi := _) rfl (by kernel_rfl) (by kernel_rfl) (by kernel_rfl) (fun _ _ _ h => h) (Or.inr ⟨by rfl, rfl⟩) (by assumption) ?_
             try simp only [Act.put, List.setIfInBounds_toArray, List.set_cons_zero, List.set_cons_succ]
             refine wpAnyH_take (i := 8) (oi := _) rfl (by kernel_rfl) (by kernel_rfl) (by kernel_rfl) (fun _ _ _ h => h) (Or.inr ⟨by rfl, rfl⟩) (by assumption) ?_
             try simp only [Act.put, List.setIfInBounds_toArray, List.set_cons_zero, List.set_cons_succ]
             refine wpAnyH_take (i := 9) (oi := _) rfl (by kernel_rfl) (by kernel_rfl) (by kernel_rfl) (fun _ _ _ h => h) (Or.inr ⟨by rfl, rfl⟩) (by assumption) ?_
             try simp only [Act.put, List.setIfInBounds_toArray, List.set_cons_zero, List.set_cons_succ]
             refine wpAnyH_take (i := 10) (oi := _) rfl (by kernel_rfl) (by kernel_rfl) (by kernel_rfl) (fun _ _ _ h => h) (Or.inr ⟨by rfl, rfl⟩) (by assumption) ?_
             try simp only [Act.put, List.setIfInBounds_toArray, List.set_cons_zero, List.set_cons_succ]
             refine wpAnyH_take (i := 11) (oi := _) (v := ?_) rfl (by kernel_rfl) (by kernel_rfl) (by kernel_rfl) (fun _ _ _ h => h) (Or.inl ⟨by rfl, ?_⟩) (by assumption) ?_
             rotate_left
             · intro wy hSw; (try dsimp only at hSw); go_simp; try with_reducible rfl
             try simp only [Act.put, List.setIfInBounds_toArray, List.set_cons_zero, List.set_cons_succ]
             refine wpAnyH_done (by kernel_rfl) ?_ _
             all_goals
               go_wp2_with fail
               go_roundg (M - (k + 1))
               case measure => omega
               case rel =>
                 have hh1 : rmany nx (room - rd.length) seq h l (k + 1) = hh := by
                   rw [HST.out]
                   unfold rone
                   rw [if_neg (fun h9 => by have h8 := HIN.out; rw [HW.out] at h8; rw [h8] at h9; cases h9.1)]
                 have hqk := HQ.out
                 subst hqk
                 refine ⟨k + 1, A2, c2, by omega, rfl, by go_num, ?_⟩
                 rw [hh1, HN2.out]
                 exact hnow
       · obtain rfl : k = M := by omega
         have hq63 : ¬ ((k : Int) < (l.length : Int) ∧ k < 65536) := by have := HM.out; omega
         have HWS := Lib.hid hws
         clear k0 k1 k2 k3 f1 f2 f3 hl1 hbb hws
         obtain ⟨q, hq⟩ : ∃ q : Int, q = (k : Int) := ⟨_, rfl⟩
         rw [← hq]
         have hkl : ¬ q < (l.length : Int) ∨ ¬ q < 65536 := by omega
         clear hq hq63 hk hM1 hM2 hlt hgk
         by_cases hk6 : q < 65536
         · have hk7 : ¬ q < (l.length : Int) := by omega
           clear hkl
           go_wp2_with fail
           go_meet
           exact ⟨_, _, HWS.out⟩
         · clear hkl
           go_wp2_with fail
           all_goals go_meet
           all_goals exact ⟨_, _, HWS.out⟩
    case rest =>
      clear hws
      obtain ⟨A2, c2, hws⟩ := hcut
      have hkl2 : (rmany nx (room - rd.length) seq h l M).length ≤ 66536 := by
        have h9 := rmany_len nx (room - rd.length) seq h l M
        rw [HN.out] at h9
        omega
      have HPOST : Hid (rmany nx (room - rd.length) seq h l M = rmany nx (room - rd.length) seq h l (min l.length 65536)) := Lib.hid (by rw [HM.out])
      generalize rmany nx (room - rd.length) seq h l M = hh at *
      obtain ⟨s0, hs0⟩ : ∃ s0 : RS, s0 = ⟨nx, rd, hh⟩ := ⟨_, rfl⟩
      have HKL := Lib.hid hkl2
      have HS0 := Lib.hid hs0
      clear hkl2 hM1 hM2
      go_wp2_with fail
      go_loopg [11] (hh.length) (fun gk nn wr => ∃ (k : Nat) (v : Value), gk = (s0.it k).h.length ∧ nn = .int .i64 (k : Int) ∧ (s0.it k).h.length + k = hh.length ∧ (s0.it k).rd.length = rd.length + k ∧ (∀ j, j < k → 0 ≤ (s0.it j).at_) ∧ 0 ≤ (s0.it k).nx ∧ (s0.it k).nx < 4294967296 ∧ WP w wr b1 b2 room (s0.it k).nx (s0.it k).rd v (s0.it k).h)
      case atStart => exact ⟨0, _, by rw [hs0]; rfl, rfl, by rw [hs0]; rfl, by rw [hs0]; rfl, fun j hj => absurd hj (Nat.not_lt_zero _), by rw [hs0]; exact HNX.out.1, by rw [hs0]; exact HNX.out.2, by rw [hs0]; exact hws⟩
      case round =>
        clear hws hs0
        obtain ⟨k, v, hgk, rfl, hlk, hrk, hall, hn0, hn1, hws⟩ := hrel
        have HALL := Lib.hid hall
        have HN01 := Lib.hid (show 0 ≤ (s0.it k).nx ∧ (s0.it k).nx < 4294967296 from ⟨hn0, hn1⟩)
        have hstep : s0.it (k + 1) = (s0.it k).step := rfl
        have HSTEP := Lib.hid hstep
        have HSI : ∃ s, s0.it k = s := ⟨_, rfl⟩
        clear hall hn0 hn1 hstep
        obtain ⟨s, hsi⟩ := HSI
        rw [hsi] at HSTEP HN01 hgk hlk hrk hws
        have HSI := Lib.hid hsi
        clear hsi
        obtain ⟨nx', rd', h'⟩ := s
        simp only at hgk hlk hrk hws
        obtain ⟨A', cap', rfl, hcap, hcap2, -, hcells⟩ := hws.own.form
        have hrd9 : rd'.length + 1 ≤ 9223372036854775807 := by have := HKL.out; omega
        obtain ⟨N3, hN3⟩ : ∃ N3, h'.length = N3 := ⟨_, rfl⟩
        rw [hN3] at hgk hlk hws hcap
        have HN3 := Lib.hid hN3
        have HLK := Lib.hid hlk
        have HRK := Lib.hid hrk
        have HRD9 := Lib.hid hrd9
        have HCC := Lib.hid hcells
        have HC2 := Lib.hid hcap2
        clear hN3 hlk hrk hrd9 hcells hcap2
        obtain ⟨R, hR⟩ : ∃ R, R = fndI nx' h' 0 := ⟨_, rfl⟩
        have HR := Lib.hid hR
        obtain ⟨k0, k1, k2, k3, f1, f2, f3, hl1, hbb⟩ := hws.rules
        have HWS := Lib.hid hws
        have hN36 : N3 ≤ 1000000 := by have := HKL.out; have := HLK.out; omega
        clear hR hws
        by_cases hfd : R < 0
        · go_upto_region 12 with (go_at_call 23; refine (rfind_any w.heap.size room nx' nx' rd' (.slice A' N3 cap') h' _ HWS.out.own (by rw [HN3.out]; exact hN36)).mono ?_; rw [← HR.out]; rintro e' wb ⟨rfl, hfa⟩)
          have hw2 := HWS.out.frm_ hfa
          clear hfa k0 k1 k2 k3 f1 f2 f3 hl1
          obtain ⟨k0, k1, k2, k3, f1, f2, f3, hl1, -⟩ := hw2.rules
          obtain ⟨d0, d1, d2, d3, g0, g1, g2, g3⟩ := hw2.resrules
          have HW2 := Lib.hid hw2
          clear hw2
          go_wp2_with fail
          obtain ⟨hF, hO, hB⟩ := HW2.out.fin _ rfl
          generalize (((wb.setCell ⟨b2, 0, none⟩ (.int .i64 room)).setCell ⟨b2, 1, none⟩ (.int .u32 nx')).setCell ⟨b2, 2, none⟩ (.string ⟨rd'.toArray⟩)).setCell ⟨b2, 3, none⟩ (.slice A' N3 cap') = wz at *
          have z0 : wz.cell? ⟨b2, 0, none⟩ = some (.int .i64 room) := hB.cell 0
          have z1 : wz.cell? ⟨b2, 1, none⟩ = some (.int .u32 nx') := hB.cell 1
          have z2 : wz.cell? ⟨b2, 2, none⟩ = some (.string ⟨rd'.toArray⟩) := hB.cell 2
          have z3 : wz.cell? ⟨b2, 3, none⟩ = some (.slice A' N3 cap') := hB.cell 3
          refine bodyPost_ret (v := .tuple #[.agg #[.int .i64 room, .int .u32 nx', .string ⟨rd'.toArray⟩, .slice A' N3 cap'], .int .i64 (k : Nat)]) (by simp [results, Try.results17, go_sem, z0, z1, z2, z3]) rfl ?_
          refine ⟨s0, k, .slice A' N3 cap', by rw [HS0.out, HPOST.out], ?_, HALL.out, ?_, ?_, hF⟩
          · rw [HSI.out]
            show fndI nx' h' 0 < 0
            rw [← HR.out]
            exact hfd
          · rw [HSI.out]
          · rw [HSI.out]
            exact hO
        · have hRn : 0 ≤ R := by omega
          obtain ⟨i, c, hi1, hi2⟩ := fndI_at nx' h' 0 (by omega) (by rw [← HR.out]; exact hRn)
          have hiR : R = (i : Int) := by rw [HR.out, hi1]; omega
          have hiN : i < N3 := by rw [← HN3.out]; exact (List.getElem?_eq_some_iff.1 hi2).1
          have hne : h' ≠ [] := fun h0 => by rw [h0] at hi2; simp at hi2
          obtain ⟨g9, rfl, hg9, hc9⟩ := HCC.out hne
          have hstep : (RS.mk nx' rd' h').step = ⟨(nx' + 1) % 4294967296, rd' ++ [c], h'.take i ++ h'.drop (i + 1)⟩ := RS.step_at (i := i) (c := c) (by show fndI nx' h' 0 = _; rw [← HR.out]; exact hiR) hi2
          have HST2 := Lib.hid hstep
          have HI2 := Lib.hid hi2
          have HI1 := Lib.hid hi1
          have HC9 := Lib.hid hc9
          subst hiR
          clear hstep hi2 hi1 hc9 hne hRn hfd
          go_upto_region 12 with (go_at_call 23; refine (rfind_any w.heap.size room nx' nx' rd' (.slice (some ⟨g9, 0, none⟩) N3 cap') h' _ HWS.out.own (by rw [HN3.out]; exact hN36)).mono ?_; rw [← HR.out]; rintro e' wb ⟨rfl, hfa⟩)
          refine wp_world (fun wq => WP w wq b1 b2 room nx' rd' (.slice (some ⟨g9, 0, none⟩) N3 cap') h' ∧ ∀ (j : Nat) (x : Int × UInt8), h'[j]? = some x → wq.cell? ⟨g9, j * 2, none⟩ = some (.int .u32 x.1) ∧ wq.cell? ⟨g9, j * 2 + 1, none⟩ = some (.int .u8 (x.2.toNat : Int)))
            ⟨HWS.out.frm_ hfa, fun j x hx => ⟨(hfa.cell (p := ⟨g9, j * 2, none⟩) hg9 (by simp)).trans (HC9.out j x hx).1, (hfa.cell (p := ⟨g9, j * 2 + 1, none⟩) hg9 (by simp)).trans (HC9.out j x hx).2⟩⟩ ?_
          clear hfa k0 k1 k2 k3 f1 f2 f3 hl1 hg9
          rintro wq ⟨hws, hcq⟩
          have y1 := (hcq i _ HI2.out).2
          have HCQ := Lib.hid hcq
          clear hcq
          go_upto_region 14 with fail
          go_cut [] (fun wy => WP w wy b1 b2 room nx' (rd' ++ [c]) (.slice (some ⟨g9, 0, none⟩) N3 cap') h')
          case first =>
            obtain ⟨k0, k1, k2, k3, f1, f2, f3, hl1, -⟩ := hws.rules
            have HW := Lib.hid hws
            have hrd := HRD9.out
            have hcv := run_convert_bytes_back (P := Try.prog) (wq.alloc (.cells #[.int .u8 (c.toNat : Int)] 5)).drew 31 9 5 ⟨wq.heap.size, 0, none⟩ 1 [c] Try.underlying31 Try.underlying5 Try.underlying9 (fun j hj => by
              have h0 : j = 0 := by simp at hj; omega
              subst h0
              rw [Addr.add_lit, Nat.zero_add]
              exact ((Blk.new_at (w := wq) (g := wq.heap.size) rfl 5 #[.int .u8 (c.toNat : Int)]).drew).cell 0)
            simp only [List.length_singleton] at hcv
            clear hws
            go_region_with fail
            all_goals
              go_wp2_with fail
              go_meet
              rw [show (⟨rd'.toArray⟩ : ByteArray) ++ ⟨#[c]⟩ = ⟨(rd' ++ [c]).toArray⟩ from ba_append rd' [c]]
              exact HW.out.cell2.frm_ ((Frm.refl [] _).alloc _).drew
          case rest =>
            clear hws y1 HCQ
            have hws := hcut
            have hfull := World.ownsRow.cells hws.own (g := g9) rfl
            have hbase : w.heap.size ≤ wc.heap.size := hws.frm.size
            have hl2 : (ncells (h'.take i)).length = i * 2 := by rw [ncells_length, List.length_take, HN3.out]; omega
            have hnews : ∀ j u, (ncells (h'.take i))[j]? = some u → wc.cell? ((⟨g9, 0, none⟩ : Addr).add j) = some u := fun j u hu => by
              have hj : j < i * 2 := by have := (List.getElem?_eq_some_iff.1 hu).1; omega
              rw [← ncells_take, List.getElem?_take, if_pos hj] at hu
              exact hfull j u hu
            have HFULL := Lib.hid hfull
            have HL2 := Lib.hid hl2
            have HNEWS := Lib.hid hnews
            obtain ⟨k0, k1, k2, k3, f1, f2, f3, hl1, -⟩ := hws.rules
            have hic : i ≤ cap' := by omega
            have hc63 : cap' ≤ 9223372036854775807 := HC2.out
            have HW := Lib.hid hws
            clear hfull hl2 hnews hws hcut
            go_upto_region 16 with fail
            go_cut [13] (fun v13 wy => ∃ A4 c4, v13 = .slice A4 i c4 ∧ WP w wy b1 b2 room nx' (rd' ++ [c]) (.slice (some ⟨g9, 0, none⟩) N3 cap') h' ∧ Own w.heap.size wy (.slice A4 i c4) (h'.take i))
            case first =>
              go_wp2_with ((at_builtin; go_must (refine wpList_append_own2 rfl _ _ 37 rfl w.heap.size 59 (.agg #[.int .u32 0, .int .u8 0]) 2 8 Try.underlying37 info_b12 rfl (by decide) (.slice none 0 0) 0 [] rfl ⟨rfl, .inl ⟨rfl, rfl⟩⟩ ⟨g9, 0, none⟩ i cap' (ncells (h'.take i)) rfl HL2.out HNEWS.out (ncells_one _) (by unfold maxLen; omega) (by omega) hbase ?_); intro A4 c4 w1 hown1 hgrow1 hblk1))
              go_meet
              simp only [Nat.zero_add, List.nil_append] at hown1
              have hf1 := Frm.grown (ex := []) (Frm.refl _ _) hgrow1 (by simp [Value.ownBlock])
              refine ⟨A4, c4, by simp, HW.out.frm_ hf1, ?_⟩
              unfold Own
              rw [List.length_take, HN3.out, Nat.min_eq_left (by omega)]
              exact hown1
            case rest =>
              clear k0 k1 k2 k3 f1 f2 f3 hl1 HW HNEWS HL2 HFULL hbase
              obtain ⟨A4, c4, rfl, hws, ho4⟩ := hcut
              have hfull := World.ownsRow.cells hws.own (g := g9) rfl
              have hbase : w.heap.size ≤ wc.heap.size := hws.frm.size
              have hl2 : (ncells (h'.drop (i + 1))).length = (N3 - (i + 1)) * 2 := by rw [ncells_length, List.length_drop, HN3.out]
              have hnews : ∀ j u, (ncells (h'.drop (i + 1)))[j]? = some u → wc.cell? ((⟨g9, (i + 1) * 2, none⟩ : Addr).add j) = some u := fun j u hu => by
                rw [← ncells_drop, List.getElem?_drop] at hu
                have h9 := hfull _ u hu
                rw [Addr.add_lit] at h9 ⊢
                rw [Nat.zero_add] at h9
                exact h9
              have ho5 : wc.ownsRow w.heap.size 59 2 (.slice A4 i c4) i (ncells (h'.take i)) := by
                unfold Own at ho4
                rwa [List.length_take, HN3.out, Nat.min_eq_left (by omega)] at ho4
              have hne1 : (Value.slice A4 i c4).ownBlock ≠ some b1 := own_ne ho5 hws.box (by decide)
              have HFULL := Lib.hid hfull
              have HL2 := Lib.hid hl2
              have HNEWS := Lib.hid hnews
              have HO4 := Lib.hid ho4
              have HO5 := Lib.hid ho5
              have HNE1 := Lib.hid hne1
              obtain ⟨k0, k1, k2, k3, f1, f2, f3, hl1, -⟩ := hws.rules
              have HW := Lib.hid hws
              have hN363 : i + (N3 - (i + 1)) ≤ maxLen := by unfold maxLen; omega
              have HN363 := Lib.hid hN363
              clear hfull hl2 hnews hws ho4 ho5 hne1 hN363
              go_upto_region 17 with fail
              go_cut [] (fun wy => ∃ A5 c5, WP w wy b1 b2 room nx' (rd' ++ [c]) (.slice A5 (i + (N3 - (i + 1))) c5) (h'.take i ++ h'.drop (i + 1)))
              case first =>
                have hlen5 := Lib.hid (show (h'.take i ++ h'.drop (i + 1)).length = i + (N3 - (i + 1)) by rw [List.length_append, List.length_take, List.length_drop, HN3.out, Nat.min_eq_left (by omega)])
                by_cases hct : cap' = i + 1
                · subst hct
                  obtain rfl : N3 = i + 1 := by omega
                  have hl0 : h'.drop (i + 1) = [] := List.drop_of_length_le (by rw [HN3.out]; omega)
                  have HL0 := Lib.hid hl0
                  clear hl0
                  go_wp2_with ((at_builtin; go_must (refine wpList_append_own2 rfl _ _ 37 rfl w.heap.size 59 (.agg #[.int .u32 0, .int .u8 0]) 2 8 Try.underlying37 info_b12 rfl (by decide) (.slice A4 i c4) i (ncells (h'.take i)) rfl HO5.out ⟨g9, 0, none⟩ 0 0 [] rfl rfl (fun j u hu => by simp at hu) (by simp) (by unfold maxLen; omega) (by omega) hbase ?_); intro A5 c5 w1 hown1 hgrow1 hblk1; have c31 : w1.cell? ⟨b1, 3, none⟩ = some (.slice (some ⟨g9, 0, none⟩) (i + 1) (i + 1)) := (HW.out.box.grown hgrow1 (Ne.symm HNE1.out)).cell 3; have f31 := (HW.out.box.grown hgrow1 (Ne.symm HNE1.out)).frozen 3))
                  go_meet
                  refine ⟨A5, c5, ?_⟩
                  have e0 : i + (i + 1 - (i + 1)) = i + 0 := by omega
                  rw [e0]
                  exact HW.out.lay HO4.out (by rw [ncells_append, HL0.out]; exact hown1) (by rw [hlen5.out, e0]) hgrow1
                · go_wp2_with ((at_builtin; go_must (refine wpList_append_own2 rfl _ _ 37 rfl w.heap.size 59 (.agg #[.int .u32 0, .int .u8 0]) 2 8 Try.underlying37 info_b12 rfl (by decide) (.slice A4 i c4) i (ncells (h'.take i)) rfl HO5.out ⟨g9, (i + 1) * 2, none⟩ (N3 - (i + 1)) (cap' - (i + 1)) (ncells (h'.drop (i + 1))) rfl HL2.out HNEWS.out (ncells_one _) HN363.out (by omega) hbase ?_); intro A5 c5 w1 hown1 hgrow1 hblk1; have c31 : w1.cell? ⟨b1, 3, none⟩ = some (.slice (some ⟨g9, 0, none⟩) N3 cap') := (HW.out.box.grown hgrow1 (Ne.symm HNE1.out)).cell 3; have f31 := (HW.out.box.grown hgrow1 (Ne.symm HNE1.out)).frozen 3))
                  go_meet
                  exact ⟨A5, c5, HW.out.lay HO4.out (by rw [ncells_append]; exact hown1) hlen5.out hgrow1⟩
              case rest =>
                clear k0 k1 k2 k3 f1 f2 f3 hl1 HW HNEWS HL2 HFULL hbase HO4 HO5 HNE1
                obtain ⟨A5, c5, hws⟩ := hcut
                obtain ⟨k0, k1, k2, k3, f1, f2, f3, hl1, -⟩ := hws.rules
                have HW := Lib.hid hws
                clear hws
                have hlen5 := Lib.hid (show (h'.take i ++ h'.drop (i + 1)).length = i + (N3 - (i + 1)) by rw [List.length_append, List.length_take, List.length_drop, HN3.out, Nat.min_eq_left (by omega)])
                have hk9 : k ≤ 66536 := by have := HLK.out; have := HKL.out; omega
                go_wp2_with fail
                go_roundg (N3 - 1)
                case measure => omega
                case rel =>
                  have e9 : s0.it (k + 1) = ⟨(nx' + 1) % 4294967296, rd' ++ [c], h'.take i ++ h'.drop (i + 1)⟩ := by rw [HSTEP.out, HST2.out]
                  have hlk := HLK.out
                  have hrk := HRK.out
                  refine ⟨k + 1, .slice A5 (i + (N3 - (i + 1))) c5, ?_, by go_num, ?_, ?_, ?_, ?_, ?_, ?_⟩
                  · rw [e9]; show _ = (h'.take i ++ h'.drop (i + 1)).length; rw [hlen5.out]; omega
                  · rw [e9]; show (h'.take i ++ h'.drop (i + 1)).length + _ = _; rw [hlen5.out]; omega
                  · rw [e9]; show (rd' ++ [c]).length = _; rw [List.length_append, hrk]; rfl
                  · intro j hj
                    rcases Nat.lt_or_ge j k with h1 | h1
                    · exact HALL.out j h1
                    · have : j = k := by omega
                      subst this
                      rw [HSI.out]
                      show 0 ≤ fndI nx' h' 0
                      rw [← HR.out]
                      omega
                  · rw [e9]; show 0 ≤ (nx' + 1) % 4294967296; omega
                  · rw [e9]; show (nx' + 1) % 4294967296 < 4294967296; omega
                  · rw [e9]; exact HW.out.cell1
end Go.Proofs.Ytjfamjaebehieaa

