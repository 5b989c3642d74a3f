/- rbuf.Put walked: what came is put. -/
import Derived.Test.YtpmlojgngcllfaaRbufPutSpec
import Derived.Test.YtpmlojgngcllfaaMemRow
import Derived.Deep.CutBlock
namespace Go.Proofs.Ytpmlojgngcllfaa
open Go.RowKit Go

theorem ret_nat {a b : Nat} (h : a = b) : Ending.returned (.int .i64 (a : Int)) = .returned (.int .i64 (b : Int)) := by rw [h]

/-- The blocks that a call may write. -/
def fp (g gd gh : Nat) (rv : Value) : List Nat := g :: gd :: gh :: rv.ownBlock.toList

def RbPut (w : World) (base g gd gh : Nat) (rv : Value) (r : RB) (seq : Int) (l : List UInt8) (e : Ending) (w' : World) : Prop :=
  e = .returned (.int .i64 (r.putN seq l : Nat)) ∧ ∃ rv', RbIn w' base g gd gh rv' (r.put seq l) ∧ Frm (fp g gd gh rv) w w' ∧ (rv'.ownBlock = rv.ownBlock ∨ ∃ k, rv'.ownBlock = some k ∧ w.heap.size ≤ k)

def Mid (w wr : World) (base g gd gh : Nat) (rv : Value) (r : RB) : Prop := RbIn wr base g gd gh rv r ∧ Frm (fp g gd gh rv) w wr

theorem RbIn.hascell {w : World} {base g gd gh : Nat} {rv : Value} {r : RB} (h : RbIn w base g gd gh rv r) {k : Nat} (hk : k < r.has.length) : w.cell? ⟨gh, k, none⟩ = some (.bool (r.has.getD k false)) := by
  rw [h.has.cell k]
  simp [bools, List.getElem?_eq_getElem hk]
theorem RbIn.datcell {w : World} {base g gd gh : Nat} {rv : Value} {r : RB} (h : RbIn w base g gd gh rv r) {k : Nat} (hk : k < r.data.length) : w.cell? ⟨gd, k, none⟩ = some (.int .u8 ((r.data.getD k 0).toNat : Int)) := by
  rw [h.dat.cell k]
  simp [bytes, byteV, List.getElem?_eq_getElem hk]

theorem ba_get (l : List UInt8) (k : Nat) (hk2 : k < l.length) : (⟨l.toArray⟩ : ByteArray)[k]'(by rw [ba_size]; exact hk2) = l.getD k 0 := by
  rw [ByteArray.getElem_eq_getElem_data]
  simp [List.getElem?_eq_getElem hk2]
theorem map_set {α β : Type} (f : α → β) (l : List α) (k : Nat) (x : α) : (l.map f).toArray.setIfInBounds k (f x) = ((l.set k x).map f).toArray := by
  simp [List.map_set]

theorem own_set {w : World} {base : Nat} {e : TypeId} {size n : Nat} {v : Value} {xs : List Value} (h : w.ownsRow base e size v n xs) {p : Addr} (hp : v.ownBlock ≠ some p.block) (u : Value) : (w.setCell p u).ownsRow base e size v n xs :=
  own_frm (ex := [p.block]) h ((Frm.refl _ _).setCell (.inl (by simp)) _) (fun k hk hm => by
    have : k = p.block := by simpa using hm
    rw [this] at hk
    exact hp hk)

theorem mem_fp1 (g gd gh : Nat) (rv : Value) : g ∈ fp g gd gh rv ∧ gd ∈ fp g gd gh rv ∧ gh ∈ fp g gd gh rv := by simp [fp]

theorem RbIn.putcell {w wr : World} {base g gd gh : Nat} {rv : Value} {q : RB} (h : Mid w wr base g gd gh rv q) (K : Nat) (c : UInt8) :
    Mid w ((((wr.setCell ⟨gd, K, none⟩ (.int .u8 (c.toNat : Int))).setCell ⟨gh, K, none⟩ (.bool true)).setCell ⟨g, 5, none⟩ (.int .i64 (q.held + 1))).drew) base g gd gh rv { q with data := q.data.set K c, has := q.has.set K true, held := q.held + 1 } := by
  obtain ⟨h, hf⟩ := h
  have ne1 : g ≠ gd := h.blk.ne_ h.dat (by decide)
  have ne2 : g ≠ gh := h.blk.ne_ h.has (by decide)
  have ne3 : gd ≠ gh := h.dat.ne_ h.has (by decide)
  obtain ⟨m1, m2, m3⟩ := mem_fp1 g gd gh rv
  refine ⟨⟨?_, ?_, ?_, ?_, h.ne⟩, ((((hf.setCell (.inl m2) _).setCell (.inl m3) _).setCell (.inl m1) _).drew)⟩
  · exact ((((h.blk.far ne1 _).far ne2 _).set_to 5 _ rfl).drew)
  · exact (((((h.dat.set_to K _ (map_set byteV q.data K c))).far ne3 _).far ne1.symm _).drew)
  · exact (((((h.has.far ne3.symm _).set_to K _ (map_set Value.bool q.has K true))).far ne2.symm _).drew)
  · exact ((own_set (own_set (own_set h.own h.ne _) (own_ne h.own h.has (by decide)) _) (own_ne h.own h.blk (by decide)) _).drew)

theorem has_cut (l : List Bool) (n R : Nat) (hl : l.length = R) : ((bools (l.drop n ++ l.drop (R - n))).toList.take (R - n) ++ List.replicate n (Value.bool false)).toArray = bools (l.drop n ++ List.replicate n false) := by
  have h1 : R - n = ((l.drop n).map Value.bool).length := by rw [List.length_map, List.length_drop, hl]
  unfold bools
  rw [List.map_append, List.map_append, List.map_replicate]
  show (List.take (R - n) ((l.drop n).map Value.bool ++ (l.drop (R - n)).map Value.bool) ++ _).toArray = _
  rw [List.take_append_of_le_length (by omega), List.take_of_length_le (by omega)]
def Stage (w wr : World) (base g gd gh : Nat) (rv : Value) (r : RB) : Prop :=
  ∃ rv', RbIn wr base g gd gh rv' r ∧ Frm (fp g gd gh rv) w wr ∧ (rv'.ownBlock = rv.ownBlock ∨ ∃ k, rv'.ownBlock = some k ∧ w.heap.size ≤ k)

theorem stage_ready {w wo w1 : World} {base g gd gh : Nat} {rv A0v : Value} {q : RB} {N : Nat} {A1 : Option Addr} {c1 : Nat} (h : Mid w wo base g gd gh rv q) (hrv : rv = A0v) (hN : N ≤ q.data.length)
    (hown1 : w1.ownsRow base 5 1 (.slice A1 (q.ready.length + N) c1) (q.ready.length + N) (q.ready.map byteV ++ (q.data.take N).map byteV))
    (hgrow1 : wo.drew.grownBy w1 A0v.ownBlock) (hblk1 : (Value.slice A1 (q.ready.length + N) c1).ownBlock = A0v.ownBlock ∨ (Value.slice A1 (q.ready.length + N) c1).ownBlock = some wo.drew.heap.size) :
    Stage w (w1.setCell ⟨g, 2, none⟩ (.slice A1 (q.ready.length + N) c1)) base g gd gh rv { q with ready := q.ready ++ q.data.take N } := by
  subst hrv
  obtain ⟨h, hf⟩ := h
  have hg : some g ≠ rv.ownBlock := (own_ne h.own h.blk (by decide)).symm
  have hgh : some gh ≠ rv.ownBlock := (own_ne h.own h.has (by decide)).symm
  have b1 := h.blk.drew.grown hgrow1 hg
  have b2 := h.dat.drew.grown hgrow1 h.ne.symm
  have b3 := h.has.drew.grown hgrow1 hgh
  have ne1 : g ≠ gd := h.blk.ne_ h.dat (by decide)
  have ne2 : g ≠ gh := h.blk.ne_ h.has (by decide)
  have hlen : q.ready.length + N = (q.ready ++ q.data.take N).length := by rw [List.length_append, List.length_take]; omega
  refine ⟨.slice A1 (q.ready.length + N) c1, ⟨b1.set_to 2 _ rfl, b2.far ne1.symm _, b3.far ne2.symm _, ?_, ?_⟩, ?_, ?_⟩
  · have h2 := own_set hown1 (p := ⟨g, 2, none⟩) (own_ne hown1 b1 (by decide)) (.slice A1 (q.ready.length + N) c1)
    rw [← List.map_append] at h2
    show World.ownsRow _ base _ 1 _ (q.ready ++ q.data.take N).length _
    rw [← hlen]
    exact h2
  · rcases hblk1 with hb | hb
    · rw [hb]; exact h.ne
    · rw [hb]
      intro he
      have : wo.heap.size = gd := by simpa using he
      have := h.dat.lt
      omega
  · refine (hf.drew.grown hgrow1 fun k hk => ?_).setCell (.inl (mem_fp1 g gd gh rv).1) _
    left
    simp [fp, hk]
  · rcases hblk1 with hb | hb
    · exact .inl hb
    · exact .inr ⟨_, hb, hf.size⟩
theorem stage_data {w wo w1 : World} {base g gd gh : Nat} {rv : Value} {q : RB} {l : List UInt8} {cs : Array Value} (h : Stage w wo base g gd gh rv q) (hb : Blk w1 gd 5 cs) (hf1 : Frm [gd] wo w1) (hcs : cs = bytes l) :
    Stage w w1 base g gd gh rv { q with data := l } := by
  obtain ⟨rv', h, hf, ho⟩ := h
  subst hcs
  have ne1 : g ≠ gd := h.blk.ne_ h.dat (by decide)
  have ne3 : gh ≠ gd := h.has.ne_ h.dat (by decide)
  refine ⟨rv', ⟨h.blk.frm hf1 (by simpa using ne1), hb, h.has.frm hf1 (by simpa using ne3), own_frm h.own hf1 (fun k hk hm => h.ne ?_), h.ne⟩, hf.next hf1 (fun i hi => ?_), ho⟩
  · have : k = gd := by simpa using hm
    rw [hk, this]
  · have : i = gd := by simpa using hi
    subst this
    exact .inl (mem_fp1 g i gh rv).2.1
theorem stage_has {w wo w1 : World} {base g gd gh : Nat} {rv : Value} {q : RB} {l : List Bool} {cs : Array Value} (h : Stage w wo base g gd gh rv q) (hb : Blk w1 gh 4 cs) (hf1 : Frm [gh] wo w1) (hcs : cs = bools l) :
    Stage w w1 base g gd gh rv { q with has := l } := by
  obtain ⟨rv', h, hf, ho⟩ := h
  subst hcs
  have ne1 : g ≠ gh := h.blk.ne_ h.has (by decide)
  have ne3 : gd ≠ gh := h.dat.ne_ h.has (by decide)
  refine ⟨rv', ⟨h.blk.frm hf1 (by simpa using ne1), h.dat.frm hf1 (by simpa using ne3), hb, own_frm h.own hf1 (fun k hk hm => ?_), h.ne⟩, hf.next hf1 (fun i hi => ?_), ho⟩
  · have : k = gh := by simpa using hm
    rw [this] at hk
    exact own_ne h.own h.has (by decide) hk
  · have : i = gh := by simpa using hi
    subst this
    exact .inl (mem_fp1 g gd i rv).2.2
theorem stage_end {w wo : World} {base g gd gh : Nat} {rv : Value} {q : RB} (h : Stage w wo base g gd gh rv q) (held next : Int) :
    Stage w ((wo.setCell ⟨g, 5, none⟩ (.int .i64 held)).setCell ⟨g, 1, none⟩ (.int .u32 next)) base g gd gh rv { q with held := held, next := next } := by
  obtain ⟨rv', h, hf, ho⟩ := h
  have ne1 : g ≠ gd := h.blk.ne_ h.dat (by decide)
  have ne2 : g ≠ gh := h.blk.ne_ h.has (by decide)
  obtain ⟨m1, m2, m3⟩ := mem_fp1 g gd gh rv
  have e1 := own_ne h.own h.blk (by decide)
  exact ⟨rv', ⟨(h.blk.set_ 5 _).set_to 1 _ rfl, (h.dat.far ne1.symm _).far ne1.symm _, (h.has.far ne2.symm _).far ne2.symm _, own_set (own_set h.own e1 _) e1 _, h.ne⟩, (hf.setCell (.inl m1) _).setCell (.inl m1) _, ho⟩

set_option maxHeartbeats 2000000 in
set_option maxRecDepth 100000 in
theorem rput_in {base g gd gh : Nat} {rv : Value} {r : RB} (seq : Int) (l : List UInt8) (w : World) (hlm : l.length ≤ maxLen) (ho : r.Ok) (hbase : base ≤ w.heap.size) (h : RbIn w base g gd gh rv r) :
    Calls Try.prog 67 #[.pointer (some ⟨g, 0, none⟩), .int .u32 seq, .string ⟨l.toArray⟩] w (RbPut w base g gd gh rv r seq l) := by
  unfold maxLen at hlm
  have hmin : (if (65536 : Int) < (l.length : Int) then 65536 else (l.length : Int)) = ((min l.length 65536 : Nat) : Int) := by split <;> omega
  obtain ⟨m, hm⟩ : ∃ m, min l.length 65536 = m := ⟨_, rfl⟩
  have hm1 : m ≤ l.length := by omega
  have hm2 : m ≤ 65536 := by omega
  rw [hm] at hmin
  have HM := Lib.hid hm
  clear hm
  have hWr : r.win ≤ r.room := by unfold RB.win; omega
  have hroom := ho.r2
  obtain ⟨W, hW⟩ : ∃ W, r.win = W := ⟨_, rfl⟩
  have HW := Lib.hid hW
  have hWr2 : W ≤ r.room := by omega
  go_enter Try.func67, Try.ntmps67
  go_wp2_with (go_at_call 59; refine (rnone_in _ ho h).mono ?_; rintro e w' ⟨rfl, rfl⟩)
  refine (rwindow_in _ ho h).mono ?_
  rintro e w1 ⟨rfl, hd⟩
  rw [hW]
  have hmid0 : Mid w w1 base g gd gh rv (r.many W seq l 0) := ⟨h.drw hd, hd.next (Frm.refl _ _)⟩
  clear hW hd hWr
  go_wp2_with fail
  go_loopw [18] (fun i wr => ∃ k : Nat, k ≤ m ∧ i = .int .i64 (k : Int) ∧ Mid w wr base g gd gh rv (r.many W seq l k)) (fun i _ => m - (intOf i).toNat)
  case atStart => exact ⟨0, Nat.zero_le _, rfl, hmid0⟩
  case round =>
    clear hmid0
    obtain ⟨k, hk, rfl, hin, hfr⟩ := hrel
    have hokq := RB.Ok.many ho hWr2 seq l k
    obtain ⟨hqr, hqn, -⟩ := RB.many_room r W seq l k
    by_cases hlt : k < m
    · have hkl : k < l.length := by omega
      have ne1 : g ≠ gd := hin.blk.ne_ hin.dat (by decide)
      have ne2 : g ≠ gh := hin.blk.ne_ hin.has (by decide)
      have ne3 : gd ≠ gh := hin.dat.ne_ hin.has (by decide)
      have ne1' := ne1.symm
      have ne2' := ne2.symm
      have ne3' := ne3.symm
      have hstep : r.many W seq l (k + 1) = (r.many W seq l k).one W ((seq + k) % 4294967296) (l.getD k 0) := rfl
      have HSTEP := Lib.hid hstep
      clear hstep
      generalize r.many W seq l k = q at *
      have hc1 : wr.cell? ⟨g, 1, none⟩ = some (.int .u32 q.next) := hin.blk.cell 1
      have hc3 : wr.cell? ⟨g, 3, none⟩ = some (.slice (some ⟨gd, 0, none⟩) q.room q.room) := hin.blk.cell 3
      have hc4 : wr.cell? ⟨g, 4, none⟩ = some (.slice (some ⟨gh, 0, none⟩) q.room q.room) := hin.blk.cell 4
      have hc5 : wr.cell? ⟨g, 5, none⟩ = some (.int .i64 q.held) := hin.blk.cell 5
      have f5 := hin.blk.frozen 5
      have hq2 : q.room ≤ 2048 := hokq.r2
      have hWq : W ≤ q.room := by omega
      have HQ := Lib.hid hqr
      clear hqr hqn
      obtain ⟨x0, x1⟩ := ahd_bd q.next ((seq + k) % 4294967296)
      by_cases hin1 : ahd q.next ((seq + k) % 4294967296) < W
      · obtain ⟨K, hK⟩ : ∃ K : Nat, ahd q.next ((seq + k) % 4294967296) = (K : Int) := ⟨(ahd q.next ((seq + k) % 4294967296)).toNat, by omega⟩
        rw [hK] at hin1
        have hKW : K < W := by omega
        have hKi : (0 : Int) ≤ (K : Int) := by omega
        have hKr : K < q.room := by omega
        have hKr2 : (K : Int) < (q.room : Int) := by omega
        have hch := hin.hascell (k := K) (by rw [hokq.hl]; exact hKr)
        have hcd := hin.datcell (k := K) (by rw [hokq.dl]; exact hKr)
        have fd := hin.dat.frozen K
        have fh := hin.has.frozen K
        have HK := Lib.hid hK
        clear hK x0 x1
        rcases hb : q.has.getD K false with _ | _
        · have htk : q.takes W ((seq + k) % 4294967296) := ⟨by rw [HK.out]; exact hin1, by rw [HK.out]; exact hb⟩
          have hone : q.one W ((seq + k) % 4294967296) (l.getD k 0) = { q with data := q.data.set K (l.getD k 0), has := q.has.set K true, held := q.held + 1 } := by
            unfold RB.one
            rw [if_pos htk, HK.out]
            rfl
          have HONE := Lib.hid hone
          have HTK := Lib.hid htk
          rw [hb] at hch
          have hheld0 : 0 ≤ q.held := by rw [hokq.hc]; omega
          have hheld1 : q.held ≤ 2048 := by rw [hokq.hc]; have := List.count_le_length (a := true) (l := q.has); have := hokq.hl; omega
          clear hone htk hb
          go_wp2_with (go_at_call 57; refine (ahead_any _ _ _).mono ?_; rw [HK.out]; rintro e w' ⟨rfl, rfl⟩)
          go_region
          go_wp2_with fail
          rw [ba_get l k hkl]
          go_roundw
          case rel => exact ⟨k + 1, by omega, by go_num, by rw [HSTEP.out, HONE.out]; exact RbIn.putcell ⟨hin, hfr⟩ K (l.getD k 0)⟩
          case measure => simp [intOf]; omega
        · have hone : q.one W ((seq + k) % 4294967296) (l.getD k 0) = q := by
            unfold RB.one
            rw [if_neg]
            intro ht
            have := ht.2
            rw [HK.out, Int.toNat_natCast, hb] at this
            cases this
          have HONE := Lib.hid hone
          rw [hb] at hch
          clear hone hb
          go_wp2_with (go_at_call 57; refine (ahead_any _ _ _).mono ?_; rw [HK.out]; rintro e w' ⟨rfl, rfl⟩)
          go_roundw
          case rel => exact ⟨k + 1, by omega, by go_num, by rw [HSTEP.out, HONE.out]; exact hin, hfr⟩
          case measure => simp [intOf]; omega
      · have hone : q.one W ((seq + k) % 4294967296) (l.getD k 0) = q := by
          unfold RB.one
          rw [if_neg]
          exact fun ht => hin1 ht.1
        have HONE := Lib.hid hone
        clear hone
        go_wp2_with (go_at_call 57; refine (ahead_any _ _ _).mono ?_; rintro e w' ⟨rfl, rfl⟩)
        go_roundw
        case rel => exact ⟨k + 1, by omega, by go_num, by rw [HSTEP.out, HONE.out]; exact hin, hfr⟩
        case measure => simp [intOf]; omega
    · have hkm : k = m := by omega
      have hfil : r.many W seq l k = r.filled seq l := by unfold RB.filled; rw [HW.out, HM.out, hkm]
      have hputn : r.putN seq l = lead (r.filled seq l).has W := by unfold RB.putN; rw [HW.out]
      have hput : r.put seq l = (r.filled seq l).slide (r.putN seq l) := rfl
      rw [hfil] at hin hokq hqr hqn
      clear hfil hkm
      obtain ⟨le1, le2, -⟩ := lead_le (r.filled seq l).has W
      have hstop := lead_stop (r.filled seq l).has W
      have hget := lead_get (r.filled seq l).has W
      rw [← hputn] at le1 le2 hstop hget
      have HPUT := Lib.hid hput
      have hrdy := RB.filled_win r seq l
      rw [HW.out] at hrdy
      generalize hputN : r.putN seq l = N at *
      have HPUTN := Lib.hid hputN
      clear hputN
      generalize r.filled seq l = q at *
      clear hputn hput
      have HQR := Lib.hid hqr
      have HRDY := Lib.hid hrdy
      clear hqr hqn hrdy
      have hNi : (0 : Int) ≤ (N : Int) := by omega
      have hqroom : q.room ≤ 2048 := hokq.r2
      have hNr : N ≤ q.room := by have := hokq.hl; omega
      go_upto_block 2 with fail
      obtain ⟨wo, rfl⟩ : ∃ wo : World, wo = wr := ⟨_, rfl⟩
      go_cut [10] (fun n wx => n = .int .i64 (N : Int) ∧ wo = wx)
      case first =>
        have hc4 : wo.cell? ⟨g, 4, none⟩ = some (.slice (some ⟨gh, 0, none⟩) q.room q.room) := hin.blk.cell 4
        have hWq : W ≤ q.room := by have := HQR.out; omega
        go_wp2_with fail
        go_loop [10] (fun n => ∃ j : Nat, j ≤ N ∧ n = .int .i64 (j : Int)) (fun n => N - (intOf n).toNat)
        case atStart => exact ⟨0, Nat.zero_le _, rfl⟩
        case round =>
          obtain ⟨j, hj, rfl⟩ := hrel
          by_cases hjN : j < N
          · have hjW : j < W := by omega
            have hjroom : j < q.room := by omega
            have hjl : j < q.has.length := by rw [hokq.hl]; exact hjroom
            have hch := hin.hascell (k := j) hjl
            have hgj := hget j hjN
            rw [List.getD_eq_getElem?_getD, hgj] at hch
            have hch2 : wo.cell? ⟨gh, j, none⟩ = some (.bool true) := hch
            clear hch hgj hget hstop
            go_wp2_with fail
            go_round
            case rel => exact ⟨j + 1, by omega, by go_num⟩
            case measure => simp [intOf]; omega
          · obtain rfl : j = N := by omega
            by_cases hjW : j < W
            · have hjroom : j < q.room := by omega
              have hjl : j < q.has.length := by rw [hokq.hl]; exact hjroom
              have hch := hin.hascell (k := j) hjl
              have hgj := hstop hjW hjl
              rw [List.getD_eq_getElem?_getD, hgj] at hch
              have hch2 : wo.cell? ⟨gh, j, none⟩ = some (.bool false) := hch
              clear hch hgj hget hstop
              go_wp2_with fail
              go_meet
              exact ⟨rfl, rfl⟩
            · clear hget hstop
              go_wp2_with fail
              go_meet
              exact ⟨rfl, rfl⟩
      case rest =>
        obtain ⟨rfl, rfl⟩ := hcut
        clear hget hstop
        have c0 : wo.cell? ⟨g, 0, none⟩ = some (.int .i64 (q.room : Int)) := hin.blk.cell 0
        obtain ⟨A0, cap0, hrv, hA1, hA2⟩ := hin.rv_form
        have c2 : wo.cell? ⟨g, 2, none⟩ = some rv := hin.blk.cell 2
        rw [hrv] at c2
        have c3 : wo.cell? ⟨g, 3, none⟩ = some (.slice (some ⟨gd, 0, none⟩) q.room q.room) := hin.blk.cell 3
        have HRV := Lib.hid hrv
        clear hrv
        have hNq : (N : Int) ≤ (q.room : Int) := by omega
        have hnews : ∀ j u, ((q.data.take N).map byteV)[j]? = some u → wo.drew.cell? ((⟨gd, 0, none⟩ : Addr).add j) = some u := fun j u hu => by
          have hj : j < N := by
            have := (List.getElem?_eq_some_iff.1 hu).1
            rw [List.length_map, List.length_take] at this
            omega
          have hcd := hin.datcell (k := j) (by rw [hokq.dl]; omega)
          show wo.cell? _ = _
          rw [Addr.add_lit, Nat.zero_add, hcd, ← hu, List.getElem?_map, List.getElem?_take, if_pos hj, List.getElem?_eq_getElem (by rw [hokq.dl]; omega), List.getD_eq_getElem?_getD, List.getElem?_eq_getElem (by rw [hokq.dl]; omega)]
          rfl
        have hown : wo.drew.ownsRow base 5 1 (.slice A0 q.ready.length cap0) q.ready.length (q.ready.map byteV) := by rw [← HRV.out]; exact hin.own
        have hnl : ((q.data.take N).map byteV).length = N * 1 := by rw [List.length_map, List.length_take, hokq.dl]; omega
        have hrq : q.ready.length ≤ q.room := hokq.rl
        have hbs : base ≤ wo.drew.heap.size := Nat.le_trans hbase hfr.size
        have hsum : q.ready.length + N ≤ maxLen := by unfold maxLen; omega
        have hsum2 : (q.ready.length + N) * 1 ≤ 140737488355328 := by omega
        have HNEWS := Lib.hid hnews
        have HOWN := Lib.hid hown
        have HNL := Lib.hid hnl
        have HSUM := Lib.hid hsum
        have HSUM2 := Lib.hid hsum2
        clear hnews hown hnl hsum hsum2
        have hblk0 : Blk wo g 81 #[.int .i64 (q.room : Int), .int .u32 q.next, .slice A0 q.ready.length cap0, .slice (some ⟨gd, 0, none⟩) q.room q.room, .slice (some ⟨gh, 0, none⟩) q.room q.room, .int .i64 q.held] := by rw [← HRV.out]; exact hin.blk
        have hne0 : some g ≠ (Value.slice A0 q.ready.length cap0).ownBlock := by rw [← HRV.out]; exact (own_ne hin.own hin.blk (by decide)).symm
        have HBLK := Lib.hid hblk0
        have HNE := Lib.hid hne0
        clear hblk0 hne0
        go_upto_region 15 with fail
        go_cut [10] (fun n wx => n = .int .i64 (N : Int) ∧ Stage w wx base g gd gh rv { q with ready := q.ready ++ q.data.take N })
        case first =>
          go_region_law ((refine step_append_own2 rfl (.tmp 84) (.tmp 90) 23 (by rfl) base 5 (.int .u8 0) 1 1 Try.underlying23 info_u8 rfl (by decide) (.slice A0 q.ready.length cap0) q.ready.length (q.ready.map byteV) (by rfl) HOWN.out ⟨gd, 0, none⟩ N q.room ((q.data.take N).map byteV) (by rfl) HNL.out HNEWS.out (bytes_one _) HSUM.out HSUM2.out hbs ?_); intro A1 c1 w1 hown1 hgrow1 hblk1; have c21 : w1.cell? ⟨g, 2, none⟩ = some (.slice A0 q.ready.length cap0) := (HBLK.out.drew.grown hgrow1 HNE.out).cell 2; have f21 := (HBLK.out.drew.grown hgrow1 HNE.out).frozen 2)
          all_goals
            go_wp2_with fail
            go_meet
            exact ⟨rfl, stage_ready ⟨hin, hfr⟩ HRV.out (by rw [hokq.dl]; exact hNr) hown1 hgrow1 hblk1⟩
        clear c0 c2 c3 HNEWS HOWN HBLK HNE HRV hin hfr
        obtain ⟨rfl, hst⟩ := hcut
        generalize hq1 : ({ q with ready := q.ready ++ q.data.take N } : RB) = q1 at hst
        have e1 : q1.room = q.room := by rw [← hq1]
        go_upto_region 16 with fail
        go_cut [10] (fun n wx => n = .int .i64 (N : Int) ∧ Stage w wx base g gd gh rv { q1 with data := q.data.drop N ++ q.data.drop (q.room - N) })
        case first =>
          obtain ⟨rv1, hin1, hf1, ho1⟩ := id hst
          have d3 : wc.cell? ⟨g, 3, none⟩ = some (.slice (some ⟨gd, 0, none⟩) q.room q.room) := by rw [← e1]; exact hin1.blk.cell 3
          have hsrc : ∀ j v, ((q.data.drop N).map byteV)[j]? = some v → wc.drew.cell? ((⟨gd, N, none⟩ : Addr).add j) = some v := fun j v hv => by
            rw [Addr.add_lit, hin1.dat.drew.cell, ← hv]
            simp [bytes, ← hq1, List.getElem?_map, List.getElem?_drop]
          have hcl : ((q.data.drop N).map byteV).length = q.room - N := by rw [List.length_map, List.length_drop, hokq.dl]
          have hcur : (bytes q1.data).size = q.room := by simp [bytes, ← hq1, hokq.dl]
          have hdat := hin1.dat.drew
          have hpo : 0 < q.room - N → (if q.room = N then some (⟨gd, 0, none⟩ : Addr) else some ⟨gd, N, none⟩) = some ⟨gd, N, none⟩ := fun hp => if_neg (by omega)
          have HSRC := Lib.hid hsrc
          have HCL := Lib.hid hcl
          have HCUR := Lib.hid hcur
          have HDAT := Lib.hid hdat
          have HPO := Lib.hid hpo
          clear hsrc hcl hcur hdat hin1 hpo
          go_region_law ((refine step_copy_row2 rfl (.tmp 97) (.tmp 103) 23 23 rfl 5 Try.underlying23 (by rfl) gd q.room q.room ⟨gd, N, none⟩ _ (q.room - N) (q.room - N) rfl rfl HPO.out 5 _ HDAT.out HCUR.out _ HCL.out (Nat.sub_le _ _) HSRC.out (bytes_one _) ?_); intro w2 hb2 hf2)
          all_goals
            go_wp2_with fail
            all_goals (go_meet; exact ⟨rfl, stage_data hst hb2 hf2.undrew (by simp [bytes, ← hq1, List.map_drop])⟩)
        clear hst
        obtain ⟨rfl, hst⟩ := hcut
        generalize hq2 : ({ q1 with data := q.data.drop N ++ q.data.drop (q.room - N) } : RB) = q2 at hst
        have e2 : q2.room = q.room := by rw [← hq2]; exact e1
        have h2 : q2.has = q.has := by rw [← hq2, ← hq1]
        go_upto_region 17 with fail
        go_cut [10] (fun n wx => n = .int .i64 (N : Int) ∧ Stage w wx base g gd gh rv { q2 with has := q.has.drop N ++ q.has.drop (q.room - N) })
        case first =>
          obtain ⟨rv1, hin1, hf1, ho1⟩ := id hst
          have d4 : wc.cell? ⟨g, 4, none⟩ = some (.slice (some ⟨gh, 0, none⟩) q.room q.room) := by rw [← e2]; exact hin1.blk.cell 4
          have hsrc : ∀ j v, ((q.has.drop N).map Value.bool)[j]? = some v → wc.drew.cell? ((⟨gh, N, none⟩ : Addr).add j) = some v := fun j v hv => by
            rw [Addr.add_lit, hin1.has.drew.cell, ← hv, h2]
            simp [bools, List.getElem?_map, List.getElem?_drop]
          have hcl : ((q.has.drop N).map Value.bool).length = q.room - N := by rw [List.length_map, List.length_drop, hokq.hl]
          have hcur : (bools q2.has).size = q.room := by rw [h2]; simp [bools, hokq.hl]
          have hdat := hin1.has.drew
          have hpo : 0 < q.room - N → (if q.room = N then some (⟨gh, 0, none⟩ : Addr) else some ⟨gh, N, none⟩) = some ⟨gh, N, none⟩ := fun hp => if_neg (by omega)
          have hone : ∀ v ∈ (q.has.drop N).map Value.bool, v.oneCell' = true := fun v hv => by
            obtain ⟨b, -, rfl⟩ := List.mem_map.1 hv
            rfl
          have HONE := Lib.hid hone
          have HSRC := Lib.hid hsrc
          have HCL := Lib.hid hcl
          have HCUR := Lib.hid hcur
          have HDAT := Lib.hid hdat
          have HPO := Lib.hid hpo
          clear hsrc hcl hcur hdat hin1 hpo hone
          go_region_law ((refine step_copy_row2 rfl (.tmp 108) (.tmp 114) 33 33 rfl 4 Try.underlying33 (by rfl) gh q.room q.room ⟨gh, N, none⟩ _ (q.room - N) (q.room - N) rfl rfl HPO.out 4 _ HDAT.out HCUR.out _ HCL.out (Nat.sub_le _ _) HSRC.out HONE.out ?_); intro w2 hb2 hf2)
          all_goals
            go_wp2_with fail
            all_goals (go_meet; exact ⟨rfl, stage_has hst hb2 hf2.undrew (by rw [h2]; simp [bools, List.map_drop])⟩)
        clear hst
        obtain ⟨rfl, hst⟩ := hcut
        generalize hq3 : ({ q2 with has := q.has.drop N ++ q.has.drop (q.room - N) } : RB) = q3 at hst
        have e3 : q3.room = q.room := by rw [← hq3]; exact e2
        have h3 : q3.has = q.has.drop N ++ q.has.drop (q.room - N) := by rw [← hq3]
        go_upto_region 18 with fail
        go_cut [10] (fun n wx => n = .int .i64 (N : Int) ∧ Stage w wx base g gd gh rv { q3 with has := q.has.drop N ++ List.replicate N false })
        case first =>
          obtain ⟨rv1, hin1, hf1, ho1⟩ := id hst
          have d0 : wc.cell? ⟨g, 0, none⟩ = some (.int .i64 (q.room : Int)) := by rw [← e3]; exact hin1.blk.cell 0
          have d4 : wc.cell? ⟨g, 4, none⟩ = some (.slice (some ⟨gh, 0, none⟩) q.room q.room) := by rw [← e3]; exact hin1.blk.cell 4
          have hdat := hin1.has.drew
          obtain ⟨D, hD⟩ : ∃ D, D = q.room - N := ⟨_, rfl⟩
          have hsub : IntKind.i64.wrap ((q.room : Int) - (N : Int)) = (D : Int) := by rw [wrap_small (by omega) (by omega)]; omega
          have hD0 : (0 : Int) ≤ (D : Int) := by omega
          have hD1 : (D : Int) ≤ (q.room : Int) := by omega
          have hD2 : D ≤ q.room := by omega
          have hD3 : D ≤ 2048 := by omega
          have hD4 : q.room - D = N := by omega
          have hD5 : D + (q.room - D) = (bools q3.has).size := by rw [h3]; simp [bools, hokq.hl]; omega
          have hpo : 0 < q.room - D → (if q.room = D then some (⟨gh, 0, none⟩ : Addr) else some ⟨gh, D, none⟩) = some ⟨gh, D, none⟩ := fun hp => if_neg (by omega)
          have HD := Lib.hid hD
          have HD4 := Lib.hid hD4
          have HD5 := Lib.hid hD5
          have HPO := Lib.hid hpo
          clear hD hD4 hD5 hpo
          have HDAT := Lib.hid hdat
          clear hdat hin1
          go_region_law ((refine step_clear_row2 rfl (.tmp 126) 33 rfl 4 Try.underlying33 (.bool false) (fun _ => rfl) rfl rfl _ gh D (q.room - D) (q.room - D) rfl HPO.out (by split <;> rfl) 4 _ HDAT.out HD5.out ?_); intro w2 hb2 hf2)
          all_goals
            go_wp2_with fail
            all_goals (go_meet; exact ⟨rfl, stage_has hst hb2 hf2.undrew (by rw [HD4.out, h3, HD.out]; exact has_cut q.has N q.room hokq.hl)⟩)
        clear hst
        obtain ⟨rfl, hst⟩ := hcut
        obtain ⟨rv1, hin1, hf1, ho1⟩ := id hst
        have d5 : wc.cell? ⟨g, 5, none⟩ = some (.int .i64 q.held) := by rw [hin1.blk.cell 5, ← hq3, ← hq2, ← hq1]; rfl
        have d1 : wc.cell? ⟨g, 1, none⟩ = some (.int .u32 q.next) := by rw [hin1.blk.cell 1, ← hq3, ← hq2, ← hq1]; rfl
        have f5 := hin1.blk.frozen 5
        have f1 := hin1.blk.frozen 1
        have hheld0 : 0 ≤ q.held := by rw [hokq.hc]; omega
        have hheld1 : q.held ≤ 2048 := by rw [hokq.hc]; have := List.count_le_length (a := true) (l := q.has); have := hokq.hl; omega
        have hnx := hokq.n1
        have hny := hokq.n2
        clear hin1
        go_wp2_with fail
        have hfin := stage_end hst (q.held - N) ((q.next + N) % 4294967296)
        refine bodyPost_ret (v := .int .i64 (N : Int)) (by simp [results, Try.results67, go_sem]) rfl ⟨ret_nat HPUTN.out.symm, ?_⟩
        have hq4 : r.put seq l = { { q3 with has := q.has.drop N ++ List.replicate N false } with held := q.held - N, next := (q.next + N) % 4294967296 } := by
          rw [HPUT.out, ← hq3, ← hq2, ← hq1]
          rfl
        rw [hq4]
        exact hfin

end Go.Proofs.Ytpmlojgngcllfaa
