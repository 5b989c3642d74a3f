/- The reference's Write. -/
import Derived.Test.YtljgmlgdafijcaaSbufRefAck
import Derived.Laws.AppendOwnNone
namespace Go.Proofs.Ytljgmlgdafijcaa
open Go.RowKit Go

/-- Bytes, numbered from e on. -/
def nums (e : Int) : List UInt8 → List (Int × UInt8)
  | [] => []
  | b :: r => (e % 4294967296, b) :: nums (e + 1) r
theorem nums_length (s : List UInt8) : ∀ e, (nums e s).length = s.length := by
  induction s with
  | nil => intro e; rfl
  | cons b r ih => intro e; simp [nums, ih]
theorem nums_append (s t : List UInt8) : ∀ e, nums e (s ++ t) = nums e s ++ nums (e + s.length) t := by
  induction s with
  | nil => intro e; simp [nums]
  | cons b r ih =>
    intro e
    have h : e + 1 + (r.length : Int) = e + ((r.length : Int) + 1) := by omega
    simp [nums, ih, h]
/-- The cells of numbered bytes. -/
def ncells (l : List (Int × UInt8)) : List Value := l.flatMap fun x => [.int .u32 x.1, .int .u8 (x.2.toNat : Int)]
theorem ncells_length (l : List (Int × UInt8)) : (ncells l).length = l.length * 2 := by
  unfold ncells
  induction l with
  | nil => rfl
  | cons x r ih => rw [List.flatMap_cons, List.length_append, ih]; simp; omega
theorem ncells_append (l m : List (Int × UInt8)) : ncells (l ++ m) = ncells l ++ ncells m := by unfold ncells; rw [List.flatMap_append]
theorem ncells_get (l : List (Int × UInt8)) : ∀ (j : Nat) x, l[j]? = some x → (ncells l)[j * 2]? = some (.int .u32 x.1) ∧ (ncells l)[j * 2 + 1]? = some (.int .u8 (x.2.toNat : Int)) := by
  induction l with
  | nil => intro j x h; simp at h
  | cons y r ih =>
    intro j x h
    cases j with
    | zero => simp at h; subst h; exact ⟨rfl, rfl⟩
    | succ j =>
      rw [List.getElem?_cons_succ] at h
      have h2 := ih j x h
      have e1 : (j + 1) * 2 = j * 2 + 1 + 1 := by omega
      rw [e1]
      exact h2
theorem ncells_one (l : List (Int × UInt8)) : ∀ v ∈ ncells l, v.oneCell' = true := by
  intro v hv
  unfold ncells at hv
  obtain ⟨x, -, hx⟩ := List.mem_flatMap.1 hv
  simp at hx
  rcases hx with rfl | rfl <;> rfl
/-- What lies at a slice of numbered bytes, cell by cell. -/
theorem ncells_at {w : World} {g off : Nat} {l : List (Int × UInt8)}
    (hc : ∀ (j : Nat) (x : Int × UInt8), l[j]? = some x → w.cell? ⟨g, off + j * 2, none⟩ = some (.int .u32 x.1) ∧ w.cell? ⟨g, off + j * 2 + 1, none⟩ = some (.int .u8 (x.2.toNat : Int)))
    (j : Nat) (u : Value) (hu : (ncells l)[j]? = some u) : w.cell? ((⟨g, off, none⟩ : Addr).add j) = some u := by
  have hj : j < l.length * 2 := by
    have := (List.getElem?_eq_some_iff.1 hu).1
    rwa [ncells_length] at this
  have hx : l[j / 2]? = some (l[j / 2]'(by omega)) := List.getElem?_eq_getElem _
  have h1 := hc _ _ hx
  have h2 := ncells_get l _ _ hx
  rw [Addr.add_lit]
  rcases Nat.mod_two_eq_zero_or_one j with h | h
  · have e : j / 2 * 2 = j := by omega
    rw [e] at h1 h2
    rw [h1.1, ← hu, h2.1]
  · have e : j / 2 * 2 + 1 = j := by omega
    have e2 : off + j / 2 * 2 + 1 = off + j := by omega
    rw [e2] at h1
    rw [e] at h2
    rw [h1.2, ← hu, h2.2]
/-- An own row of numbered bytes is a slice of them. -/
theorem NumAt.of_own {w : World} {base : Nat} {v : Value} {n : Nat} {l : List (Int × UInt8)} (h : w.ownsRow base 53 2 v n (ncells l)) (hn : l.length = n) (hb : n ≤ 1000000) : NumAt w v l := by
  obtain ⟨hl, hv⟩ := h
  rcases hv with ⟨rfl, rfl⟩ | ⟨g, cap, cur, rfl, hg, hh, hr⟩
  · exact ⟨none, 0, by rw [hn], by omega, by omega, fun _ => rfl, fun hne => absurd (List.length_pos_iff.mpr hne) (by omega)⟩
  · refine ⟨some ⟨g, 0, none⟩, cap, by rw [hn], by omega, by omega, fun h0 => (by cases h0), fun hne => ⟨g, 0, rfl, (show Blk w g _ cur from hh).lt, fun j x hx => ?_⟩⟩
    have hc := World.ownsRow.cells (w := w) (base := base) (e := 53) (size := 2) (n := n) (xs := ncells l) (v := .slice (some ⟨g, 0, none⟩) n cap) ⟨hl, .inr ⟨g, cap, cur, rfl, hg, hh, hr⟩⟩ (g := g) rfl
    have h1 := hc _ _ (ncells_get l j x hx).1
    have h2 := hc _ _ (ncells_get l j x hx).2
    rw [Addr.add_lit] at h1 h2
    exact ⟨h1, h2⟩
theorem info_byte : (Try.prog.info? 53).map (fun i => (i.zero, i.size, i.bytes)) = some (some (.agg #[.int .u32 0, .int .u8 0]), 2, 8) := by kernel_rfl
def RwrPost (room e : Int) (l : List (Int × UInt8)) (s : List UInt8) (w : World) (en : Ending) (w' : World) : Prop :=
  ∃ v' k, en = .returned (.tuple #[.agg #[.int .i64 room, .int .u32 ((e + (k : Nat)) % 4294967296), v'], .int .i64 (k : Nat)]) ∧ NumAt w' v' (l ++ nums e (s.take k)) ∧ Frm [] w w' ∧
    k ≤ s.length ∧ (k = s.length ∨ room ≤ (l.length + k : Nat)) ∧ (k = 0 ∨ (l.length + k : Nat) ≤ room)
/-- How it stands in Write: the box, the result's cell, the new list. -/
structure WS (w wy : World) (b1 b2 : Nat) (room e : Int) (v vl : Value) (n : Nat) (l : List (Int × UInt8)) : Prop where
  frm : Frm [] w wy
  box : Blk wy b1 36 #[.int .i64 room, .int .u32 e, v]
  res : Blk wy b2 36 #[.int .i64 0, .int .u32 0, .slice none 0 0]
  own : wy.ownsRow w.heap.size 53 2 vl n (ncells l)
theorem WS.fin {w wr : World} {b1 b2 : Nat} {room e : Int} {v vl : Value} {n : Nat} {l : List (Int × UInt8)} (h : WS w wr b1 b2 room e v vl n l) (hb1 : b1 = w.heap.size) (hb2 : b2 = w.heap.size + 1) (hn : l.length = n) (hb : n ≤ 1000000) :
    ∀ wz, wz = (((wr.setCell ⟨b1, 2, none⟩ vl).setCell ⟨b2, 0, none⟩ (.int .i64 room)).setCell ⟨b2, 1, none⟩ (.int .u32 e)).setCell ⟨b2, 2, none⟩ vl →
    Frm [] w wz ∧ NumAt wz vl l ∧ Blk wz b2 36 #[.int .i64 room, .int .u32 e, vl] := by
  rintro wz rfl
  have hne : b1 ≠ b2 := by omega
  have hF : Frm [b1, b2] wr ((((wr.setCell ⟨b1, 2, none⟩ vl).setCell ⟨b2, 0, none⟩ (.int .i64 room)).setCell ⟨b2, 1, none⟩ (.int .u32 e)).setCell ⟨b2, 2, none⟩ vl) :=
    ((((Frm.refl _ _).setCell (.inl (by simp)) _).setCell (.inl (by simp)) _).setCell (.inl (by simp)) _).setCell (.inl (by simp)) _
  refine ⟨h.frm.next hF fun i hi => .inr ?_, NumAt.of_own (own_frm h.own hF fun k hk => ?_) hn hb, ((((h.res.far (p := ⟨b1, 2, none⟩) (Ne.symm hne) _).set_ 0 _).set_ 1 _).set_ 2 _).as_ rfl⟩
  · simp at hi; omega
  · intro hi
    have n1 := own_ne h.own h.box (by decide)
    have n2 := own_ne h.own h.res (by decide)
    rw [hk] at n1 n2
    simp at hi
    rcases hi with rfl | rfl
    · exact n1 rfl
    · exact n2 rfl
theorem WS.put {w wr : World} {b1 b2 : Nat} {room e : Int} {v vl : Value} {n : Nat} {l : List (Int × UInt8)} (h : WS w wr b1 b2 room e v vl n l) (hb1 : b1 = w.heap.size) (hb2 : b2 = w.heap.size + 1) (e' : Int) :
    WS w (wr.setCell ⟨b1, 1, none⟩ (.int .u32 e')) b1 b2 room e' v vl n l :=
  ⟨h.frm.setCell (.inr (by show w.heap.size ≤ b1; omega)) _, (h.box.set_ 1 _).as_ rfl, h.res.far (p := ⟨b1, 1, none⟩) (by show b2 ≠ b1; omega) _,
    own_frm h.own ((Frm.refl [b1] wr).setCell (.inl (by simp)) _) fun k hk hi => by
      have n1 := own_ne h.own h.box (by decide)
      rw [hk] at n1
      simp at hi
      exact n1 (by rw [hi])⟩
theorem nums_take_succ {s : List UInt8} {k : Nat} (e : Int) (hk : k < s.length) : nums e (s.take (k + 1)) = nums e (s.take k) ++ [((e + (k : Nat)) % 4294967296, s[k])] := by
  rw [List.take_add_one, List.getElem?_eq_getElem hk, Option.toList_some, nums_append, List.length_take, Nat.min_eq_left (Nat.le_of_lt hk)]
  rfl
set_option maxHeartbeats 2000000 in
theorem rwrite_any (room e : Int) (v : Value) (l : List (Int × UInt8)) (s : List UInt8) (w : World) (h : NumAt w v l) (he : 0 ≤ e ∧ e < 4294967296) (hr : room ≤ 1000000) :
    Calls Try.prog 17 #[.agg #[.int .i64 room, .int .u32 e, v], .string ⟨s.toArray⟩] w (RwrPost room e l s w) := by
  obtain ⟨A, cap, rfl, h1, h2, h4, h3⟩ := h
  have H3 := Lib.hid h3
  have H4 := Lib.hid h4
  have HE := Lib.hid he
  obtain ⟨N, hN⟩ : ∃ N, l.length = N := ⟨_, rfl⟩
  rw [hN] at h1 h2 ⊢
  have HN := Lib.hid hN
  clear h3 h4 hN he
  obtain ⟨b1, hb1⟩ : ∃ b, b = w.heap.size := ⟨_, rfl⟩
  obtain ⟨b2, hb2⟩ : ∃ b, b = w.heap.size + 1 := ⟨_, rfl⟩
  have HB1 := Lib.hid hb1
  have HB2 := Lib.hid hb2
  clear hb1 hb2
  go_enter Try.func17, Try.ntmps17
  go_upto_region 2 with fail
  have hb1 := HB1.out
  have hb2 := HB2.out
  refine wp_world (fun wx => Frm [] w wx ∧ Blk wx b1 36 #[.int .i64 room, .int .u32 e, .slice A N cap] ∧ Blk wx b2 36 #[.int .i64 0, .int .u32 0, .slice none 0 0]) ⟨((Frm.refl _ _).alloc _).alloc _, (Blk.new_at hb1.symm _ _).alloc _, Blk.new_at (by simp [hb2]) _ _⟩ ?_
  rintro wx ⟨hfx, hx1, hx2⟩
  rw [← hb2, ← hb1]
  clear hb1 hb2
  go_cut [6] (fun v6 wy => ∃ A1 c1, v6 = .slice A1 N c1 ∧ WS w wy b1 b2 room e (.slice A N cap) (.slice A1 N c1) N l)
  case first =>
    have c2 : wx.cell? ⟨b1, 2, none⟩ = some (.slice A N cap) := hx1.cell 2
    have hin : WS w wx b1 b2 room e (.slice A N cap) (.slice none 0 0) 0 [] := ⟨hfx, hx1, hx2, ⟨rfl, .inl ⟨rfl, rfl⟩⟩⟩
    have HIN := Lib.hid hin
    clear hfx hx1 hx2 hin
    rcases A with _ | ⟨g, off, sp⟩
    · obtain rfl : cap = 0 := H4.out rfl
      obtain rfl : N = 0 := by omega
      obtain ⟨i0, hi, hz0, hz1, hz2⟩ := info_parts info_byte
      have HI := Lib.hid hi
      clear hi hz0 hz1 hz2
      go_wp2_with ((at_builtin; go_must (refine wpList_append_own_none rfl _ _ 34 rfl w.heap.size 53 i0 2 Try.underlying34 HI.out (.slice none 0 0) 0 [] rfl ⟨rfl, .inl ⟨rfl, rfl⟩⟩ rfl ?_)))
      go_meet
      have hl : l = [] := List.eq_nil_of_length_eq_zero HN.out
      rw [hl]
      exact ⟨none, 0, rfl, HIN.out⟩
    · have hnews : ∀ j u, (ncells l)[j]? = some u → wx.cell? ((⟨g, off, sp⟩ : Addr).add j) = some u := fun j u hu => by
        have hne : l ≠ [] := fun h0 => by rw [h0] at hu; simp [ncells] at hu
        obtain ⟨g', off', ha, hg, hc⟩ := H3.out hne
        cases ha
        exact ncells_at (fun j x hx => ⟨(HIN.out.frm.cell (p := ⟨g, off + j * 2, none⟩) hg (by simp)).trans (hc j x hx).1, (HIN.out.frm.cell (p := ⟨g, off + j * 2 + 1, none⟩) hg (by simp)).trans (hc j x hx).2⟩) j u hu
      have hbase : w.heap.size ≤ wx.heap.size := HIN.out.frm.size
      have hl2 : (ncells l).length = N * 2 := by rw [ncells_length, HN.out]
      have HNEWS := Lib.hid hnews
      have HL2 := Lib.hid hl2
      clear hnews hl2
      go_wp2_with ((at_builtin; go_must (refine wpList_append_own2 rfl _ _ 34 rfl w.heap.size 53 (.agg #[.int .u32 0, .int .u8 0]) 2 8 Try.underlying34 info_byte rfl (by decide) (.slice none 0 0) 0 [] rfl ⟨rfl, .inl ⟨rfl, rfl⟩⟩ ⟨g, off, sp⟩ N cap (ncells l) rfl HL2.out HNEWS.out (ncells_one l) (by unfold maxLen; omega) (by omega) hbase ?_); intro A1 c1 w1 hown1 hgrow1 hblk1))
      go_meet
      simp only [Nat.zero_add, List.nil_append] at hown1
      have hf1 := Frm.grown (ex := []) (Frm.refl _ _) hgrow1 (by simp [Value.ownBlock])
      exact ⟨A1, c1, by simp, HIN.out.frm.next0 hf1, HIN.out.box.frm hf1 (by simp), HIN.out.res.frm hf1 (by simp), hown1⟩
  case rest =>
    obtain ⟨A1, c1, rfl, hws⟩ := hcut
    have HWS := Lib.hid hws
    clear hws hfx hx1 hx2
    go_wp2_with fail
    go_loopg [6, 7] s.length (fun gk vl i wr => ∃ (k : Nat) (A2 : Option Addr) (c2 : Nat), k ≤ s.length ∧ gk = s.length - k ∧ vl = .slice A2 (N + k) c2 ∧ i = .int .i64 (k : Int) ∧ (k = 0 ∨ ((N + k : Nat) : Int) ≤ room) ∧
      WS w wr b1 b2 room ((e + (k : Nat)) % 4294967296) (.slice A N cap) (.slice A2 (N + k) c2) (N + k) (l ++ nums e (s.take k)))
    case atStart => exact ⟨0, A1, c1, Nat.zero_le _, rfl, rfl, rfl, .inl rfl, by have := HE.out; simpa [nums, Int.emod_eq_of_lt this.1 this.2] using HWS.out⟩
    case round =>
      obtain ⟨k, A2, c2, hk, hgk, rfl, rfl, hkr, hws⟩ := hrel
      have k0 : wr.cell? ⟨b1, 0, none⟩ = some (.int .i64 room) := hws.box.cell 0
      have k1 : wr.cell? ⟨b1, 1, none⟩ = some (.int .u32 ((e + (k : Nat)) % 4294967296)) := hws.box.cell 1
      have k2 : wr.cell? ⟨b1, 2, none⟩ = some (.slice A N cap) := hws.box.cell 2
      have f11 : wr.frozen? ⟨b1, 1, none⟩ = false := hws.box.frozen 1
      have f12 : wr.frozen? ⟨b1, 2, none⟩ = false := hws.box.frozen 2
      have f20 : wr.frozen? ⟨b2, 0, none⟩ = false := hws.res.frozen 0
      have f21 : wr.frozen? ⟨b2, 1, none⟩ = false := hws.res.frozen 1
      have f22 : wr.frozen? ⟨b2, 2, none⟩ = false := hws.res.frozen 2
      have d0 : wr.cell? ⟨b2, 0, none⟩ = some (.int .i64 0) := hws.res.cell 0
      have d1 : wr.cell? ⟨b2, 1, none⟩ = some (.int .u32 0) := hws.res.cell 1
      have d2 : wr.cell? ⟨b2, 2, none⟩ = some (.slice none 0 0) := hws.res.cell 2
      have hbb : b1 ≠ b2 := by have := HB1.out; have := HB2.out; omega
      have HW := Lib.hid hws
      have HKR := Lib.hid hkr
      clear hws hkr
      have hsz : (ByteArray.mk s.toArray).size = s.length := by simp [ByteArray.size]
      by_cases hlt : k < s.length
      · by_cases hroom : ((N + k : Nat) : Int) < room
        · have hown := HW.out.own
          have hne1 : (Value.slice A2 (N + k) c2).ownBlock ≠ some b1 := own_ne hown HW.out.box (by decide)
          have hbase : w.heap.size ≤ wr.heap.size := HW.out.frm.size
          have HOWN := Lib.hid hown
          have HNE1 := Lib.hid hne1
          have HBS := Lib.hid hbase
          clear hown hne1 hbase
          go_upto_region 5 with fail
          go_cut [6] (fun v6 wx => ∃ A3 c3, v6 = .slice A3 (N + k + 1) c3 ∧ WS w wx b1 b2 room ((e + (k : Nat)) % 4294967296) (.slice A N cap) (.slice A3 (N + k + 1) c3) (N + k + 1) (l ++ nums e (s.take (k + 1))))
          case first =>
            go_region_held_law (fun w' => w'.cell? ⟨b1, 1, none⟩ = some (.int .u32 ((e + (k : Nat)) % 4294967296))) (go_keep)
              ((refine step_append_own2 rfl _ _ 34 (by rfl) w.heap.size 53 (.agg #[.int .u32 0, .int .u8 0]) 2 8 Try.underlying34 info_byte rfl (by decide) (.slice A2 (N + k) c2) (N + k) (ncells (l ++ nums e (s.take k))) (by rfl) (by first | exact (HOWN.out.alloc _).drew | exact HOWN.out.drew.alloc _) ⟨wr.heap.size, 0, none⟩ 1 1 _ (by rfl) (by rfl) (World.news_of_block (heap_alloc_new _ _)) (by simp [Value.oneCell']) (by unfold maxLen; omega) (by omega) (by have := HBS.out; simp; omega) ?_; intro A3 c3 w1 hown1 hgrow1 hblk1; have q1 : w1.cell? ⟨b1, 1, none⟩ = some (.int .u32 ((e + (k : Nat)) % 4294967296)) := by first | exact ((HW.out.box.alloc _).drew.grown hgrow1 (Ne.symm HNE1.out)).cell 1 | exact ((HW.out.box.drew.alloc _).grown hgrow1 (Ne.symm HNE1.out)).cell 1))
            go_wp2_with fail
            go_meet
            have hw1 : WS w w1 b1 b2 room ((e + (k : Nat)) % 4294967296) (.slice A N cap) (.slice A3 (N + k + 1) c3) (N + k + 1) (l ++ nums e (s.take (k + 1))) := by
              have n2 := own_ne HOWN.out HW.out.res (by decide)
              refine ⟨Frm.grown ((HW.out.frm.alloc _).drew) hgrow1 fun q hq => .inr (own_lt HOWN.out hq).2, (HW.out.box.alloc _).drew.grown hgrow1 (Ne.symm HNE1.out), (HW.out.res.alloc _).drew.grown hgrow1 (Ne.symm n2), ?_⟩
              rw [nums_take_succ e hlt, ← List.append_assoc, ncells_append]
              exact hown1
            exact ⟨A3, c3, rfl, hw1⟩
          case rest =>
            obtain ⟨A3, c3, rfl, hws⟩ := hcut
            have j1 : wc.cell? ⟨b1, 1, none⟩ = some (.int .u32 ((e + (k : Nat)) % 4294967296)) := hws.box.cell 1
            have j2 : wc.frozen? ⟨b1, 1, none⟩ = false := hws.box.frozen 1
            have HWC := Lib.hid hws
            clear hws
            go_wp2_with fail
            go_roundg (s.length - (k + 1))
            case measure => omega
            case rel =>
              refine ⟨k + 1, A3, c3, by omega, rfl, rfl, by go_num, .inr (by omega), ?_⟩
              have hp := HWC.out.put HB1.out HB2.out ((e + (k : Nat) + 1) % 4294967296)
              have he : (e + (k : Nat) + 1) % 4294967296 = (e + ((k + 1 : Nat) : Int)) % 4294967296 := by omega
              rw [← he]
              exact hp
        · go_wp2_with fail
          obtain ⟨hF, hT, hB⟩ := HW.out.fin HB1.out HB2.out (by rw [List.length_append, HN.out, nums_length, List.length_take]; omega) (by have := HKR.out; omega) _ rfl
          generalize (((wr.setCell ⟨b1, 2, none⟩ (.slice A2 (N + k) c2)).setCell ⟨b2, 0, none⟩ (.int .i64 room)).setCell ⟨b2, 1, none⟩ (.int .u32 ((e + (k : Nat)) % 4294967296))).setCell ⟨b2, 2, none⟩ (.slice A2 (N + k) c2) = wz at *
          have g0 : wz.cell? ⟨b2, 0, none⟩ = some (.int .i64 room) := hB.cell 0
          have g1 : wz.cell? ⟨b2, 1, none⟩ = some (.int .u32 ((e + (k : Nat)) % 4294967296)) := hB.cell 1
          have g2 : wz.cell? ⟨b2, 2, none⟩ = some (.slice A2 (N + k) c2) := hB.cell 2
          refine bodyPost_ret (v := .tuple #[.agg #[.int .i64 room, .int .u32 ((e + (k : Nat)) % 4294967296), .slice A2 (N + k) c2], .int .i64 (k : Nat)]) (by simp [results, Try.results17, go_sem, g0, g1, g2]) rfl ?_
          exact ⟨_, k, rfl, hT, hF, by omega, .inr (by rw [HN.out]; omega), by have := HKR.out; rw [HN.out]; omega⟩
      · obtain rfl : k = s.length := by omega
        · go_wp2_with fail
          obtain ⟨hF, hT, hB⟩ := HW.out.fin HB1.out HB2.out (by rw [List.length_append, HN.out, nums_length, List.length_take]; omega) (by have := HKR.out; omega) _ rfl
          generalize (((wr.setCell ⟨b1, 2, none⟩ (.slice A2 (N + s.length) c2)).setCell ⟨b2, 0, none⟩ (.int .i64 room)).setCell ⟨b2, 1, none⟩ (.int .u32 ((e + (s.length : Nat)) % 4294967296))).setCell ⟨b2, 2, none⟩ (.slice A2 (N + s.length) c2) = wz at *
          have g0 : wz.cell? ⟨b2, 0, none⟩ = some (.int .i64 room) := hB.cell 0
          have g1 : wz.cell? ⟨b2, 1, none⟩ = some (.int .u32 ((e + (s.length : Nat)) % 4294967296)) := hB.cell 1
          have g2 : wz.cell? ⟨b2, 2, none⟩ = some (.slice A2 (N + s.length) c2) := hB.cell 2
          refine bodyPost_ret (v := .tuple #[.agg #[.int .i64 room, .int .u32 ((e + (s.length : Nat)) % 4294967296), .slice A2 (N + s.length) c2], .int .i64 (s.length : Nat)]) (by simp [results, Try.results17, go_sem, g0, g1, g2]) rfl ?_
          exact ⟨_, s.length, rfl, hT, hF, by omega, .inl rfl, by have := HKR.out; rw [HN.out]; omega⟩
end Go.Proofs.Ytljgmlgdafijcaa
