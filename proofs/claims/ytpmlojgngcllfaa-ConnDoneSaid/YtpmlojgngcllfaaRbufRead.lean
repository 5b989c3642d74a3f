/- rbuf.Read: what is ready is read. -/
import Derived.Test.YtpmlojgngcllfaaRbufNew
import Derived.Laws.AppendOwnNone
namespace Go.Proofs.Ytpmlojgngcllfaa
open Go.RowKit Go

def RB.take (r : RB) (n : Int) : Nat := min n.toNat r.ready.length
def RB.read (r : RB) (n : Int) : RB := { r with ready := r.ready.drop (r.take n) }
theorem RB.Ok.read {r : RB} (h : r.Ok) (n : Int) : (r.read n).Ok := by
  obtain ⟨r1, r2, n1, n2, rl, dl, hl, hc⟩ := h
  exact ⟨r1, r2, n1, n2, by show (r.ready.drop _).length ≤ r.room; rw [List.length_drop]; omega, dl, hl, hc⟩

def RbRead (w : World) (base g gd gh : Nat) (r : RB) (n : Int) (e : Ending) (w' : World) : Prop :=
  e = .returned (.string ⟨(r.ready.take (r.take n)).toArray⟩) ∧ ∃ rv', RbIn w' base g gd gh rv' (r.read n) ∧ Frm [g] w w' ∧ (rv'.ownBlock = none ∨ rv'.ownBlock = some w.heap.size)

theorem own_cell {cur : Array Value} {xs : List Value} {n : Nat} (h : cur.toList.take n = xs) {j : Nat} (hj : j < xs.length) : cur[j]? = xs[j]? := by
  have h2 : j < n := by rw [← h, List.length_take] at hj; omega
  rw [← h, List.getElem?_take, if_pos h2]
  simp
theorem bytes_get (l : List UInt8) (j : Nat) (hj : j < l.length) : (l.map byteV)[j]? = some (.int .u8 (l[j].toNat : Int)) := by
  rw [List.getElem?_map, List.getElem?_eq_getElem hj]
  rfl
theorem bytes_one (l : List UInt8) : ∀ u ∈ l.map byteV, u.oneCell' = true := by
  intro u hu
  obtain ⟨_, _, rfl⟩ := List.mem_map.1 hu
  rfl

theorem read_end {w w1 : World} {base g gd gh : Nat} {rv : Value} {r : RB} {n : Int} {T : Nat} {A1 : Option Addr} {m1 c1 : Nat} {news : List Value} (h : RbIn w base g gd gh rv r) (hf1 : Frm [] w w1) (hown1 : w1.ownsRow base 5 1 (.slice A1 m1 c1) m1 ([] ++ news))
    (hblk1 : (Value.slice A1 m1 c1).ownBlock = (Value.slice none 0 0).ownBlock ∨ (Value.slice A1 m1 c1).ownBlock = some w.heap.size) (hm : (r.ready.drop T).length = m1) (hn : news = (r.ready.drop T).map byteV) (hT : r.take n = T) :
    RbRead w base g gd gh r n (.returned (.string ⟨(r.ready.take T).toArray⟩)) (w1.setCell ⟨g, 2, none⟩ (.slice A1 m1 c1)) := by
  have hgd : g ≠ gd := h.blk.ne_ h.dat (by decide)
  have hgh : g ≠ gh := h.blk.ne_ h.has (by decide)
  have hlt := h.dat.lt
  have hglt := h.blk.lt
  refine ⟨by rw [hT], .slice A1 m1 c1, ⟨?_, ?_, ?_, ?_, ?_⟩, hf1.mono (by simp) |>.setCell (.inl (by simp)) _, ?_⟩
  · exact (h.blk.frm hf1 (by simp)).set_to 2 _ rfl
  · exact (h.dat.frm hf1 (by simp)).far (Ne.symm hgd) _
  · exact (h.has.frm hf1 (by simp)).far (Ne.symm hgh) _
  · have hne := own_ne hown1 (h.blk.frm hf1 (by simp)) (by decide)
    have := own_frm hown1 ((Frm.refl [g] w1).setCell (p := ⟨g, 2, none⟩) (.inl (by simp)) (.slice A1 m1 c1)) (fun k hk hm => by
      have hk2 : k = g := by simpa using hm
      subst hk2
      exact hne hk)
    rw [List.nil_append, hn] at this
    show World.ownsRow _ _ _ _ _ (r.ready.drop (r.take n)).length ((r.ready.drop (r.take n)).map byteV)
    rw [hT, hm]
    exact this
  · rcases hblk1 with h1 | h1 <;> rw [h1]
    · simp [Value.ownBlock]
    · simp; omega
  · exact hblk1

theorem rread_in {base g gd gh : Nat} {rv : Value} {r : RB} (n : Int) (w : World) (ho : r.Ok) (hbase : base ≤ w.heap.size) (h : RbIn w base g gd gh rv r) :
    Calls Try.prog 37 #[.pointer (some ⟨g, 0, none⟩), .int .i64 n] w (RbRead w base g gd gh r n) := by
  have hblk := h.blk
  have f2 := h.blk.frozen 2
  have r2 := ho.r2
  have rl := ho.rl
  have htk : (if (r.ready.length : Int) < (if n < 0 then 0 else n) then (r.ready.length : Int) else (if n < 0 then 0 else n)) = ((r.take n : Nat) : Int) := by
    unfold RB.take; split <;> split <;> omega
  obtain ⟨N, hN⟩ : ∃ N, (if n < 0 then 0 else n) = N := ⟨_, rfl⟩
  rw [hN] at htk
  have htl : r.take n ≤ r.ready.length := by unfold RB.take; omega
  generalize hT : r.take n = T at *
  have HT := Lib.hid hT
  clear hT
  rcases h.own.2 with ⟨rfl, h0⟩ | ⟨k, cap, cur, rfl, hbk, hh, hnc, hcm, hcs, htake⟩
  · have hT0 : T = 0 := by omega
    subst hT0
    have c2 : w.cell? ⟨g, 2, none⟩ = some (.slice none 0 0) := h.blk.cell 2
    have h0i : (r.ready.length : Int) = 0 := by omega
    rw [h0i] at htk
    have hcv := run_convert_bytes_nil (P := Try.prog) (w := w) 23 5 Try.underlying23 Try.underlying5 0 0 9 Try.underlying9
    obtain ⟨i0, hi, hz0, hz1, hz2⟩ := info_parts info_u8
    have HI := Lib.hid hi
    have HZ1 := Lib.hid hz1
    have H0 := Lib.hid h0
    have hnil : r.ready = [] := List.eq_nil_of_length_eq_zero h0
    have HNIL := Lib.hid hnil
    clear hi hz0 hz1 hz2 hnil
    go_enter Try.func37, Try.ntmps37
    go_wp2_with (first | (go_at_call 59; refine (rnone_in _ ho h).mono ?_; rintro e w' ⟨rfl, rfl⟩) | (at_builtin; go_must (refine wpList_append_own_none rfl _ _ 23 rfl base 5 i0 1 Try.underlying23 HI.out (.slice none 0 0) 0 [] rfl ⟨rfl, .inl ⟨rfl, rfl⟩⟩ rfl ?_)))
    go_ret
    have hb0 := h
    have hfin := read_end (n := n) (T := 0) (A1 := none) (m1 := 0) (c1 := 0) (news := []) h (Frm.refl _ _) ⟨rfl, .inl ⟨rfl, rfl⟩⟩ (.inl rfl) (by rw [HNIL.out]; rfl) (by rw [HNIL.out]; rfl) HT.out
    exact hfin
  · have c2 : w.cell? ⟨g, 2, none⟩ = some (.slice (some ⟨k, 0, none⟩) r.ready.length cap) := h.blk.cell 2
    have hkb : Blk w k 5 cur := hh
    rw [Nat.mul_one] at htake
    have hcur : ∀ j (hj : j < r.ready.length), w.cell? ⟨k, j, none⟩ = some (.int .u8 (r.ready[j].toNat : Int)) := fun j hj => by
      rw [hkb.cell j, own_cell htake (by rw [List.length_map]; exact hj), bytes_get _ _ hj]
    have hcv := run_convert_bytes_back (P := Try.prog) w 23 9 5 ⟨k, 0, none⟩ cap (r.ready.take T) Try.underlying23 Try.underlying5 Try.underlying9 (fun j hj => by
      rw [List.length_take] at hj
      rw [Addr.add_lit, Nat.zero_add, hcur j (by omega), List.getElem_take])
    rw [List.length_take, Nat.min_eq_left htl] at hcv
    have hTc : T ≤ cap := by omega
    have hT63 : (T : Int) ≤ (r.ready.length : Int) := by omega
    have hcap : (r.ready.length : Int) ≤ (cap : Int) := by omega
    have hcap63 : cap ≤ 9223372036854775807 := hcm
    obtain ⟨i0, hi, hz0, hz1, hz2⟩ := info_parts info_u8
    have hdl : (r.ready.drop T).length = r.ready.length - T := List.length_drop
    have hnews : ∀ j u, ((r.ready.drop T).map byteV)[j]? = some u → w.cell? ((⟨k, T, none⟩ : Addr).add j) = some u := fun j u hu => by
      have hj : j < r.ready.length - T := by
        have := (List.getElem?_eq_some_iff.1 hu).1
        rw [List.length_map, hdl] at this
        exact this
      rw [Addr.add_lit, hcur (T + j) (by omega), ← hu, List.getElem?_map, List.getElem?_drop, List.getElem?_eq_getElem (by omega)]
      rfl
    have HNEWS := Lib.hid hnews
    have HCUR := Lib.hid hcur
    have HI := Lib.hid hi
    have HZ0 := Lib.hid hz0
    have HZ1 := Lib.hid hz1
    have HZ2 := Lib.hid hz2
    have HDL := Lib.hid hdl
    have HTAKE := Lib.hid htake
    have HCS := Lib.hid hcs
    have HH := Lib.hid hh
    clear hnews hcur hi hz0 hz1 hz2 hdl htake hcs hh
    by_cases hct : cap = T
    · have hTl : r.ready.length = T := by omega
      have HTL := Lib.hid hTl
      have hm0 : r.ready.length - T = 0 := by omega
      clear hTl
      subst hct
      go_enter Try.func37, Try.ntmps37
      go_wp2_with (first | (go_at_call 59; refine (rnone_in _ ho h).mono ?_; rintro e w' ⟨rfl, rfl⟩) | (at_builtin; go_must (refine wpList_append_own_at _ rfl _ _ 23 rfl base 5 i0 (.int .u8 0) 1 1 Try.underlying23 HI.out HZ0.out HZ1.out HZ2.out rfl (by decide) (.slice none 0 0) 0 [] rfl ⟨rfl, .inl ⟨rfl, rfl⟩⟩ ⟨k, 0, none⟩ 0 0 [] rfl rfl (fun j u hu => by simp at hu) (by simp) (by unfold maxLen; omega) (by omega) hbase ?_); intro v' w1 hown1 hgrow1 hnil1 hblk1; obtain ⟨A1, c1, rfl⟩ := own_form hown1; have hf1 := Frm.grown (ex := []) (Frm.refl _ _) hgrow1 (by simp [Value.ownBlock]); have hb1 := h.blk.frm hf1 (by simp); have c21 : w1.cell? ⟨g, 2, none⟩ = some (.slice (some ⟨k, 0, none⟩) r.ready.length cap) := hb1.cell 2; have f21 := hb1.frozen 2))
      go_ret
      simp only [Nat.zero_add] at hown1 hblk1
      exact read_end h hf1 hown1 hblk1 (by rw [List.drop_of_length_le (by rw [HTL.out]; exact Nat.le_refl _)]; rfl) (by rw [List.drop_of_length_le (by rw [HTL.out]; exact Nat.le_refl _)]; rfl) HT.out
    · go_enter Try.func37, Try.ntmps37
      go_wp2_with (first | (go_at_call 59; refine (rnone_in _ ho h).mono ?_; rintro e w' ⟨rfl, rfl⟩) | (at_builtin; go_must (refine wpList_append_own_at _ rfl _ _ 23 rfl base 5 i0 (.int .u8 0) 1 1 Try.underlying23 HI.out HZ0.out HZ1.out HZ2.out rfl (by decide) (.slice none 0 0) 0 [] rfl ⟨rfl, .inl ⟨rfl, rfl⟩⟩ ⟨k, T, none⟩ (r.ready.length - T) (cap - T) ((r.ready.drop T).map byteV) rfl (by rw [List.length_map, HDL.out]; omega) HNEWS.out (bytes_one _) (by unfold maxLen; omega) (by omega) hbase ?_); intro v' w1 hown1 hgrow1 hnil1 hblk1; obtain ⟨A1, c1, rfl⟩ := own_form hown1; have hf1 := Frm.grown (ex := []) (Frm.refl _ _) hgrow1 (by simp [Value.ownBlock]); have hb1 := h.blk.frm hf1 (by simp); have c21 : w1.cell? ⟨g, 2, none⟩ = some (.slice (some ⟨k, 0, none⟩) r.ready.length cap) := hb1.cell 2; have f21 := hb1.frozen 2))
      go_ret
      simp only [Nat.zero_add] at hown1 hblk1
      exact read_end h hf1 hown1 hblk1 HDL.out rfl HT.out

end Go.Proofs.Ytpmlojgngcllfaa
