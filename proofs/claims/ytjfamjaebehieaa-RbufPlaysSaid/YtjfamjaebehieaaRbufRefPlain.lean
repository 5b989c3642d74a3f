/- The buffer and the reference's list of held bytes: they answer alike. No walk in sight. -/
import Derived.Test.YtjfamjaebehieaaRbufRefSpec
import Derived.Test.YtjfamjaebehieaaRbufPlain
namespace Go.Proofs.Ytjfamjaebehieaa
open Go.RowKit Go

theorem getD_set_b (l : List Bool) (k p : Nat) (v d : Bool) (hk : k < l.length) : (l.set k v).getD p d = if k = p then v else l.getD p d := by
  rw [List.getD_eq_getElem?_getD, List.getD_eq_getElem?_getD, List.getElem?_set]
  by_cases h : k = p
  · subst h; rw [if_pos rfl, if_pos rfl, if_pos hk]; rfl
  · rw [if_neg h, if_neg h]
theorem getD_set_c (l : List UInt8) (k p : Nat) (v d : UInt8) (hk : k < l.length) : (l.set k v).getD p d = if k = p then v else l.getD p d := by
  rw [List.getD_eq_getElem?_getD, List.getD_eq_getElem?_getD, List.getElem?_set]
  by_cases h : k = p
  · subst h; rw [if_pos rfl, if_pos rfl, if_pos hk]; rfl
  · rw [if_neg h, if_neg h]
theorem has_lt {l : List Bool} {p : Nat} (h : l.getD p false = true) : p < l.length := by
  rcases Nat.lt_or_ge p l.length with h1 | h1
  · exact h1
  · rw [List.getD_eq_getElem?_getD, List.getElem?_eq_none h1] at h
    cases h

/-- What is held, in both ways. -/
structure HR (q : RB) (W : Nat) (h : List (Int × UInt8)) : Prop where
  mem : ∀ y ∈ h, (0 ≤ y.1 ∧ y.1 < 4294967296) ∧ ahd q.next y.1 < W ∧ q.has.getD (ahd q.next y.1).toNat false = true ∧ q.data.getD (ahd q.next y.1).toNat 0 = y.2
  has : ∀ p : Nat, q.has.getD p false = true → p < W ∧ ((q.next + (p : Int)) % 4294967296, q.data.getD p 0) ∈ h
  nd : (h.map (·.1)).Nodup
  held : q.held = (h.length : Int)
theorem HR.wider {q : RB} {W W' : Nat} {h : List (Int × UInt8)} (k : HR q W h) (hW : W ≤ W') : HR q W' h :=
  ⟨fun y hy => ⟨(k.mem y hy).1, by have := (k.mem y hy).2.1; omega, (k.mem y hy).2.2⟩, fun p hp => ⟨by have := (k.has p hp).1; omega, (k.has p hp).2⟩, k.nd, k.held⟩
theorem HR.one {q : RB} {W : Nat} {h : List (Int × UInt8)} (k : HR q W h) (ho : q.Ok) (hW : W ≤ q.room) {x : Int} (x0 : 0 ≤ x) (x1 : x < 4294967296) (c : UInt8) : HR (q.one W x c) W (rone q.next (W : Int) h x c) := by
  have hr := ho.r2
  have hb := ahd_bd q.next x
  have hxe : ∀ p : Nat, (p : Int) = ahd q.next x → (q.next + (p : Int)) % 4294967296 = x := fun p hp => by unfold ahd at hp; omega
  have hiff : ahd q.next x < W → (q.has.getD (ahd q.next x).toNat false = false ↔ fndI x h 0 < 0) := by
    intro hlt
    constructor
    · intro hf
      rcases (by omega : fndI x h 0 < 0 ∨ 0 ≤ fndI x h 0) with h1 | h1
      · exact h1
      · obtain ⟨i, c', -, h2⟩ := fndI_at x h 0 (by omega) h1
        have h3 := (k.mem _ (List.mem_of_getElem? h2)).2.2.1
        rw [hf] at h3
        cases h3
    · intro hf
      cases hh : q.has.getD (ahd q.next x).toNat false with
      | false => rfl
      | true =>
        have h1 := (k.has _ hh).2
        rw [hxe _ (by omega)] at h1
        exact absurd rfl (fndI_none x h 0 (by omega) hf _ h1)
  unfold RB.one rone
  by_cases ht : q.takes W x
  · have hin : inB x q.next (W : Int) = true := by unfold inB; simpa using ht.1
    have hfd := (hiff ht.1).1 ht.2
    rw [if_pos ht, if_pos ⟨hin, hfd⟩]
    obtain ⟨P, hP⟩ : ∃ P, P = (ahd q.next x).toNat := ⟨_, rfl⟩
    have hPa : (P : Int) = ahd q.next x := by omega
    have hPl : P < q.room := by have := ht.1; omega
    have hno := fndI_none x h 0 (by omega) hfd
    rw [← hP]
    refine ⟨?_, ?_, ?_, ?_⟩
    · intro y hy
      show _ ∧ _ ∧ (q.has.set P true).getD _ false = true ∧ (q.data.set P c).getD _ 0 = y.2
      rw [getD_set_b _ _ _ _ _ (by rw [ho.hl]; exact hPl), getD_set_c _ _ _ _ _ (by rw [ho.dl]; exact hPl)]
      rcases List.mem_append.1 hy with hy | hy
      · obtain ⟨m1, m2, m3, m4⟩ := k.mem y hy
        have hne : P ≠ (ahd q.next y.1).toNat := by
          intro he
          apply hno y hy
          have := ahd_bd q.next y.1
          unfold ahd at hPa he this
          omega
        rw [if_neg hne, if_neg hne]
        exact ⟨m1, m2, m3, m4⟩
      · have : y = (x, c) := by simpa using hy
        subst this
        rw [if_pos hP, if_pos hP]
        exact ⟨⟨x0, x1⟩, ht.1, rfl, rfl⟩
    · intro p hp
      change (q.has.set P true).getD p false = true at hp
      show _ ∧ (_, (q.data.set P c).getD p 0) ∈ _
      rw [getD_set_b _ _ _ _ _ (by rw [ho.hl]; exact hPl)] at hp
      rw [getD_set_c _ _ _ _ _ (by rw [ho.dl]; exact hPl)]
      by_cases he : P = p
      · subst he
        rw [if_pos rfl]
        refine ⟨by have := ht.1; omega, List.mem_append.2 (.inr ?_)⟩
        rw [hxe P hPa]
        simp
      · rw [if_neg he] at hp ⊢
        exact ⟨(k.has p hp).1, List.mem_append.2 (.inl (k.has p hp).2)⟩
    · rw [List.map_append, List.nodup_append]
      refine ⟨k.nd, by simp, ?_⟩
      intro a ha b hb hab
      obtain ⟨y, hy, rfl⟩ := List.mem_map.1 ha
      have : b = x := by simpa using hb
      exact hno y hy (hab.trans this)
    · show q.held + 1 = _
      rw [k.held, List.length_append]
      simp
  · have hn : ¬ (inB x q.next (W : Int) = true ∧ fndI x h 0 < 0) := by
      rintro ⟨h1, h2⟩
      have h3 : ahd q.next x < W := by unfold inB at h1; simpa using h1
      exact ht ⟨h3, (hiff h3).2 h2⟩
    rw [if_neg ht, if_neg hn]
    exact k
theorem HR.many {q : RB} {W : Nat} {h : List (Int × UInt8)} (k : HR q W h) (ho : q.Ok) (hW : W ≤ q.room) (seq : Int) (l : List UInt8) : ∀ i, HR (q.many W seq l i) W (rmany q.next (W : Int) seq h l i)
  | 0 => k
  | i + 1 => by
    have ih := HR.many k ho hW seq l i
    have hm := RB.many_room q W seq l i
    have h1 := ih.one (ho.many hW seq l i) (by rw [hm.1]; exact hW) (x := (seq + (i : Nat)) % 4294967296) (by omega) (by omega) (l.getD i 0)
    rw [hm.2.1] at h1
    exact h1

theorem mem_cut {l : List (Int × UInt8)} (hn : (l.map (·.1)).Nodup) {i : Nat} {x : Int} {c : UInt8} (h : l[i]? = some (x, c)) (y : Int × UInt8) : y ∈ l.take i ++ l.drop (i + 1) ↔ y ∈ l ∧ y.1 ≠ x := by
  obtain ⟨hi, he⟩ := List.getElem?_eq_some_iff.1 h
  have hs : l = l.take i ++ (x, c) :: l.drop (i + 1) := by rw [← he, ← List.drop_eq_getElem_cons hi, List.take_append_drop]
  have hn2 := hn
  rw [hs, List.map_append, List.map_cons, List.nodup_append] at hn2
  obtain ⟨-, h2, h3⟩ := hn2
  rw [List.nodup_cons] at h2
  constructor
  · intro hy
    rcases List.mem_append.1 hy with h1 | h1
    · refine ⟨List.mem_of_mem_take h1, fun hyx => ?_⟩
      exact h3 y.1 (List.mem_map.2 ⟨y, h1, rfl⟩) x (List.mem_cons_self ..) hyx
    · refine ⟨List.mem_of_mem_drop h1, fun hyx => ?_⟩
      exact h2.1 (List.mem_map.2 ⟨y, h1, hyx⟩)
  · rintro ⟨h1, h4⟩
    rw [hs] at h1
    rcases List.mem_append.1 h1 with h5 | h5
    · exact List.mem_append.2 (.inl h5)
    · rcases List.mem_cons.1 h5 with rfl | h5
      · exact absurd rfl h4
      · exact List.mem_append.2 (.inr h5)
theorem nodup_cut {l : List (Int × UInt8)} (hn : (l.map (·.1)).Nodup) (i : Nat) : ((l.take i ++ l.drop (i + 1)).map (·.1)).Nodup := by
  refine List.Nodup.sublist (List.Sublist.map _ ?_) hn
  conv => rhs; rw [← List.take_append_drop i l]
  refine List.Sublist.append (List.Sublist.refl _) ?_
  have : l.drop (i + 1) = (l.drop i).drop 1 := by rw [List.drop_drop]
  rw [this]
  exact List.drop_sublist _ _

/-- How the reference's second loop stands behind j rounds. -/
structure J (q : RB) (h : List (Int × UInt8)) (j : Nat) (s : RS) : Prop where
  nx : s.nx = (q.next + (j : Int)) % 4294967296
  rd : s.rd = q.ready ++ q.data.take j
  mem : ∀ y, y ∈ s.h ↔ y ∈ h ∧ (j : Int) ≤ ahd q.next y.1
  nd : (s.h.map (·.1)).Nodup
  len : s.h.length + j = h.length
theorem J.start {q : RB} {W : Nat} {h : List (Int × UInt8)} (k : HR q W h) (ho : q.Ok) : J q h 0 ⟨q.next, q.ready, h⟩ :=
  ⟨by have := ho.n1; have := ho.n2; show q.next = (q.next + ((0 : Nat) : Int)) % 4294967296; omega, by simp, fun y => ⟨fun hy => ⟨hy, (ahd_bd _ _).1⟩, fun hy => hy.1⟩, k.nd, rfl⟩
theorem J.step {q : RB} {W : Nat} {h : List (Int × UInt8)} (k : HR q W h) (ho : q.Ok) {j : Nat} {s : RS} (hj : J q h j s) (hh : q.has.getD j false = true) : 0 ≤ s.at_ ∧ J q h (j + 1) s.step := by
  have hr := ho.r2
  have hjl : j < q.room := by rw [← ho.hl]; exact has_lt hh
  have hn1 := ho.n1
  have hn2 := ho.n2
  have hah : ahd q.next s.nx = (j : Int) := by rw [hj.nx]; unfold ahd; omega
  have hm : (s.nx, q.data.getD j 0) ∈ s.h := (hj.mem _).2 ⟨by rw [hj.nx]; exact (k.has j hh).2, by show (j : Int) ≤ ahd q.next s.nx; omega⟩
  have hat : 0 ≤ s.at_ := fndI_pos _ _ ⟨_, hm, rfl⟩
  refine ⟨hat, ?_⟩
  obtain ⟨i, c, h1, h2⟩ := fndI_at s.nx s.h 0 (by omega) hat
  have hc : c = q.data.getD j 0 := by
    have h3 := (k.mem _ ((hj.mem _).1 (List.mem_of_getElem? h2)).1).2.2.2
    have h4 : (ahd q.next s.nx).toNat = j := by omega
    change q.data.getD (ahd q.next s.nx).toNat 0 = c at h3
    rw [h4] at h3
    exact h3.symm
  have hi : i < s.h.length := (List.getElem?_eq_some_iff.1 h2).1
  rw [RS.step_at (i := i) (c := c) (by unfold RS.at_; rw [h1]; omega) h2]
  refine ⟨?_, ?_, ?_, nodup_cut hj.nd i, ?_⟩
  · show (s.nx + 1) % 4294967296 = _
    rw [hj.nx]
    omega
  · show s.rd ++ [c] = _
    rw [hj.rd, List.append_assoc, hc]
    congr 1
    rw [List.take_add_one, List.getElem?_eq_getElem (by rw [ho.dl]; exact hjl), List.getD_eq_getElem?_getD, List.getElem?_eq_getElem (by rw [ho.dl]; exact hjl)]
    rfl
  · intro y
    show y ∈ s.h.take i ++ s.h.drop (i + 1) ↔ _
    rw [mem_cut hj.nd h2, hj.mem]
    constructor
    · rintro ⟨⟨h5, h6⟩, h7⟩
      refine ⟨h5, ?_⟩
      rcases (by omega : ahd q.next y.1 = (j : Int) ∨ (j : Int) + 1 ≤ ahd q.next y.1) with h8 | h8
      · exfalso
        apply h7
        have h9 := (k.mem y h5).1
        rw [hj.nx]
        unfold ahd at h8
        omega
      · exact h8
    · rintro ⟨h5, h6⟩
      refine ⟨⟨h5, by omega⟩, fun h7 => ?_⟩
      rw [h7, hah] at h6
      omega
  · show (s.h.take i ++ s.h.drop (i + 1)).length + (j + 1) = _
    have := hj.len
    rw [List.length_append, List.length_take, List.length_drop]
    omega
theorem J.stop {q : RB} {W : Nat} {h : List (Int × UInt8)} (k : HR q W h) (ho : q.Ok) (hW : W ≤ q.room) {s : RS} (hj : J q h (lead q.has W) s) : s.at_ < 0 := by
  have hr := ho.r2
  have hn1 := ho.n1
  have hn2 := ho.n2
  obtain ⟨l1, l2, -⟩ := lead_le q.has W
  rcases (by omega : s.at_ < 0 ∨ 0 ≤ s.at_) with h1 | h1
  · exact h1
  · exfalso
    obtain ⟨i, c, -, h2⟩ := fndI_at s.nx s.h 0 (by omega) h1
    obtain ⟨h3, -⟩ := (hj.mem _).1 (List.mem_of_getElem? h2)
    obtain ⟨-, m2, m3, -⟩ := k.mem _ h3
    have hah : ahd q.next s.nx = (lead q.has W : Int) := by rw [hj.nx]; unfold ahd; have := ho.hl; omega
    change ahd q.next s.nx < W at m2
    change q.has.getD (ahd q.next s.nx).toNat false = true at m3
    rw [hah] at m2 m3
    have h4 := lead_stop q.has W (by omega) (by rw [ho.hl]; omega)
    rw [Int.toNat_natCast, List.getD_eq_getElem?_getD, h4] at m3
    cases m3
theorem J.all {q : RB} {W : Nat} {h : List (Int × UInt8)} (k : HR q W h) (ho : q.Ok) : ∀ j, j ≤ lead q.has W → J q h j ((RS.mk q.next q.ready h).it j) ∧ ∀ i, i < j → 0 ≤ ((RS.mk q.next q.ready h).it i).at_
  | 0, _ => ⟨J.start k ho, fun i hi => absurd hi (Nat.not_lt_zero _)⟩
  | j + 1, hj => by
    obtain ⟨h1, h2⟩ := J.all k ho j (by omega)
    have hh : q.has.getD j false = true := by rw [List.getD_eq_getElem?_getD, lead_get q.has W j (by omega)]; rfl
    obtain ⟨h3, h4⟩ := J.step k ho h1 hh
    refine ⟨h4, fun i hi => ?_⟩
    rcases Nat.lt_or_ge i j with h5 | h5
    · exact h2 i h5
    · have : i = j := by omega
      subst this
      exact h3
theorem HR.slide {q : RB} {W : Nat} {h : List (Int × UInt8)} (k : HR q W h) (ho : q.Ok) (hW : W ≤ q.room) {s : RS} (hj : J q h (lead q.has W) s) : HR (q.slide (lead q.has W)) (W - lead q.has W) s.h := by
  have hr := ho.r2
  have hn1 := ho.n1
  have hn2 := ho.n2
  have hhl := ho.hl
  have hdl := ho.dl
  obtain ⟨l1, l2, -⟩ := lead_le q.has W
  generalize lead q.has W = n at *
  have hb : ∀ p, p + n < q.room → (q.has.drop n ++ List.replicate n false).getD p false = q.has.getD (p + n) false := fun p hp => by
    rw [List.getD_eq_getElem?_getD, List.getD_eq_getElem?_getD, List.getElem?_append_left (by rw [List.length_drop]; omega), List.getElem?_drop, Nat.add_comm]
  have hd : ∀ p, p + n < q.room → (q.data.drop n ++ q.data.drop (q.room - n)).getD p 0 = q.data.getD (p + n) 0 := fun p hp => by
    rw [List.getD_eq_getElem?_getD, List.getD_eq_getElem?_getD, List.getElem?_append_left (by rw [List.length_drop]; omega), List.getElem?_drop, Nat.add_comm]
  have hz : ∀ p, q.room ≤ p + n → (q.has.drop n ++ List.replicate n false).getD p false = false := fun p hp => by
    rw [List.getD_eq_getElem?_getD, List.getElem?_append_right (by rw [List.length_drop]; omega), List.getElem?_replicate]
    split <;> rfl
  refine ⟨?_, ?_, hj.nd, ?_⟩
  · intro y hy
    obtain ⟨h1, h2⟩ := (hj.mem y).1 hy
    obtain ⟨m1, m2, m3, m4⟩ := k.mem y h1
    show _ ∧ ahd ((q.next + (n : Int)) % 4294967296) y.1 < _ ∧ (q.has.drop n ++ List.replicate n false).getD (ahd ((q.next + (n : Int)) % 4294967296) y.1).toNat false = true ∧ (q.data.drop n ++ q.data.drop (q.room - n)).getD (ahd ((q.next + (n : Int)) % 4294967296) y.1).toNat 0 = y.2
    have ha : ahd ((q.next + (n : Int)) % 4294967296) y.1 = ahd q.next y.1 - n := by unfold ahd at h2 m2 ⊢; omega
    have hbd := ahd_bd q.next y.1
    obtain ⟨P, hP⟩ : ∃ P : Nat, ahd q.next y.1 = (P : Int) + n := ⟨(ahd q.next y.1 - n).toNat, by omega⟩
    rw [ha, hP]
    rw [hP] at m2 m3 m4
    have e1 : ((P : Int) + n - n).toNat = P := by omega
    have e2 : ((P : Int) + n).toNat = P + n := by omega
    rw [e2] at m3 m4
    rw [e1, hb P (by omega), hd P (by omega)]
    exact ⟨m1, by omega, m3, m4⟩
  · intro p hp
    change (q.has.drop n ++ List.replicate n false).getD p false = true at hp
    show _ ∧ (((q.next + (n : Int)) % 4294967296 + (p : Int)) % 4294967296, (q.data.drop n ++ q.data.drop (q.room - n)).getD p 0) ∈ s.h
    rcases Nat.lt_or_ge (p + n) q.room with h1 | h1
    · rw [hb p h1] at hp
      obtain ⟨h2, h3⟩ := k.has _ hp
      have e : ((q.next + (n : Int)) % 4294967296 + (p : Int)) % 4294967296 = (q.next + ((p + n : Nat) : Int)) % 4294967296 := by omega
      rw [hd p h1, e]
      refine ⟨by omega, (hj.mem _).2 ⟨h3, ?_⟩⟩
      show (n : Int) ≤ ahd q.next ((q.next + ((p + n : Nat) : Int)) % 4294967296)
      unfold ahd
      omega
    · rw [hz p h1] at hp
      cases hp
  · show q.held - (n : Int) = _
    have := hj.len
    rw [k.held]
    omega

/-- The two states belong together. -/
structure RR (r : RB) (h : List (Int × UInt8)) : Prop where
  ok : r.Ok
  hr : HR r r.win h
theorem RR.start {room : Nat} {next : Int} (h1 : 1 ≤ room) (h2 : room ≤ 2048) (n1 : 0 ≤ next) (n2 : next < 4294967296) : RR (RB.start room next) [] := by
  refine ⟨RB.start_ok h1 h2 n1 n2, fun y hy => (by cases hy), fun p hp => ?_, by simp, rfl⟩
  exfalso
  have hz : (List.replicate room false).getD p false = false := by
    rw [List.getD_eq_getElem?_getD, List.getElem?_replicate]
    split <;> rfl
  change (List.replicate room false).getD p false = true at hp
  rw [hz] at hp
  cases hp
theorem RR.read {r : RB} {h : List (Int × UInt8)} (k : RR r h) (n : Int) : RR (r.read n) h :=
  ⟨k.ok.read n, HR.wider (q := r.read n) ⟨k.hr.mem, k.hr.has, k.hr.nd, k.hr.held⟩ (show r.room - r.ready.length ≤ r.room - (r.ready.drop (r.take n)).length by rw [List.length_drop]; omega)⟩
theorem RR.put {r : RB} {h : List (Int × UInt8)} (k : RR r h) (seq : Int) (l : List UInt8) {s0 : RS} (hs0 : s0 = ⟨r.next, r.ready, rmany r.next ((r.room : Int) - r.ready.length) seq h l (min l.length 65536)⟩) {n : Nat}
    (hend : (s0.it n).at_ < 0) (hall : ∀ j, j < n → 0 ≤ (s0.it j).at_) : n = r.putN seq l ∧ (s0.it n).nx = (r.put seq l).next ∧ (s0.it n).rd = (r.put seq l).ready ∧ RR (r.put seq l) (s0.it n).h := by
  have hwi : ((r.room : Int) - r.ready.length) = (r.win : Int) := by
    have := k.ok.rl
    unfold RB.win
    omega
  have hwr : r.win ≤ r.room := Nat.sub_le _ _
  obtain ⟨m1, m2, m3⟩ := RB.many_room r r.win seq l (min l.length 65536)
  have kf : HR (r.filled seq l) r.win (rmany r.next (r.win : Int) seq h l (min l.length 65536)) := k.hr.many k.ok hwr seq l _
  have hof := k.ok.filled seq l
  have hrm : (r.filled seq l).room = r.room := m1
  have hs0' : s0 = ⟨(r.filled seq l).next, (r.filled seq l).ready, rmany r.next (r.win : Int) seq h l (min l.length 65536)⟩ := by rw [hs0, hwi, show (r.filled seq l).next = r.next from m2, show (r.filled seq l).ready = r.ready from m3]
  generalize rmany r.next (r.win : Int) seq h l (min l.length 65536) = hh at *
  obtain ⟨hJ, hA⟩ := J.all kf hof (lead (r.filled seq l).has r.win) (Nat.le_refl _)
  have hstop := J.stop kf hof (by rw [hrm]; exact hwr) hJ
  rw [← hs0'] at hJ hA hstop
  have hnN : n = r.putN seq l := by
    have e : r.putN seq l = lead (r.filled seq l).has r.win := rfl
    rw [e]
    rcases Nat.lt_trichotomy n (lead (r.filled seq l).has r.win) with h1 | h1 | h1
    · have := hA n h1; omega
    · exact h1
    · have := hall _ h1; omega
  have hput : r.put seq l = (r.filled seq l).slide (lead (r.filled seq l).has r.win) := rfl
  have hsl := kf.slide hof (by rw [hrm]; exact hwr) hJ
  have e : n = lead (r.filled seq l).has r.win := hnN
  rw [← e] at hJ hsl hput
  refine ⟨hnN, by rw [hJ.nx, hput]; rfl, by rw [hJ.rd, hput]; rfl, k.ok.put seq l, ?_⟩
  have hw : r.win - n ≤ (r.put seq l).win := by
    rw [hput]
    show r.win - n ≤ (r.filled seq l).room - ((r.filled seq l).ready ++ (r.filled seq l).data.take n).length
    rw [List.length_append, List.length_take, hof.dl, hrm, show (r.filled seq l).ready = r.ready from m3]
    unfold RB.win
    omega
  exact (hput ▸ hsl : HR (r.put seq l) (r.win - n) _).wider hw
end Go.Proofs.Ytjfamjaebehieaa
