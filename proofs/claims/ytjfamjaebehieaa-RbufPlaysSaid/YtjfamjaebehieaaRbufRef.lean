/- The contracts of package blockyardref12, but Put: held bytes with their numbers, a struct by value. -/
import Derived.Test.YtjfamjaebehieaaRbufHeld
import Derived.Laws.AppendOwnNone
namespace Go.Proofs.Ytjfamjaebehieaa
open Go.RowKit Go

theorem rahead12_any (a b : Int) (ha : 0 ≤ a) (ha' : a < 4294967296) (hb : 0 ≤ b) (hb' : b < 4294967296) (w : World) :
    Calls Try.prog 24 #[.int .u32 a, .int .u32 b] w fun e w' => e = .returned (.int .i64 (ahd a b)) ∧ w = w' := by
  by_cases h : b - a < 0
  · have hv : ahd a b = b - a + 4294967296 := by unfold ahd; omega
    have HV := Lib.hid hv
    clear hv
    go_enter Try.func24, Try.ntmps24
    go_wp2
    go_ret
    exact ⟨ret_int HV.out.symm, rfl⟩
  · have hv : ahd a b = b - a := by unfold ahd; omega
    have HV := Lib.hid hv
    clear hv
    go_enter Try.func24, Try.ntmps24
    go_wp2
    go_ret
    exact ⟨ret_int HV.out.symm, rfl⟩
theorem rin12_any (x frm n : Int) (hx : 0 ≤ x) (hx' : x < 4294967296) (hf : 0 ≤ frm) (hf' : frm < 4294967296) (w : World) :
    Calls Try.prog 22 #[.int .u32 x, .int .u32 frm, .int .i64 n] w fun e w' => e = .returned (.bool (inB x frm n)) ∧ w = w' := by
  by_cases h : 0 < n
  · go_enter Try.func22, Try.ntmps22
    go_wp2_with (go_at_call 24; refine (rahead12_any _ _ hf hf' hx hx' _).mono ?_; rintro e w' ⟨rfl, rfl⟩)
    go_ret
    exact ⟨rfl, rfl⟩
  · have hb := ahd_bd frm x
    have hv : inB x frm n = false := by unfold inB; simp; omega
    have HV := Lib.hid hv
    clear hv hb
    go_enter Try.func22, Try.ntmps22
    go_wp2
    go_ret
    exact ⟨ret_bool HV.out.symm, rfl⟩

/-- The cells of numbered bytes. -/
def ncells (l : List (Int × UInt8)) : List Value := l.flatMap fun x => [.int .u32 x.1, .int .u8 (x.2.toNat : Int)]
theorem ncells_length (l : List (Int × UInt8)) : (ncells l).length = l.length * 2 := by
  unfold ncells
  induction l with
  | nil => rfl
  | cons x r ih => rw [List.flatMap_cons, List.length_append, ih]; simp; omega
theorem ncells_append (l m : List (Int × UInt8)) : ncells (l ++ m) = ncells l ++ ncells m := by unfold ncells; rw [List.flatMap_append]
theorem ncells_get (l : List (Int × UInt8)) : ∀ (j : Nat) x, l[j]? = some x → (ncells l)[j * 2]? = some (.int .u32 x.1) ∧ (ncells l)[j * 2 + 1]? = some (.int .u8 (x.2.toNat : Int)) := by
  induction l with
  | nil => intro j x h; simp at h
  | cons y r ih =>
    intro j x h
    cases j with
    | zero => simp at h; subst h; exact ⟨rfl, rfl⟩
    | succ j =>
      rw [List.getElem?_cons_succ] at h
      have h2 := ih j x h
      have e1 : (j + 1) * 2 = j * 2 + 1 + 1 := by omega
      rw [e1]
      exact h2
theorem ncells_one (l : List (Int × UInt8)) : ∀ v ∈ ncells l, v.oneCell' = true := by
  intro v hv
  unfold ncells at hv
  obtain ⟨x, -, hx⟩ := List.mem_flatMap.1 hv
  simp at hx
  rcases hx with rfl | rfl <;> rfl
theorem ncells_drop (l : List (Int × UInt8)) : ∀ k, (ncells l).drop (k * 2) = ncells (l.drop k) := by
  induction l with
  | nil => intro k; simp [ncells]
  | cons x r ih =>
    intro k
    cases k with
    | zero => simp
    | succ k =>
      have e1 : (k + 1) * 2 = k * 2 + 1 + 1 := by omega
      rw [e1]
      exact ih k
theorem ncells_take (l : List (Int × UInt8)) : ∀ k, (ncells l).take (k * 2) = ncells (l.take k) := by
  induction l with
  | nil => intro k; simp [ncells]
  | cons x r ih =>
    intro k
    cases k with
    | zero => simp [ncells]
    | succ k =>
      have e1 : (k + 1) * 2 = k * 2 + 1 + 1 := by omega
      rw [e1]
      show _ :: _ :: (ncells r).take (k * 2) = _
      rw [ih]
      rfl
/-- What is held, in a row of its own. -/
def Own (base : Nat) (w : World) (v : Value) (l : List (Int × UInt8)) : Prop := w.ownsRow base 59 2 v l.length (ncells l)
theorem Own.frm {base : Nat} {w w' : World} {v : Value} {l : List (Int × UInt8)} (h : Own base w v l) (hf : Frm [] w w') : Own base w' v l := own_frm h hf (by simp)
theorem Own.base {b b' : Nat} {w : World} {v : Value} {l : List (Int × UInt8)} (h : Own b w v l) (hb : b' ≤ b) : Own b' w v l := by
  obtain ⟨hl, hv⟩ := h
  refine ⟨hl, hv.imp id ?_⟩
  rintro ⟨g, cap, cur, h1, h2, h3⟩
  exact ⟨g, cap, cur, h1, Nat.le_trans hb h2, h3⟩
theorem Own.form {base : Nat} {w : World} {v : Value} {l : List (Int × UInt8)} (h : Own base w v l) : ∃ A cap, v = .slice A l.length cap ∧ l.length ≤ cap ∧ cap ≤ 9223372036854775807 ∧ (A = none → cap = 0) ∧
    (l ≠ [] → ∃ g, A = some ⟨g, 0, none⟩ ∧ g < w.heap.size ∧ ∀ (j : Nat) (x : Int × UInt8), l[j]? = some x → w.cell? ⟨g, j * 2, none⟩ = some (.int .u32 x.1) ∧ w.cell? ⟨g, j * 2 + 1, none⟩ = some (.int .u8 (x.2.toNat : Int))) := by
  obtain ⟨hl, hv⟩ := h
  rcases hv with ⟨rfl, h0⟩ | ⟨g, cap, cur, rfl, hg, hh, h1, h2, hr⟩
  · exact ⟨none, 0, by rw [h0], by omega, by omega, fun _ => rfl, fun hne => absurd (List.length_pos_iff.mpr hne) (by omega)⟩
  · refine ⟨_, cap, rfl, h1, h2, fun h0 => (by cases h0), fun _ => ⟨g, rfl, (show Blk w g _ cur from hh).lt, fun j x hx => ?_⟩⟩
    have hc := World.ownsRow.cells (w := w) (base := base) (e := 59) (size := 2) (n := l.length) (xs := ncells l) (v := .slice (some ⟨g, 0, none⟩) l.length cap) ⟨hl, .inr ⟨g, cap, cur, rfl, hg, hh, h1, h2, hr⟩⟩ (g := g) rfl
    have h1 := hc _ _ (ncells_get l j x hx).1
    have h2 := hc _ _ (ncells_get l j x hx).2
    rw [Addr.add_lit, Nat.zero_add] at h1 h2
    exact ⟨h1, h2⟩

/-- The place of a number. -/
def fndI (x : Int) : List (Int × UInt8) → Int → Int
  | [], _ => -1
  | y :: r, i => if y.1 = x then i else fndI x r (i + 1)
def refC (room nx : Int) (rd : List UInt8) (v : Value) : Array Value := #[.int .i64 room, .int .u32 nx, .string ⟨rd.toArray⟩, v]
set_option maxHeartbeats 2000000 in
theorem rfind_any (base : Nat) (room nx x : Int) (rd : List UInt8) (v : Value) (l : List (Int × UInt8)) (w : World) (h : Own base w v l) (hlen : l.length ≤ 1000000) :
    Calls Try.prog 23 #[.agg #[.int .i64 room, .int .u32 nx, .string ⟨rd.toArray⟩, v], .int .u32 x] w fun en w' => en = .returned (.int .i64 (fndI x l 0)) ∧ Frm [] w w' := by
  obtain ⟨A, cap, rfl, h1, h2, h4, h3⟩ := h.form
  have H3 := Lib.hid h3
  obtain ⟨N, hN⟩ : ∃ N, l.length = N := ⟨_, rfl⟩
  rw [hN] at h1 hlen ⊢
  have HN := Lib.hid hN
  clear h3 h4 hN h
  go_enter Try.func23, Try.ntmps23
  go_upto_region 1 with fail
  obtain ⟨b1, hb1⟩ : ∃ b, b = w.heap.size := ⟨_, rfl⟩
  refine wp_world (fun wx => Frm [] w wx ∧ Blk wx b1 39 (refC room nx rd (.slice A N cap))) ⟨(Frm.refl _ _).alloc _, Blk.new_at hb1.symm _ _⟩ ?_
  rintro wx ⟨hfx, hx1⟩
  rw [← hb1]
  have c3 : wx.cell? ⟨b1, 3, none⟩ = some (.slice A N cap) := hx1.cell 3
  have HFX := Lib.hid hfx
  clear hfx hx1 hb1
  go_wp2_with fail
  go_loopg [5] N (fun gk i wr => ∃ (k : Nat), k ≤ N ∧ gk = N - k ∧ i = .int .i64 (k : Int) ∧ wr = wx ∧ fndI x (l.drop k) (k : Int) = fndI x l 0)
  case atStart => exact ⟨0, Nat.zero_le _, rfl, rfl, rfl, rfl⟩
  case round =>
    obtain ⟨k, hk, hgk, rfl, rfl, heq⟩ := hrel
    have HEQ := Lib.hid heq
    clear heq
    by_cases hlt : k < N
    · obtain ⟨y, hy⟩ : ∃ y, l[k]? = some y := ⟨l[k]'(by rw [HN.out]; exact hlt), List.getElem?_eq_getElem _⟩
      have hne : l ≠ [] := fun h0 => by have := HN.out; rw [h0] at this; simp at this; omega
      obtain ⟨g, rfl, hg, hc⟩ := H3.out hne
      have y0 := (HFX.out.cell (p := ⟨g, k * 2, none⟩) hg (by simp)).trans (hc k y hy).1
      have hd : l.drop k = y :: l.drop (k + 1) := by
        obtain ⟨hk, rfl⟩ := List.getElem?_eq_some_iff.1 hy
        exact List.drop_eq_getElem_cons hk
      have HD := Lib.hid hd
      clear hc hne hy hd
      by_cases hs : y.1 = x
      · have q : (y.1 == x) = true := by simpa using hs
        have he : fndI x l 0 = (k : Int) := by
          rw [← HEQ.out, HD.out]
          exact if_pos hs
        have HE := Lib.hid he
        clear he hs
        go_wp2_with fail
        go_ret
        exact ⟨ret_int HE.out.symm, HFX.out⟩
      · have q : (y.1 == x) = false := by simpa using hs
        have he : fndI x (l.drop (k + 1)) ((k : Int) + 1) = fndI x l 0 := by
          rw [← HEQ.out, HD.out]
          exact (if_neg hs).symm
        have HE := Lib.hid he
        clear he hs
        go_wp2_with fail
        go_roundg (N - (k + 1))
        case measure => omega
        case rel => exact ⟨k + 1, by omega, rfl, by go_num, rfl, by rw [← HE.out]; rfl⟩
    · obtain rfl : k = N := by omega
      have he : fndI x l 0 = -1 := by
        rw [← HEQ.out, List.drop_of_length_le (by rw [HN.out]; exact Nat.le_refl _)]
        rfl
      have HE := Lib.hid he
      clear he hlt
      go_wp2_with fail
      go_ret
      exact ⟨ret_int HE.out.symm, HFX.out⟩
theorem rwin_any (room nx : Int) (rd : List UInt8) (v : Value) (w : World) (h0 : 0 ≤ room) (h1 : room ≤ 1000000) (h2 : rd.length ≤ 1000000) :
    Calls Try.prog 19 #[.agg #[.int .i64 room, .int .u32 nx, .string ⟨rd.toArray⟩, v]] w fun en w' => en = .returned (.int .i64 (room - rd.length)) ∧ Frm [] w w' := by
  have hsz : (ByteArray.mk rd.toArray).size = rd.length := by simp [ByteArray.size]
  have h3 : (rd.length : Int) ≤ 1000000 := by omega
  go_enter Try.func19, Try.ntmps19
  go_wp2_with fail
  go_ret
  exact ⟨rfl, (Frm.refl _ _).alloc _⟩
end Go.Proofs.Ytjfamjaebehieaa
