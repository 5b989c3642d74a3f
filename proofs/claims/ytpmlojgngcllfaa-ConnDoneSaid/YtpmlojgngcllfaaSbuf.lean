/- The contracts of package sbuf: a buffer that lies in a block of its own. -/
import Derived.Test.YtpmlojgngcllfaaMem
import Derived.Test.YtpmlojgngcllfaaSeqnA
namespace Go.Proofs.Ytpmlojgngcllfaa
open Go.RowKit Go

/-- What a stream has to bring over. -/
structure SB where
  room : Int
  una : Int
  s : List UInt8
def SB.cells (b : SB) : Array Value := #[.int .i64 b.room, .int .u32 b.una, .string ⟨b.s.toArray⟩]
structure SB.Ok (b : SB) : Prop where
  r1 : 1 ≤ b.room
  r2 : b.room ≤ 2048
  u1 : 0 ≤ b.una
  u2 : b.una < 4294967296
  l1 : (b.s.length : Int) ≤ b.room
theorem SB.at_ {b : SB} {w : World} {g : Nat} {t : TypeId} (h : Blk w g t b.cells) :
    w.cell? ⟨g, 0, none⟩ = some (.int .i64 b.room) ∧ w.cell? ⟨g, 1, none⟩ = some (.int .u32 b.una) ∧ w.cell? ⟨g, 2, none⟩ = some (.string ⟨b.s.toArray⟩) :=
  ⟨h.cell 0, h.cell 1, h.cell 2⟩

theorem snone_nil (w : World) : Calls Try.prog 69 #[.pointer none] w fun e w' => e = .returned (.bool true) ∧ w = w' := by
  go_enter Try.func69, Try.ntmps69
  go_wp2
  go_ret
  exact ⟨rfl, rfl⟩
theorem snone_blk (g : Nat) (b : SB) (w : World) (ho : b.Ok) (hb : Blk w g 78 b.cells) :
    Calls Try.prog 69 #[.pointer (some ⟨g, 0, none⟩)] w fun e w' => e = .returned (.bool false) ∧ w = w' := by
  have hc := (SB.at_ hb).1
  have hz : (b.room == 0) = false := by have := ho.r1; simp; omega
  clear hb
  go_enter Try.func69, Try.ntmps69
  go_wp2
  go_ret
  exact ⟨rfl, rfl⟩
theorem snone_bare (g : Nat) (w : World) (hc : w.cell? ⟨g, 0, none⟩ = some (.int .i64 0)) :
    Calls Try.prog 69 #[.pointer (some ⟨g, 0, none⟩)] w fun e w' => e = .returned (.bool true) ∧ w = w' := by
  go_enter Try.func69, Try.ntmps69
  go_wp2
  go_ret
  exact ⟨rfl, rfl⟩

theorem slen_blk (g : Nat) (b : SB) (w : World) (ho : b.Ok) (hb : Blk w g 78 b.cells) :
    Calls Try.prog 76 #[.pointer (some ⟨g, 0, none⟩)] w fun e w' => e = .returned (.int .i64 (b.s.length : Int)) ∧ w = w' := by
  have hc := (SB.at_ hb).2.2
  go_enter Try.func76, Try.ntmps76
  go_wp2_with (go_at_call 69; refine (snone_blk g b _ ho hb).mono ?_; rintro e w' ⟨rfl, rfl⟩)
  go_ret
  exact ⟨rfl, rfl⟩

theorem suna_blk (g : Nat) (b : SB) (w : World) (ho : b.Ok) (hb : Blk w g 78 b.cells) :
    Calls Try.prog 75 #[.pointer (some ⟨g, 0, none⟩)] w fun e w' => e = .returned (.int .u32 b.una) ∧ w = w' := by
  have hc := (SB.at_ hb).2.1
  go_enter Try.func75, Try.ntmps75
  go_wp2_with (go_at_call 69; refine (snone_blk g b _ ho hb).mono ?_; rintro e w' ⟨rfl, rfl⟩)
  go_ret
  exact ⟨rfl, rfl⟩

theorem send_blk (g : Nat) (b : SB) (w : World) (ho : b.Ok) (hb : Blk w g 78 b.cells) :
    Calls Try.prog 74 #[.pointer (some ⟨g, 0, none⟩)] w fun e w' => e = .returned (.int .u32 ((b.una + b.s.length) % 4294967296)) ∧ w = w' := by
  obtain ⟨r1, r2, u1, u2, l1⟩ := ho
  have ho : b.Ok := ⟨r1, r2, u1, u2, l1⟩
  go_enter Try.func74, Try.ntmps74
  go_wp2_with (first
    | (go_at_call 75; refine (suna_blk g b _ ho hb).mono ?_; rintro e w' ⟨rfl, rfl⟩)
    | (go_at_call 76; refine (slen_blk g b _ ho hb).mono ?_; rintro e w' ⟨rfl, rfl⟩))
  go_ret
  exact ⟨rfl, rfl⟩

theorem sroom_blk (g : Nat) (b : SB) (w : World) (ho : b.Ok) (hb : Blk w g 78 b.cells) :
    Calls Try.prog 48 #[.pointer (some ⟨g, 0, none⟩)] w fun e w' => e = .returned (.int .i64 (b.room - b.s.length)) ∧ Drw w w' := by
  obtain ⟨c0, c1, c2⟩ := SB.at_ hb
  have r1 := ho.r1
  have r2 := ho.r2
  have l1 := ho.l1
  go_enter Try.func48, Try.ntmps48
  go_wp2_with (go_at_call 69; refine (snone_blk g b _ ho hb).mono ?_; rintro e w' ⟨rfl, rfl⟩)
  go_quiet (fail)
  go_wp2
  go_ret
  exact ⟨rfl, Drw.mk _ _⟩

/-- How many bytes of l are taken. -/
def SB.fits (b : SB) (l : List UInt8) : Nat := min l.length (b.room - b.s.length).toNat
def SB.write (b : SB) (l : List UInt8) : SB := { b with s := b.s ++ l.take (b.fits l) }

theorem swrite_blk (g : Nat) (b : SB) (l : List UInt8) (w : World) (ho : b.Ok) (hl : l.length ≤ maxLen) (hb : Blk w g 78 b.cells) :
    Calls Try.prog 35 #[.pointer (some ⟨g, 0, none⟩), .string ⟨l.toArray⟩] w fun e w' => e = .returned (.int .i64 (b.fits l : Nat)) ∧ Blk w' g 78 (b.write l).cells ∧ Frm [g] w w' := by
  obtain ⟨c0, c1, c2⟩ := SB.at_ hb
  have f2 := hb.frozen 2
  have r1 := ho.r1
  have r2 := ho.r2
  have l1 := ho.l1
  unfold maxLen at hl
  have hfit : (if b.room - b.s.length < (l.length : Int) then b.room - b.s.length else (l.length : Int)) = ((b.fits l : Nat) : Int) := by unfold SB.fits; split <;> omega
  have hf1 : b.fits l ≤ l.length := by unfold SB.fits; omega
  have hf2 : b.s.length + (b.fits l : Int) ≤ b.room := by unfold SB.fits; omega
  generalize hF : b.fits l = F at *
  have HF := Lib.hid hF
  clear hF
  by_cases h0 : F = 0
  · subst h0
    go_enter Try.func35, Try.ntmps35
    go_wp2_with fail
    refine (sroom_blk g b _ ho hb).mono ?_
    rintro e w1 ⟨rfl, hd⟩
    have hb1 := hd.blk hb
    obtain ⟨c0, c1, c2⟩ := SB.at_ hb1
    have f2 := hb1.frozen 2
    go_wp2_with fail
    go_ret
    exact ⟨rfl, hb1.as_ (by unfold SB.write; rw [HF.out]; simp), hd.next (Frm.refl _ _)⟩
  · have hp : 0 < F := by omega
    go_enter Try.func35, Try.ntmps35
    go_wp2_with fail
    refine (sroom_blk g b _ ho hb).mono ?_
    rintro e w1 ⟨rfl, hd⟩
    have hb1 := hd.blk hb
    obtain ⟨c0, c1, c2⟩ := SB.at_ hb1
    have f2 := hb1.frozen 2
    go_wp2_with fail
    go_region
    go_wp2_with fail
    go_ret
    refine ⟨rfl, ?_, ?_⟩
    · rw [ba_extract, ba_append]
      refine ((hb1.drew).set_to 2 _ ?_)
      unfold SB.write
      rw [HF.out]
      rfl
    · exact (hd.next (Frm.refl _ _)).drew.setCell (.inl (by simp)) _

theorem SB.Ok.write {b : SB} (ho : b.Ok) (l : List UInt8) : (b.write l).Ok := by
  obtain ⟨r1, r2, u1, u2, l1⟩ := ho
  refine ⟨r1, r2, u1, u2, ?_⟩
  show ((b.s ++ l.take (b.fits l)).length : Int) ≤ b.room
  rw [List.length_append, List.length_take]
  unfold SB.fits
  omega

/-- How many bytes an acknowledgement lets go. -/
def SB.gone (b : SB) (n : Int) : Nat := if ahd b.una n ≤ b.s.length then (ahd b.una n).toNat else 0
def SB.ack (b : SB) (n : Int) : SB := if 1 ≤ ahd b.una n ∧ ahd b.una n ≤ b.s.length then { b with s := b.s.drop (ahd b.una n).toNat, una := n } else b

theorem sack_blk (g : Nat) (b : SB) (n : Int) (w : World) (ho : b.Ok) (hb : Blk w g 78 b.cells) :
    Calls Try.prog 65 #[.pointer (some ⟨g, 0, none⟩), .int .u32 n] w fun e w' => e = .returned (.int .i64 (b.gone n : Nat)) ∧ Blk w' g 78 (b.ack n).cells ∧ Frm [g] w w' := by
  obtain ⟨c0, c1, c2⟩ := SB.at_ hb
  have f1 := hb.frozen 1
  have f2 := hb.frozen 2
  have r2 := ho.r2
  have l1 := ho.l1
  obtain ⟨d0, d1⟩ := ahd_bd b.una n
  rcases Int.lt_or_le (ahd b.una n) 1 with h1 | h1
  · have hz : ahd b.una n = 0 := by omega
    have hg : b.gone n = 0 := by unfold SB.gone; rw [hz]; simp
    have ha : b.ack n = b := by unfold SB.ack; rw [if_neg (by omega)]
    have HG := Lib.hid hg
    have HA := Lib.hid ha
    have HZ := Lib.hid hz
    clear hg ha hz
    go_enter Try.func65, Try.ntmps65
    go_wp2_with (first
      | (go_at_call 75; refine (suna_blk g b _ ho hb).mono ?_; rintro e w' ⟨rfl, rfl⟩)
      | (go_at_call 57; refine (ahead_any _ _ _).mono ?_; rintro e w' ⟨rfl, rfl⟩))
    go_ret
    exact ⟨by rw [HG.out]; rfl, hb.as_ (by rw [HA.out]), Frm.refl _ _⟩
  · rcases Int.lt_or_le b.s.length (ahd b.una n) with h2 | h2
    · have hg : b.gone n = 0 := by unfold SB.gone; rw [if_neg (by omega)]
      have ha : b.ack n = b := by unfold SB.ack; rw [if_neg (by omega)]
      have HG := Lib.hid hg
      have HA := Lib.hid ha
      clear hg ha
      go_enter Try.func65, Try.ntmps65
      go_wp2_with (first
        | (go_at_call 75; refine (suna_blk g b _ ho hb).mono ?_; rintro e w' ⟨rfl, rfl⟩)
        | (go_at_call 76; refine (slen_blk g b _ ho hb).mono ?_; rintro e w' ⟨rfl, rfl⟩)
        | (go_at_call 57; refine (ahead_any _ _ _).mono ?_; rintro e w' ⟨rfl, rfl⟩))
      go_ret
      exact ⟨by rw [HG.out]; rfl, hb.as_ (by rw [HA.out]), Frm.refl _ _⟩
    · obtain ⟨k, hk⟩ : ∃ k : Nat, ahd b.una n = (k : Int) := ⟨(ahd b.una n).toNat, by omega⟩
      have hg : b.gone n = k := by unfold SB.gone; rw [hk, if_pos (by omega)]; simp
      have ha : b.ack n = { b with s := b.s.drop k, una := n } := by unfold SB.ack; rw [hk, if_pos (by omega)]; simp
      rw [hk] at h1 h2
      have HG := Lib.hid hg
      have HA := Lib.hid ha
      have HK := Lib.hid hk
      clear hg ha hk d0 d1
      have hk2 : k ≤ b.s.length := by omega
      have hk1 : 1 ≤ k := by omega
      go_enter Try.func65, Try.ntmps65
      go_wp2_with (first
        | (go_at_call 75; refine (suna_blk g b _ ho hb).mono ?_; rintro e w' ⟨rfl, rfl⟩)
        | (go_at_call 76; refine (slen_blk g b _ ho hb).mono ?_; rintro e w' ⟨rfl, rfl⟩)
        | (go_at_call 57; refine (ahead_any _ _ _).mono ?_; rw [HK.out]; rintro e w' ⟨rfl, rfl⟩))
      go_ret
      refine ⟨by rw [HG.out]; rfl, ?_, ?_⟩
      · rw [ba_extract, show (b.s.drop k).take (b.s.length - k) = b.s.drop k from List.take_of_length_le (by simp)]
        refine (((hb.set_ 2 _).set_ 1 _).as_ ?_)
        rw [HA.out]
        rfl
      · exact ((Frm.refl _ _).setCell (.inl (by simp)) _).setCell (.inl (by simp)) _

theorem SB.Ok.ack {b : SB} (ho : b.Ok) {n : Int} (n0 : 0 ≤ n) (n1 : n < 4294967296) : (b.ack n).Ok := by
  obtain ⟨r1, r2, u1, u2, l1⟩ := ho
  unfold SB.ack
  split
  · refine ⟨r1, r2, n0, n1, ?_⟩
    show ((b.s.drop _).length : Int) ≤ b.room
    rw [List.length_drop]
    omega
  · exact ⟨r1, r2, u1, u2, l1⟩

/-- What is told. -/
def SB.get (b : SB) (seq n : Int) : List UInt8 := if n < 1 ∨ b.s.length ≤ ahd b.una seq then [] else (b.s.drop (ahd b.una seq).toNat).take n.toNat

theorem sget_blk (g : Nat) (b : SB) (seq n : Int) (w : World) (ho : b.Ok) (hb : Blk w g 78 b.cells) :
    Calls Try.prog 72 #[.pointer (some ⟨g, 0, none⟩), .int .u32 seq, .int .i64 n] w fun e w' => e = .returned (.string ⟨(b.get seq n).toArray⟩) ∧ Drw w w' := by
  obtain ⟨c0, c1, c2⟩ := SB.at_ hb
  have r2 := ho.r2
  have l1 := ho.l1
  obtain ⟨d0, d1⟩ := ahd_bd b.una seq
  rcases Int.lt_or_le n 1 with h1 | h1
  · have hg : b.get seq n = [] := by unfold SB.get; rw [if_pos (by omega)]
    have HG := Lib.hid hg
    clear hg
    go_enter Try.func72, Try.ntmps72
    go_wp2_with (first
      | (go_at_call 75; refine (suna_blk g b _ ho hb).mono ?_; rintro e w' ⟨rfl, rfl⟩)
      | (go_at_call 57; refine (ahead_any _ _ _).mono ?_; rintro e w' ⟨rfl, rfl⟩))
    go_ret
    exact ⟨by rw [HG.out]; rfl, Drw.refl _⟩
  · rcases Int.lt_or_le (ahd b.una seq) b.s.length with h2 | h2
    · obtain ⟨k, hk⟩ : ∃ k : Nat, ahd b.una seq = (k : Int) := ⟨(ahd b.una seq).toNat, by omega⟩
      rw [hk] at h2
      obtain ⟨T, hT⟩ : ∃ T : Nat, (if (b.s.length : Int) - k < n then (b.s.length : Int) - k else n) = (T : Int) :=
        ⟨(if (b.s.length : Int) - k < n then (b.s.length : Int) - k else n).toNat, by split <;> omega⟩
      have hg : b.get seq n = (b.s.drop k).take T := by
        unfold SB.get
        rw [hk, if_neg (by omega), Int.toNat_natCast]
        rcases Int.lt_or_le ((b.s.length : Int) - k) n with h3 | h3
        · rw [if_pos h3] at hT
          rw [List.take_of_length_le (by simp; omega), List.take_of_length_le (by simp; omega)]
        · rw [if_neg (by omega)] at hT
          rw [show n.toNat = T from by omega]
      have hT1 : (k : Int) + T ≤ b.s.length := by rw [← hT]; split <;> omega
      have hT2 : k + T ≤ b.s.length := by omega
      have hT0 : (0 : Int) ≤ T := by omega
      have hk0 : (0 : Int) ≤ k := by omega
      have HG := Lib.hid hg
      have HK := Lib.hid hk
      clear hg hk d0 d1
      go_enter Try.func72, Try.ntmps72
      go_wp2_with (first
        | (go_at_call 75; refine (suna_blk g b _ ho hb).mono ?_; rintro e w' ⟨rfl, rfl⟩)
        | (go_at_call 76; refine (slen_blk g b _ ho hb).mono ?_; rintro e w' ⟨rfl, rfl⟩)
        | (go_at_call 57; refine (ahead_any _ _ _).mono ?_; rw [HK.out]; rintro e w' ⟨rfl, rfl⟩))
      go_region
      go_wp2_with fail
      go_ret
      exact ⟨ret_str (by rw [ba_extract, HG.out, show k + T - k = T from by omega]), Drw.mk _ _⟩
    · have hg : b.get seq n = [] := by unfold SB.get; rw [if_pos (by omega)]
      have HG := Lib.hid hg
      clear hg
      go_enter Try.func72, Try.ntmps72
      go_wp2_with (first
        | (go_at_call 75; refine (suna_blk g b _ ho hb).mono ?_; rintro e w' ⟨rfl, rfl⟩)
        | (go_at_call 76; refine (slen_blk g b _ ho hb).mono ?_; rintro e w' ⟨rfl, rfl⟩)
        | (go_at_call 57; refine (ahead_any _ _ _).mono ?_; rintro e w' ⟨rfl, rfl⟩))
      go_ret
      exact ⟨by rw [HG.out]; rfl, Drw.refl _⟩

theorem snew_bad (una room : Int) (w : World) (h : room < 1 ∨ 2048 < room) :
    Calls Try.prog 51 #[.int .u32 una, .int .i64 room] w fun e w' => e = .returned (.tuple #[.pointer none, .int .i64 1]) ∧ w = w' := by
  by_cases h1 : room < 1
  · clear h
    go_enter Try.func51, Try.ntmps51
    go_wp2
    go_ret2
    exact ⟨rfl, rfl⟩
  · have h2 : 2048 < room := by omega
    clear h
    go_enter Try.func51, Try.ntmps51
    go_wp2
    go_ret2
    exact ⟨rfl, rfl⟩

theorem snew_ok (una room : Int) (w : World) (h1 : 1 ≤ room) (h2 : room ≤ 2048) :
    Calls Try.prog 51 #[.int .u32 una, .int .i64 room] w fun e w' =>
      e = .returned (.tuple #[.pointer (some ⟨w.heap.size, 0, none⟩), .int .i64 0]) ∧ Blk w' w.heap.size 78 (SB.mk room una []).cells ∧ Frm [] w w' := by
  go_enter Try.func51, Try.ntmps51
  go_wp2
  go_ret2
  exact ⟨rfl, Blk.new _ _ _, (Frm.refl _ _).alloc _⟩

theorem SB.new_ok {una room : Int} (h1 : 1 ≤ room) (h2 : room ≤ 2048) (u1 : 0 ≤ una) (u2 : una < 4294967296) : (SB.mk room una []).Ok :=
  ⟨h1, h2, u1, u2, by show ((0 : Nat) : Int) ≤ room; omega⟩

end Go.Proofs.Ytpmlojgngcllfaa
