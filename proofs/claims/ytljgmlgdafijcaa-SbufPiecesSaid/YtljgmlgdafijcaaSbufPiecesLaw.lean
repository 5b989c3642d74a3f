/- Proved: the statement Rows.SbufPiecesSaid: for every input the Go function blockyardlaw13.SbufPieces returns true and leaves its arguments as they were. Conditions: none beyond the row's own. -/
import Derived.Test.YtljgmlgdafijcaaRows
import Derived.Test.YtljgmlgdafijcaaSbufAux
import Derived.Test.YtljgmlgdafijcaaSbufPlain
import Derived.WalkKit
import Derived.ProofKit
import Derived.OpenShut
import Derived.ShutString
import Derived.ChangeOld
import Derived.Below
namespace Go.Proofs.Ytljgmlgdafijcaa.sbufPieces
open Go.ChangeShapes Go.WideShapes Go.ChangeAt Go.RowKit
open Go.ChangeMaps (open_string shut_string)
set_option linter.unusedVariables false

theorem own : ownKnob Try.prog.godebug = none := by kernel_rfl
theorem laidOut : laidOutB Try.prog = true := by kernel_rfl

def SP (g : Nat) (S : List UInt8) (w wr : World) (gl wt : Nat) (b : SB) : Prop :=
  b.Ok ∧ gl ≤ wt ∧ wt ≤ S.length ∧ b.s = (S.take wt).drop gl ∧ Blk wr g 45 b.cells ∧ Frm [] w wr
set_option maxRecDepth 100000 in
set_option maxHeartbeats 2000000 in
theorem walk (a0 : Int) (a1 : Int) (a2 : ByteArray) (a3 : Option Addr) (len3 cap3 : Nat) (w : World) (w0 : (Lit.int .u32 a0).wf = true) (w1 : (Lit.int .u16 a1).wf = true) (w2 : a2.size ≤ maxLen) (z3 : List Int) (w3 : Ints .u8 w a3 len3 cap3 z3) : Calls Try.prog 7 #[.int .u32 a0, .int .u16 a1, .string a2, .slice a3 len3 cap3] w fun e w' => e = .returned (.bool true) ∧ Below w.heap.size w w' := by
  obtain ⟨S, rfl⟩ := ba_list a2
  rw [ba_size] at w2
  have hSl : S.length ≤ 9223372036854775807 := w2
  obtain ⟨u0, u1⟩ := u32_of_wf w0
  obtain ⟨r0, r1⟩ := u16_of_wf w1
  clear w0 w1 w2
  obtain ⟨hxl, hlc, hcm, hxw, hxc⟩ := w3
  have hlm : cap3 ≤ 9223372036854775807 := hcm
  clear hcm
  by_cases hbig : 3000 < S.length
  · have hbig' : decide ((3000 : Int) < (S.length : Int)) = true := by simp; omega
    go_enter Try.func7, Try.ntmps7
    go_wp2_with (go_at_call 12; refine (awake_any _).mono ?_; rintro e w1 ⟨rfl, hf1⟩)
    go_ret
    exact ⟨rfl, hf1.below (Nat.le_refl _) (by simp)⟩
  have hbig' : decide ((3000 : Int) < (S.length : Int)) = false := by simp; omega
  by_cases hbl : 100 < len3
  · have hbl' : decide ((100 : Int) < (len3 : Int)) = true := by simp; omega
    go_enter Try.func7, Try.ntmps7
    go_wp2_with (go_at_call 12; refine (awake_any _).mono ?_; rintro e w1 ⟨rfl, hf1⟩)
    go_ret
    exact ⟨rfl, hf1.below (Nat.le_refl _) (by simp)⟩
  have hbl' : decide ((100 : Int) < (len3 : Int)) = false := by simp; omega
  have q1 : 1 ≤ 1 + a1 % 300 := by omega
  have q2 : 1 + a1 % 300 ≤ 2048 := by omega
  have ho0 := SB.new_ok q1 q2 u0 u1
  go_enter Try.func7, Try.ntmps7
  go_wp2_with (go_at_call 12; refine (awake_any _).mono ?_; rintro e w1 ⟨rfl, hf1⟩)
  refine (snew_ok _ _ _ q1 q2).mono ?_
  rintro e wa ⟨rfl, hb0, hf0⟩
  have hsp0 : SP w1.heap.size S w wa 0 0 _ := ⟨ho0, Nat.le_refl _, Nat.zero_le _, by simp, hb0, hf1.next0 hf0⟩
  have hlt0 : w.heap.size ≤ w1.heap.size := hf1.size
  clear ho0 hb0 hf0 hf1
  generalize hG1 : w1.heap.size = G1 at *
  clear hG1
  go_wp2_with fail
  go_loopg [11, 12, 13] 4001 (fun gk wt got i wr => ∃ (k gl wn : Nat) (b : SB), k ≤ 4000 ∧ gk = 4000 - k + 1 ∧ k ≤ gl ∧ wt = .int .i64 (wn : Int) ∧ got = .string ⟨(S.take gl).toArray⟩ ∧ i = .int .i64 (k : Int) ∧ SP G1 S w wr gl wn b)
  case atStart => exact ⟨0, 0, 0, _, by omega, rfl, by omega, rfl, rfl, rfl, hsp0⟩
  case round =>
    clear hsp0
    obtain ⟨k, gl, wn, b, hk, hgk, hkg, rfl, rfl, rfl, hok, h1, h2, hs, hb, hfr⟩ := hrel
    have hgl : (S.take gl).length = gl := by rw [List.length_take]; omega
    by_cases hlt : gl < S.length
    · have hk4 : k < 4000 := by omega
      go_upto_if 52 with fail
      go_cut [14] (fun s14 wx => ∃ n : Nat, 1 ≤ n ∧ n ≤ 256 ∧ s14 = .int .i64 (n : Int) ∧ wr = wx)
      case first =>
        by_cases hz : 0 < len3
        · obtain ⟨bb, o, rfl, hbl2, hcell⟩ := hxc hz
          have hmod : k % len3 < len3 := Nat.mod_lt _ hz
          have hc := (hfr.cell (p := ⟨bb, o + k % len3, none⟩) hbl2 (by simp)).trans (hcell _ hmod)
          have hwf := hxw (z3.getD (k % len3) 0) (by rw [List.getD_eq_getElem?_getD, List.getElem?_eq_getElem (by omega)]; exact List.getElem_mem _)
          clear hcell
          generalize z3.getD (k % len3) 0 = X at hc hwf
          obtain ⟨x0, x1⟩ := u8_of_wf hwf
          obtain ⟨x, rfl⟩ := Int.eq_ofNat_of_zero_le x0
          clear hwf
          go_wp2_with fail
          go_meet
          exact ⟨1 + x, by omega, by omega, by go_num, rfl⟩
        · go_wp2_with fail
          go_meet
          exact ⟨1, by omega, by omega, by rfl, rfl⟩
      case rest =>
        obtain ⟨n, n1, n2, rfl, rfl⟩ := hcut
        obtain ⟨M, hM⟩ : ∃ M, min S.length (wn + n) = M := ⟨_, rfl⟩
        have eM : (if (wn : Int) + n < S.length then (wn : Int) + n else S.length) = ((M : Nat) : Int) := by split <;> omega
        have m1 : wn ≤ M := by omega
        have m2 : M ≤ S.length := by omega
        have HM := Lib.hid hM
        clear hM
        go_wp2_with fail
        rw [ba_extract]
        generalize hL : (S.drop wn).take (M - wn) = L
        have HL := Lib.hid hL
        clear hL
        obtain ⟨p1, p2, p3, p4, p5, p6, p7, p8⟩ := pieces_step hok h1 h2 hs n1 hlt (L := L) (by rw [← HL.out, HM.out]) rfl rfl rfl rfl
        have hok1 := hok.write L
        have hLm : L.length ≤ maxLen := by rw [← HL.out, List.length_take, List.length_drop]; unfold maxLen; omega
        clear hs
        refine (swrite_blk G1 b L _ hok hLm hb).mono ?_
        rintro e wb ⟨rfl, hb1, hf1⟩
        have hfr1 := hfr.next1 hf1 (.inr hlt0)
        clear hfr hf1 hb hok hLm
        generalize b.fits L = F at *
        generalize b.write L = b1 at *
        have hu1 := hok1.u1
        have hu2 := hok1.u2
        have P2 := Lib.hid p2
        have P3 := Lib.hid p3
        have P4 := Lib.hid p4
        have L0 : (0 : Int) ≤ (F : Int) := by omega
        have L1 : (F : Int) ≤ (L.length : Int) := by omega
        clear p2 p3 p4
        go_wp2_with (go_at_call 20; refine (suna_blk G1 b1 _ hok1 hb1).mono ?_; rintro e w' ⟨rfl, rfl⟩)
        refine (sget_blk G1 b1 _ _ _ hok1 hb1).mono ?_
        rintro e wc ⟨rfl, hd⟩
        have hb2 := hd.blk hb1
        have hfr2 := hd.next hfr1
        clear hd hb1 hfr1
        generalize b1.get b1.una n = pc at *
        go_wp2_with (go_at_call 20; refine (suna_blk G1 b1 _ hok1 hb2).mono ?_; rintro e w' ⟨rfl, rfl⟩)
        refine (sack_blk G1 b1 _ _ hok1 hb2).mono ?_
        rintro e wd ⟨rfl, hb3, hf3⟩
        have hok2 := hok1.ack (n := (b1.una + (pc.length : Int)) % 4294967296) (by omega) (by omega)
        have hfr3 := hfr2.next1 hf3 (.inr hlt0)
        rw [P2.out]
        clear hf3 hfr2 hb2 P2
        generalize b1.ack ((b1.una + (pc.length : Int)) % 4294967296) = b2 at *
        go_wp2_with fail
        go_roundg (4000 - (k + 1) + 1)
        case measure => omega
        case rel => exact ⟨k + 1, gl + pc.length, wn + F, b2, by omega, rfl, by omega, by go_num, by rw [ba_append, P4.out], by go_num, hok2, by omega, by omega, P3.out, hb3, hfr3⟩
    · have hgS : gl = S.length := by omega
      have hws : wn = S.length := by omega
      have hbs : b.s = [] := by rw [hs, List.drop_eq_nil_iff, List.length_take]; omega
      have hbl0 : (b.s.length : Int) = 0 := by rw [hbs]; rfl
      have hgt : S.take gl = S := List.take_of_length_le (by omega)
      have HBL := Lib.hid hbl0
      clear hs hgS hws hbs hbl0
      go_wp2_with fail
      refine (slen_blk G1 b _ hok hb).mono ?_
      rintro e w' ⟨rfl, rfl⟩
      rw [HBL.out]
      go_wp2_with fail
      go_ret
      exact ⟨rfl, hfr.below (Nat.le_refl _) (by simp)⟩

set_option maxRecDepth 100000 in
theorem lifted (os : Os) (started : os.Started) (H : Type) (enc : TypeId × Value → H) :
    ReturnsInHanded {} Try.checked os 7 .any (Rows.sbufPiecesSpec.pre6 enc Try.prog Try.f7 Rows.sbufPiecesRow.domain false) (Rows.sbufPiecesSpec.post enc Try.prog Try.f7 false true false false) := by
  refine returnsInHanded_of_change (C := Try.checked) own started (by kernel_rfl) Try.func7
    (ChangeSpec.witness6 (enc := enc) (C := Try.checked) false ⟨#[], #[.int .u32 0, .int .u16 0, .string ByteArray.empty, .slice none 0 0], []⟩ 8 (by kernel_rfl) (by kernel_rfl) (by kernel_rfl) (by kernel_rfl)) ?_
  intro W base args ds gs before hval0 hW hcnd _
  have hval : ∀ (j : Nat) t v, Try.f7.params[j]? = some t → args[j]? = some v → Value.okWide Try.prog W .any base t v := hval0
  have hW' := hW
  obtain ⟨p, q, hA0, hV, rfl, hfz, hnd⟩ := hW
  have hA : DataW.TrodAll enc Try.prog W 0 (fun _ => true) true Try.f7.params.toList args.toList ds p := hA0
  rw [Try.params7] at hA hval
  obtain ⟨v0, vs0, d0, ds0, p0, q0, hargs, rfl, rfl, h0, r0⟩ := trodAll_cons hA
  obtain ⟨v1, vs1, d1, ds1, p1, q1, rfl, rfl, rfl, h1, r1⟩ := trodAll_cons r0
  obtain ⟨v2, vs2, d2, ds2, p2, q2, rfl, rfl, rfl, h2, r2⟩ := trodAll_cons r1
  obtain ⟨v3, vs3, d3, ds3, p3, q3, rfl, rfl, rfl, h3, r3⟩ := trodAll_cons r2
  obtain ⟨rfl, rfl, rfl⟩ := trodAll_nil r3
  obtain rfl : args = #[v0, v1, v2, v3] := by cases args; simp_all
  obtain ⟨rfl, rfl⟩ := trodVars_none hV
  obtain ⟨a0, rfl, rfl, rfl, w0⟩ := open_int Try.underlying26 (hval 0 26 v0 rfl rfl) h0
  obtain ⟨a1, rfl, rfl, rfl, w1⟩ := open_int Try.underlying47 (hval 1 47 v1 rfl rfl) h1
  obtain ⟨a2, rfl, rfl, rfl, w2⟩ := open_string Try.underlying9 (hval 2 9 v2 rfl rfl) h2
  obtain ⟨a3, len3, cap3, rfl⟩ := okWide_slice Try.underlying49 (hval 3 49 v3 rfl rfl)
  have k3 := h3
  have lt3 : ∀ x ∈ p3, x.block < W.heap.size := by obtain ⟨m, hm⟩ := k3; exact DataW.trod_lt m _ _ _ hm
  obtain ⟨z3, w3⟩ := ints_open Try.underlying49 Try.underlying5 (by kernel_rfl) h3
  clear hA0 hval0
  refine (walk a0 a1 a2 a3 len3 cap3 W w0 w1 w2 z3 w3).mono fun e W' ⟨he, bel⟩ => ?_
  subst he
  exact ⟨_, rfl, _, _, _, [], _, [], hW', trodAll_mk1 (shut_bool Try.underlying4 _), (trodAll_cons_mk (shut_int Try.underlying26 w0) (trodAll_cons_mk (shut_int Try.underlying47 w1) (trodAll_cons_mk (shut_string Try.underlying9 w2) (trodAll_cons_mk (Below.trod laidOut (by kernel_rfl) (of_decide_eq_true (by kernel_rfl)) k3 bel lt3) trodAll_mk0)))), rfl, bel.frame _, fun h => by cases h⟩

theorem over : Rows.sbufPiecesRow.holds Try.pinned (OpenSpec.ofChange Rows.sbufPiecesSpec) :=
  OpenClaim.holds_of_wide 7 Try.f7 rfl rfl rfl rfl rfl rfl rfl ⟨rfl, rfl, rfl, rfl, rfl⟩ rfl rfl rfl rfl rfl (by kernel_rfl) Try.func7 (by kernel_rfl)
    (of_decide_eq_true (by kernel_rfl)) (by unfold Func.isWrapper; first | (rw [if_pos (by decide +kernel)]; kernel_rfl) | (rw [if_neg (by decide +kernel)]; exact ⟨rfl, rfl⟩))
    (fun os started H enc _ => lifted os started H enc)

theorem proved : Rows.SbufPiecesSaid := over
#print axioms proved
end Go.Proofs.Ytljgmlgdafijcaa.sbufPieces
