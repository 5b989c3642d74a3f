/- Proved: the statement Rows.RbufStreamSaid: for every input the Go function blockyardlaw12.RbufStream returns true and leaves its arguments as they were. Conditions: none beyond the row's own. -/
import Derived.Test.YtjfamjaebehieaaRows
import Derived.Test.YtjfamjaebehieaaRbufThrees
import Derived.WalkKit
import Derived.ProofKit
import Derived.OpenShut
import Derived.ShutString
import Derived.ChangeOld
import Derived.Below
namespace Go.Proofs.Ytjfamjaebehieaa.rbufStream
open Go.ChangeShapes Go.WideShapes Go.ChangeAt Go.RowKit
open Go.ChangeMaps (open_string shut_string)
set_option linter.unusedVariables false

theorem own : ownKnob Try.prog.godebug = none := by kernel_rfl
theorem laidOut : laidOutB Try.prog = true := by kernel_rfl

theorem meas_lt {gk len k : Nat} (h : gk = len - k) (h2 : k < len) : len - (k + 1) < gk := by omega
set_option maxRecDepth 100000 in
set_option maxHeartbeats 2000000 in
theorem walk (a0 : Int) (a1 : Int) (a2 : ByteArray) (a3 : Option Addr) (len3 cap3 : Nat) (w : World) (w0 : (Lit.int .u32 a0).wf = true) (w1 : (Lit.int .u16 a1).wf = true) (w2 : a2.size ≤ maxLen) (z3 : _) (w3 : Threes w a3 len3 cap3 z3) : Calls Try.prog 7 #[.int .u32 a0, .int .u16 a1, .string a2, .slice a3 len3 cap3] w fun e w' => e = .returned (.bool true) ∧ Below w.heap.size w w' := by
  obtain ⟨st, rfl⟩ := ba_list a2
  rw [ba_size] at w2
  obtain ⟨u0, u1⟩ := u32_of_wf w0
  obtain ⟨r0, r1⟩ := u16_of_wf w1
  have hst : st.length ≤ 9223372036854775807 := w2
  clear w0 w1 w2
  obtain ⟨hlc, hcm, hel⟩ := w3
  have hlm : cap3 ≤ 9223372036854775807 := hcm
  clear hcm
  by_cases hs : 3000 < st.length
  · have hs' : decide ((3000 : Int) < (st.length : Int)) = true := by simp; omega
    go_enter Try.func7, Try.ntmps7
    go_wp2_with (go_at_call 8; refine (awake_any _).mono ?_; rintro e w1 ⟨rfl, hf1⟩)
    go_ret
    exact ⟨rfl, hf1.below (Nat.le_refl _) (by simp)⟩
  have hs' : decide ((3000 : Int) < (st.length : Int)) = false := by simp; omega
  by_cases hp : 100 < len3
  · have hp' : decide ((100 : Int) < (len3 : Int)) = true := by simp; omega
    go_enter Try.func7, Try.ntmps7
    go_wp2_with (go_at_call 8; refine (awake_any _).mono ?_; rintro e w1 ⟨rfl, hf1⟩)
    go_ret
    exact ⟨rfl, hf1.below (Nat.le_refl _) (by simp)⟩
  have hp' : decide ((100 : Int) < (len3 : Int)) = false := by simp; omega
  have hs3 : st.length ≤ 3000 := by omega
  have hp3 : len3 ≤ 100 := by omega
  obtain ⟨n, hn⟩ : ∃ n : Nat, 1 + a1 % 300 = (n : Int) := ⟨(1 + a1 % 300).toNat, by omega⟩
  have hn1 : 1 ≤ n := by omega
  have hn2 : n ≤ 300 := by omega
  go_enter Try.func7, Try.ntmps7
  go_wp2_with (go_at_call 8; refine (awake_any _).mono ?_; rintro e w1 ⟨rfl, hf1⟩)
  refine (rat_new a0 n _ hn1 (by omega) u0 u1).mono ?_
  rintro e w2 ⟨g, rfl, h0⟩
  have hfl0 : Flow a0 st [] (RB.start n a0) := Flow.start hn1 (by omega) u0 u1 hs3
  have hrm0 : (RB.start n a0).room = n := rfl
  generalize RB.start n a0 = q0 at *
  clear hs hs' hp hp'
  go_wp2_with fail
  go_loopg [11, 12] (len3 - 0) (fun gk got i wr => ∃ (k : Nat) (G : List UInt8) (r : RB), k ≤ len3 ∧ gk = len3 - k ∧ got = .string ⟨G.toArray⟩ ∧ i = .int .i64 (k : Int) ∧ r.room = n ∧ Flow a0 st G r ∧ RbAt w1.heap.size w1 wr g r)
  case atStart => exact ⟨0, [], q0, by omega, rfl, rfl, rfl, hrm0, hfl0, h0⟩
  case round =>
    clear h0 hfl0 hrm0
    obtain ⟨k, G, r, hk, hgk, rfl, rfl, hroom, hfl, hr⟩ := hrel
    have hgle := hfl.got_le
    by_cases hlt : k < len3
    · obtain ⟨bb, o, rfl, hbl, hat⟩ := hel (by omega)
      obtain ⟨c0, c1, c2, hx0, hx1, hx2⟩ := hat k hlt
      have hfr : Frm [] w wr := hf1.next0 (Frm.of_below hr.below)
      have d0 := (hfr.cell (p := ⟨bb, o + k * 3, none⟩) hbl (by simp)).trans c0
      have d1 := (hfr.cell (p := ⟨bb, o + k * 3 + 1, none⟩) hbl (by simp)).trans c1
      have d2 := (hfr.cell (p := ⟨bb, o + k * 3 + 2, none⟩) hbl (by simp)).trans c2
      have C2 := Lib.hid c2
      clear c0 c1 c2 hat hfr
      generalize z3 k = x at *
      obtain ⟨x0, x1, x2⟩ := x
      have d2' := C2.out
      simp only at d0 d1 d2 hx0 hx1 hx2 d2'
      have D2 := Lib.hid d2'
      clear d2' C2
      obtain ⟨y0, y1⟩ := hx0
      obtain ⟨y2, y3⟩ := hx1
      obtain ⟨y4, y5⟩ := hx2
      obtain ⟨P, hP⟩ : ∃ P : Nat, (if (st.length : Int) < x0 then (st.length : Int) else x0) = (P : Int) := ⟨(if (st.length : Int) < x0 then (st.length : Int) else x0).toNat, by split <;> omega⟩
      have hP1 : P ≤ st.length := by split at hP <;> omega
      obtain ⟨T, hT⟩ : ∃ T : Nat, (if (st.length : Int) < (P : Int) + x1 then (st.length : Int) else (P : Int) + x1) = (T : Int) := ⟨(if (st.length : Int) < (P : Int) + x1 then (st.length : Int) else (P : Int) + x1).toNat, by split <;> omega⟩
      have hT1 : P ≤ T := by split at hT <;> omega
      have hT2 : T ≤ st.length := by split at hT <;> omega
      have hex : (⟨st.toArray⟩ : ByteArray).extract P T = ⟨((st.drop P).take (T - P)).toArray⟩ := ba_extract _ _ _
      have hpl : P + ((st.drop P).take (T - P)).length ≤ st.length := by rw [List.length_take, List.length_drop]; omega
      have hpe : ∀ i, i < ((st.drop P).take (T - P)).length → ((st.drop P).take (T - P)).getD i 0 = st.getD (P + i) 0 := fun i hi => by
        rw [List.length_take] at hi
        rw [List.getD_eq_getElem?_getD, List.getD_eq_getElem?_getD, List.getElem?_take, if_pos (by omega), List.getElem?_drop]
      generalize (st.drop P).take (T - P) = pc at *
      obtain ⟨S, hS⟩ : ∃ S, (a0 + (P : Int)) % 4294967296 = S := ⟨_, rfl⟩
      have hput := hfl.put hS.symm hpl hpe
      have hread := hput.read x2
      have hpm : pc.length ≤ maxLen := by unfold maxLen; omega
      have HPE := Lib.hid hpe
      have HPM := Lib.hid hpm
      have HRO : Hid (((r.put S pc).read x2).room = n) := Lib.hid (by rw [← hroom]; exact (RB.many_room r r.win S pc _).1)
      clear hpe hpm hpl
      go_wp2_with fail
      refine (rat_put S pc _ HPM.out hr).mono ?_
      rintro e w3 ⟨rfl, hr2⟩
      clear hr hfl
      generalize r.put S pc = q1 at *
      clear hput d2
      have d2 := ((hf1.next0 (Frm.of_below hr2.below)).cell (p := ⟨bb, o + k * 3 + 2, none⟩) hbl (by simp)).trans D2.out
      go_wp2_with fail
      refine (rat_read x2 _ hr2).mono ?_
      rintro e w4 ⟨rfl, hr3⟩
      clear hr2
      have hap : (⟨G.toArray⟩ : ByteArray) ++ ⟨(q1.ready.take (q1.take x2)).toArray⟩ = ⟨(G ++ q1.ready.take (q1.take x2)).toArray⟩ := ba_append _ _
      generalize q1.read x2 = q2 at *
      generalize q1.ready.take (q1.take x2) = dd at *
      have hsum : G.length + dd.length ≤ 3000 := by have := hread.got_le; rw [List.length_append] at this; omega
      have hsum2 : G.length + dd.length ≤ 9223372036854775807 := by omega
      generalize G ++ dd = G2 at *
      have hgle2 := hread.got_le
      have hgeq := hread.got_eq
      have hheld := hread.held_le
      have hheld0 : 0 ≤ q2.held := by rw [hread.lies.ok.hc]; omega
      have hnx := hread.lies.nx
      have hq2r := HRO.out
      rw [hq2r] at hheld
      have hex2 : (⟨st.toArray⟩ : ByteArray).extract 0 G2.length = ⟨G2.toArray⟩ := by rw [ba_extract, Nat.sub_zero, List.drop_zero, hgeq]
      obtain ⟨C, hC⟩ : ∃ C : Int, (G2.length : Int) + (q2.ready.length : Int) = C := ⟨_, rfl⟩
      have hC1 : C ≤ (st.length : Int) := by omega
      have hC0 : 0 ≤ C := by omega
      rw [Int.natCast_add, hC] at hnx
      have HR3 := Lib.hid hread
      have HQ2R := Lib.hid hq2r
      have HNX := Lib.hid hnx
      clear hread hgeq hq2r hex hnx
      go_wp2_with fail
      refine (rat_ready _ hr3).mono ?_
      rintro e w' ⟨rfl, rfl⟩
      go_wp2_with fail
      refine (rat_ready _ hr3).mono ?_
      rintro e w' ⟨rfl, rfl⟩
      go_wp2_with fail
      refine (rat_held _ hr3).mono ?_
      rintro e w' ⟨rfl, rfl⟩
      go_wp2_with fail
      refine (rat_next _ hr3).mono ?_
      rintro e w' ⟨rfl, rfl⟩
      rw [HNX.out]
      go_wp2_with fail
      refine (rat_ready _ hr3).mono ?_
      rintro e w' ⟨rfl, rfl⟩
      go_wp2_with fail
      go_roundg (len3 - (k + 1))
      case measure => exact meas_lt hgk hlt
      case rel => exact ⟨k + 1, G2, q2, by omega, rfl, rfl, by go_num, HQ2R.out, HR3.out, hr3⟩
    · have hfr0 : Frm [] w w1 := hf1
      clear hgk hk hel hlm hlc
      go_wp2_with fail
      clear hlt
      have ht0 : Tail a0 st G r 0 := ⟨hfl, .inl rfl⟩
      clear hfl hgle
      go_loopg [11, 15] (st.length + 1 - 0) (fun gk got i wr => ∃ (k : Nat) (G : List UInt8) (r : RB), k ≤ st.length + 1 ∧ gk = st.length + 1 - k ∧ got = .string ⟨G.toArray⟩ ∧ i = .int .i64 (k : Int) ∧ Tail a0 st G r k ∧ RbAt w1.heap.size w1 wr g r)
      case atStart => exact ⟨0, G, r, by omega, rfl, rfl, rfl, ht0, hr⟩
      case round =>
        clear ht0 hr hroom
        obtain ⟨k, G, r, hk, hgk, rfl, rfl, ht, hr⟩ := hrel
        by_cases hlt : k < st.length + 1
        · have hle : (k : Int) ≤ (st.length : Int) := by omega
          have hgle := ht.1.got_le
          obtain ⟨C, hC⟩ : ∃ C : Nat, G.length + r.ready.length = C := ⟨_, rfl⟩
          have hCi : (G.length : Int) + (r.ready.length : Int) = (C : Int) := by omega
          obtain ⟨S, hS⟩ : ∃ S, (a0 + (C : Int)) % 4294967296 = S := ⟨_, rfl⟩
          obtain ⟨G2, hG2, hf2, hall, hemp, hm1, hm2⟩ := ht.1.all (seq := S) (by rw [hC]; exact hS.symm)
          have hstep := ht.step hf2 hemp hm1 hm2
          rw [hC] at hG2 hf2 hall hemp hstep
          have hex : (⟨st.toArray⟩ : ByteArray).extract C st.length = ⟨(st.drop C).toArray⟩ := by rw [ba_extract, List.take_of_length_le (by simp)]
          have hpm : (st.drop C).length ≤ maxLen := by rw [List.length_drop]; unfold maxLen; omega
          generalize st.drop C = pc at *
          have HPM := Lib.hid hpm
          have HSTEP := Lib.hid hstep
          have HALL := Lib.hid hall
          have HG2 := Lib.hid hG2
          have hg2le := hf2.got_le
          have hsum : G.length + (r.put S pc).ready.length ≤ 3000 := by rw [hG2, List.length_append] at hg2le; omega
          have hsum2 : G.length + (r.put S pc).ready.length ≤ 9223372036854775807 := by omega
          clear hg2le
          clear hpm hstep hall hG2 hemp hm1 hm2 hf2 ht hC
          go_wp2_with fail
          refine (rat_ready _ hr).mono ?_
          rintro e w' ⟨rfl, rfl⟩
          go_wp2_with fail
          refine (rat_put S pc _ HPM.out hr).mono ?_
          rintro e w3 ⟨rfl, hr2⟩
          clear hr
          generalize r.put S pc = q1 at *
          go_wp2_with fail
          refine (rat_read 3000 _ hr2).mono ?_
          rintro e w4 ⟨rfl, hr3⟩
          rw [HALL.out]
          have hap : (⟨G.toArray⟩ : ByteArray) ++ ⟨q1.ready.toArray⟩ = ⟨G2.toArray⟩ := by rw [HG2.out]; exact ba_append _ _
          clear hr2
          go_wp2_with fail
          go_roundg (st.length + 1 - (k + 1))
          case measure => exact meas_lt hgk hlt
          case rel => exact ⟨k + 1, G2, _, by omega, rfl, rfl, by go_num, HSTEP.out, hr3⟩
        · obtain rfl : k = st.length + 1 := by omega
          obtain ⟨hg1, hg2, hg3⟩ := ht.done
          subst hg1
          have hg4 : (r.ready.length : Int) = 0 := by rw [hg2]; rfl
          clear ht hlt hg2
          go_wp2_with fail
          refine (rat_ready _ hr).mono ?_
          rintro e w' ⟨rfl, rfl⟩
          go_wp2_with fail
          refine (rat_held _ hr).mono ?_
          rintro e w' ⟨rfl, rfl⟩
          go_wp2_with fail
          go_ret
          exact ⟨rfl, (hfr0.below (Nat.le_refl _) (by simp)).trans (hr.below.mono hfr0.size)⟩

set_option maxRecDepth 100000 in
theorem lifted (os : Os) (started : os.Started) (H : Type) (enc : TypeId × Value → H) :
    ReturnsInHanded {} Try.checked os 7 .any (Rows.rbufStreamSpec.pre6 enc Try.prog Try.f7 Rows.rbufStreamRow.domain false) (Rows.rbufStreamSpec.post enc Try.prog Try.f7 false true false false) := by
  refine returnsInHanded_of_change (C := Try.checked) own started (by kernel_rfl) Try.func7
    (ChangeSpec.witness6 (enc := enc) (C := Try.checked) false ⟨#[], #[.int .u32 0, .int .u16 0, .string ByteArray.empty, .slice none 0 0], []⟩ 8 (by kernel_rfl) (by kernel_rfl) (by kernel_rfl) (by kernel_rfl)) ?_
  intro W base args ds gs before hval0 hW hcnd _
  have hval : ∀ (j : Nat) t v, Try.f7.params[j]? = some t → args[j]? = some v → Value.okWide Try.prog W .any base t v := hval0
  have hW' := hW
  obtain ⟨p, q, hA0, hV, rfl, hfz, hnd⟩ := hW
  have hA : DataW.TrodAll enc Try.prog W 0 (fun _ => true) true Try.f7.params.toList args.toList ds p := hA0
  rw [Try.params7] at hA hval
  obtain ⟨v0, vs0, d0, ds0, p0, q0, hargs, rfl, rfl, h0, r0⟩ := trodAll_cons hA
  obtain ⟨v1, vs1, d1, ds1, p1, q1, rfl, rfl, rfl, h1, r1⟩ := trodAll_cons r0
  obtain ⟨v2, vs2, d2, ds2, p2, q2, rfl, rfl, rfl, h2, r2⟩ := trodAll_cons r1
  obtain ⟨v3, vs3, d3, ds3, p3, q3, rfl, rfl, rfl, h3, r3⟩ := trodAll_cons r2
  obtain ⟨rfl, rfl, rfl⟩ := trodAll_nil r3
  obtain rfl : args = #[v0, v1, v2, v3] := by cases args; simp_all
  obtain ⟨rfl, rfl⟩ := trodVars_none hV
  obtain ⟨a0, rfl, rfl, rfl, w0⟩ := open_int Try.underlying22 (hval 0 22 v0 rfl rfl) h0
  obtain ⟨a1, rfl, rfl, rfl, w1⟩ := open_int Try.underlying23 (hval 1 23 v1 rfl rfl) h1
  obtain ⟨a2, rfl, rfl, rfl, w2⟩ := open_string Try.underlying9 (hval 2 9 v2 rfl rfl) h2
  obtain ⟨a3, len3, cap3, rfl⟩ := okWide_slice Try.underlying51 (hval 3 51 v3 rfl rfl)
  have k3 := h3
  have lt3 : ∀ x ∈ p3, x.block < W.heap.size := by obtain ⟨m, hm⟩ := k3; exact DataW.trod_lt m _ _ _ hm
  obtain ⟨z3, w3⟩ := threes_open h3
  clear hA0 hval0
  refine (walk a0 a1 a2 a3 len3 cap3 W w0 w1 w2 z3 w3).mono fun e W' ⟨he, bel⟩ => ?_
  subst he
  exact ⟨_, rfl, _, _, _, [], _, [], hW', trodAll_mk1 (shut_bool Try.underlying4 _), (trodAll_cons_mk (shut_int Try.underlying22 w0) (trodAll_cons_mk (shut_int Try.underlying23 w1) (trodAll_cons_mk (shut_string Try.underlying9 w2) (trodAll_cons_mk (Below.trod laidOut (by kernel_rfl) (of_decide_eq_true (by kernel_rfl)) k3 bel lt3) trodAll_mk0)))), rfl, bel.frame _, fun h => by cases h⟩

theorem over : Rows.rbufStreamRow.holds Try.pinned (OpenSpec.ofChange Rows.rbufStreamSpec) :=
  OpenClaim.holds_of_wide 7 Try.f7 rfl rfl rfl rfl rfl rfl rfl ⟨rfl, rfl, rfl, rfl, rfl⟩ rfl rfl rfl rfl rfl (by kernel_rfl) Try.func7 (by kernel_rfl)
    (of_decide_eq_true (by kernel_rfl)) (by unfold Func.isWrapper; first | (rw [if_pos (by decide +kernel)]; kernel_rfl) | (rw [if_neg (by decide +kernel)]; exact ⟨rfl, rfl⟩))
    (fun os started H enc _ => lifted os started H enc)

theorem proved : Rows.RbufStreamSaid := over
#print axioms proved
end Go.Proofs.Ytjfamjaebehieaa.rbufStream
