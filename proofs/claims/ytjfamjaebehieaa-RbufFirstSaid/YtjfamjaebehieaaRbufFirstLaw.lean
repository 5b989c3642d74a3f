/- Proved: the statement Rows.RbufFirstSaid: for every input the Go function blockyardlaw12.RbufFirst returns true and leaves its arguments as they were. Conditions: none beyond the row's own. -/
import Derived.Test.YtjfamjaebehieaaRows
import Derived.Test.YtjfamjaebehieaaRbufAux
import Derived.Test.YtjfamjaebehieaaRbufPlain
import Derived.WalkKit
import Derived.ProofKit
import Derived.OpenShut
import Derived.ShutString
import Derived.ChangeOld
import Derived.Below
namespace Go.Proofs.Ytjfamjaebehieaa.rbufFirst
open Go.ChangeShapes Go.WideShapes Go.ChangeAt Go.RowKit
open Go.ChangeMaps (open_string shut_string)
set_option linter.unusedVariables false

theorem own : ownKnob Try.prog.godebug = none := by kernel_rfl
theorem laidOut : laidOutB Try.prog = true := by kernel_rfl


set_option maxRecDepth 100000 in
set_option maxHeartbeats 2000000 in
theorem walk (a0 : Int) (a1 : Int) (a2 : ByteArray) (a3 : ByteArray) (a4 : Int) (w : World) (w0 : (Lit.int .u32 a0).wf = true) (w1 : (Lit.int .u16 a1).wf = true) (w2 : a2.size ≤ maxLen) (w3 : a3.size ≤ maxLen) (w4 : (Lit.int .u16 a4).wf = true) : Calls Try.prog 3 #[.int .u32 a0, .int .u16 a1, .string a2, .string a3, .int .u16 a4] w fun e w' => e = .returned (.bool true) ∧ Below w.heap.size w w' := by
  obtain ⟨la, rfl⟩ := ba_list a2
  obtain ⟨lb, rfl⟩ := ba_list a3
  rw [ba_size] at w2 w3
  obtain ⟨n1, n2⟩ := u32_of_wf w0
  obtain ⟨r1, r2⟩ := u16_of_wf w1
  obtain ⟨t1, t2⟩ := u16_of_wf w4
  have hla : la.length ≤ 9223372036854775807 := w2
  have hlb : lb.length ≤ 9223372036854775807 := w3
  clear w0 w1 w2 w3 w4
  by_cases ha : 300 < la.length
  · have ha' : decide ((300 : Int) < (la.length : Int)) = true := by simp; omega
    go_enter Try.func3, Try.ntmps3
    go_wp2_with (go_at_call 8; refine (awake_any _).mono ?_; rintro e w1 ⟨rfl, hf1⟩)
    go_ret
    exact ⟨rfl, hf1.below (Nat.le_refl _) (by simp)⟩
  have ha' : decide ((300 : Int) < (la.length : Int)) = false := by simp; omega
  by_cases hb : 300 < lb.length
  · have hb' : decide ((300 : Int) < (lb.length : Int)) = true := by simp; omega
    go_enter Try.func3, Try.ntmps3
    go_wp2_with (go_at_call 8; refine (awake_any _).mono ?_; rintro e w1 ⟨rfl, hf1⟩)
    go_ret
    exact ⟨rfl, hf1.below (Nat.le_refl _) (by simp)⟩
  have hb' : decide ((300 : Int) < (lb.length : Int)) = false := by simp; omega
  have hla2 : la.length ≤ 300 := by omega
  have hlb2 : lb.length ≤ 300 := by omega
  obtain ⟨n, hn⟩ : ∃ n : Nat, 1 + a1 % 300 = (n : Int) := ⟨(1 + a1 % 300).toNat, by omega⟩
  have hn1 : 1 ≤ n := by omega
  have hn2 : n ≤ 300 := by omega
  obtain ⟨k, hk⟩ : ∃ k : Nat, 1 + a4 % (n : Int) = (k : Int) := ⟨(1 + a4 % (n : Int)).toNat, by have := Int.emod_nonneg a4 (b := (n : Int)) (by omega); omega⟩
  have hk1 : 1 ≤ k := by have := Int.emod_nonneg a4 (b := (n : Int)) (by omega); omega
  have hk2 : k ≤ n := by have := Int.emod_lt_of_pos a4 (b := (n : Int)) (by omega); omega
  go_enter Try.func3, Try.ntmps3
  go_wp2_with (go_at_call 8; refine (awake_any _).mono ?_; rintro e w1 ⟨rfl, hf1⟩)
  obtain ⟨S, hS⟩ : ∃ S, (a0 + (k : Int)) % 4294967296 = S := ⟨_, rfl⟩
  obtain ⟨p1, p2, p3, p4⟩ := first_plain n1 n2 hk1 hk2 hn2 hla2 hlb2 hS.symm
  obtain ⟨m1, hm1⟩ : ∃ m1, min la.length (n - k) = m1 := ⟨_, rfl⟩
  obtain ⟨m2, hm2⟩ : ∃ m2, min lb.length (n - k) = m2 := ⟨_, rfl⟩
  rw [hm1] at p1 p2 p3 p4
  rw [hm2] at p2 p3
  obtain ⟨m3, hm3⟩ : ∃ m3, max m1 m2 = m3 := ⟨_, rfl⟩
  rw [hm3] at p2 p3
  have fE1 : (if (n : Int) - (k : Int) < (la.length : Int) then (n : Int) - (k : Int) else (la.length : Int)) = (m1 : Int) := by split <;> omega
  have fE2 : (if (n : Int) - (k : Int) < (lb.length : Int) then (n : Int) - (k : Int) else (lb.length : Int)) = (m2 : Int) := by split <;> omega
  have fE3 : (if m1 < m2 then (m2 : Int) else (m1 : Int)) = (m3 : Int) := by split <;> omega
  have hb1 : m1 ≤ la.length := by omega
  have hb2 : m1 ≤ n := by omega
  have hb3 : k + m3 ≤ n := by omega
  have hb4 : m1 ≤ m3 := by omega
  clear hm1 hm2 hm3
  have P4 := Lib.hid p4
  clear p4
  refine (rat_new a0 n _ hn1 (by omega) n1 n2).mono ?_
  rintro e w2 ⟨g, rfl, h0⟩
  generalize RB.start n a0 = q0 at *
  go_wp2_with fail
  refine (rat_put S la _ hla h0).mono ?_
  rintro e w3 ⟨rfl, h1⟩
  clear h0
  generalize q0.put S la = q1 at *
  go_wp2_with fail
  refine (rat_held _ h1).mono ?_
  rintro e w' ⟨rfl, rfl⟩
  rw [p1]
  go_wp2_with fail
  refine (rat_put S lb _ hlb h1).mono ?_
  rintro e w4 ⟨rfl, h2⟩
  clear h1
  generalize q1.put S lb = q2 at *
  go_wp2_with fail
  refine (rat_held _ h2).mono ?_
  rintro e w' ⟨rfl, rfl⟩
  rw [p2]
  have hmk := run_make_row' (P := Try.prog) 31 5 _ _ Try.underlying31 info_u8 rfl .i64 .i64 k (by omega) (by omega)
  have hcv := run_convert_bytes_back (P := Try.prog) (w4.alloc (.cells (madeCells #[.int .u8 0] k) 5)) 31 9 5 ⟨w4.heap.size, 0, none⟩ k (List.replicate k 0) Try.underlying31 Try.underlying5 Try.underlying9 (fun j hj => by
    rw [List.length_replicate] at hj
    rw [Addr.add_lit, Nat.zero_add, made_bytes, (Blk.new _ _ _).cell]
    simp [bytes, byteV, hj])
  rw [List.length_replicate] at hcv
  go_wp2_with fail
  refine (rat_put a0 (List.replicate k 0) _ (by rw [List.length_replicate]; unfold maxLen; omega) (h2.frm ((Frm.refl _ _).alloc _))).mono ?_
  rintro e w5 ⟨rfl, h3⟩
  clear h2
  have p5 : ((q2.put a0 (List.replicate k 0)).ready.take ((q2.put a0 (List.replicate k 0)).take 3000)) = (q2.put a0 (List.replicate k 0)).ready := by
    refine List.take_of_length_le ?_
    unfold RB.take
    omega
  generalize q2.put a0 (List.replicate k 0) = q3 at *
  go_wp2_with fail
  refine (rat_read 3000 _ h3).mono ?_
  rintro e w6 ⟨rfl, h4⟩
  rw [p5]
  go_wp2_with fail
  clear fE1 fE2 fE3 hmk hcv ha hb ha' hb' p1 p2 p5 h3 hla2 hlb2 hlb hn1 hS hk hn
  have hd1 : decide ((n : Int) < (k : Int)) = false := by simp; omega
  have hd2 : decide (n < k) = false := by simp; omega
  rcases Nat.eq_zero_or_pos m1 with hm0 | hm0
  · subst hm0
    go_quiet (fail)
    go_wp2_with fail
    go_ret
    exact ⟨rfl, (hf1.below (Nat.le_refl _) (by simp)).trans ((h4.drw (Drw.mk _ _)).below.mono hf1.size)⟩
  · have hd3 : decide ((m1 : Int) = 0) = false := by simp; omega
    have hd4 : decide (m1 = 0) = false := by simp; omega
    have hd5 : ((m1 : Int) == 0) = false := by simp; omega
    have hd6 : (m1 == 0) = false := by simp; omega
    go_quiet (fail)
    go_wp2_with fail
    go_ret
    refine ⟨ret_bool ?_, (hf1.below (Nat.le_refl _) (by simp)).trans ((h4.drw (Drw.mk _ _)).below.mono hf1.size)⟩
    rw [ba_extract, ba_extract, Nat.add_sub_cancel_left, P4.out, List.drop_zero, Nat.sub_zero]
    exact beq_self_eq_true _

set_option maxRecDepth 100000 in
theorem lifted (os : Os) (started : os.Started) (H : Type) (enc : TypeId × Value → H) :
    ReturnsInHanded {} Try.checked os 3 .any (Rows.rbufFirstSpec.pre6 enc Try.prog Try.f3 Rows.rbufFirstRow.domain false) (Rows.rbufFirstSpec.post enc Try.prog Try.f3 false true false false) := by
  refine returnsInHanded_of_change (C := Try.checked) own started (by kernel_rfl) Try.func3
    (ChangeSpec.witness6 (enc := enc) (C := Try.checked) false ⟨#[], #[.int .u32 0, .int .u16 0, .string ByteArray.empty, .string ByteArray.empty, .int .u16 0], []⟩ 8 (by kernel_rfl) (by kernel_rfl) (by kernel_rfl) (by kernel_rfl)) ?_
  intro W base args ds gs before hval0 hW hcnd _
  have hval : ∀ (j : Nat) t v, Try.f3.params[j]? = some t → args[j]? = some v → Value.okWide Try.prog W .any base t v := hval0
  have hW' := hW
  obtain ⟨p, q, hA0, hV, rfl, hfz, hnd⟩ := hW
  have hA : DataW.TrodAll enc Try.prog W 0 (fun _ => true) true Try.f3.params.toList args.toList ds p := hA0
  rw [Try.params3] at hA hval
  obtain ⟨v0, vs0, d0, ds0, p0, q0, hargs, rfl, rfl, h0, r0⟩ := trodAll_cons hA
  obtain ⟨v1, vs1, d1, ds1, p1, q1, rfl, rfl, rfl, h1, r1⟩ := trodAll_cons r0
  obtain ⟨v2, vs2, d2, ds2, p2, q2, rfl, rfl, rfl, h2, r2⟩ := trodAll_cons r1
  obtain ⟨v3, vs3, d3, ds3, p3, q3, rfl, rfl, rfl, h3, r3⟩ := trodAll_cons r2
  obtain ⟨v4, vs4, d4, ds4, p4, q4, rfl, rfl, rfl, h4, r4⟩ := trodAll_cons r3
  obtain ⟨rfl, rfl, rfl⟩ := trodAll_nil r4
  obtain rfl : args = #[v0, v1, v2, v3, v4] := by cases args; simp_all
  obtain ⟨rfl, rfl⟩ := trodVars_none hV
  obtain ⟨a0, rfl, rfl, rfl, w0⟩ := open_int Try.underlying22 (hval 0 22 v0 rfl rfl) h0
  obtain ⟨a1, rfl, rfl, rfl, w1⟩ := open_int Try.underlying23 (hval 1 23 v1 rfl rfl) h1
  obtain ⟨a2, rfl, rfl, rfl, w2⟩ := open_string Try.underlying9 (hval 2 9 v2 rfl rfl) h2
  obtain ⟨a3, rfl, rfl, rfl, w3⟩ := open_string Try.underlying9 (hval 3 9 v3 rfl rfl) h3
  obtain ⟨a4, rfl, rfl, rfl, w4⟩ := open_int Try.underlying23 (hval 4 23 v4 rfl rfl) h4
  clear hA0 hval0
  refine (walk a0 a1 a2 a3 a4 W w0 w1 w2 w3 w4).mono fun e W' ⟨he, bel⟩ => ?_
  subst he
  exact ⟨_, rfl, _, _, _, [], _, [], hW', trodAll_mk1 (shut_bool Try.underlying4 _), (trodAll_cons_mk (shut_int Try.underlying22 w0) (trodAll_cons_mk (shut_int Try.underlying23 w1) (trodAll_cons_mk (shut_string Try.underlying9 w2) (trodAll_cons_mk (shut_string Try.underlying9 w3) (trodAll_cons_mk (shut_int Try.underlying23 w4) trodAll_mk0))))), rfl, bel.frame _, fun h => by cases h⟩

theorem over : Rows.rbufFirstRow.holds Try.pinned (OpenSpec.ofChange Rows.rbufFirstSpec) :=
  OpenClaim.holds_of_wide 3 Try.f3 rfl rfl rfl rfl rfl rfl rfl ⟨rfl, rfl, rfl, rfl, rfl⟩ rfl rfl rfl rfl rfl (by kernel_rfl) Try.func3 (by kernel_rfl)
    (of_decide_eq_true (by kernel_rfl)) (by unfold Func.isWrapper; first | (rw [if_pos (by decide +kernel)]; kernel_rfl) | (rw [if_neg (by decide +kernel)]; exact ⟨rfl, rfl⟩))
    (fun os started H enc _ => lifted os started H enc)

theorem proved : Rows.RbufFirstSaid := over
#print axioms proved
end Go.Proofs.Ytjfamjaebehieaa.rbufFirst
