/- A connection that the law itself makes; awake. -/
import Derived.Test.YtpmlojgngcllfaaConnNew
import Derived.Test.YtpmlojgngcllfaaConnSame
import Derived.Test.YtpmlojgngcllfaaConnEval
namespace Go.Proofs.Ytpmlojgngcllfaa
open Go.RowKit Go

/-- A connection that is new since w. -/
structure Live (w wk : World) (fp : List Nat) (g : Nat) (c : CN) : Prop where
  inn : CnIn wk w.heap.size fp g c
  frm : Frm [] w wk
  new : ∀ i, i ∈ fp → w.heap.size ≤ i
/-- One step of it. -/
def Live.Step (a b : World) (fp fp' : List Nat) : Prop := Frm fp a b ∧ ∀ i, i ∈ fp' → i ∈ fp ∨ a.heap.size ≤ i

theorem Live.next {w a b : World} {fp : List Nat} {g : Nat} {c d : CN} (h : Live w a fp g c) (k : CnTo a b w.heap.size fp g d) : ∃ fp', Live w b fp' g d ∧ Live.Step a b fp fp' := by
  obtain ⟨fp', hx, hf, hi⟩ := k
  refine ⟨fp', ⟨hx, h.frm.next hf (fun i hi => .inr (h.new i hi)), fun i hi2 => ?_⟩, hf, hi⟩
  rcases hi i hi2 with h1 | h1
  · exact h.new i h1
  · exact Nat.le_trans h.frm.size h1
theorem Live.frm0 {w a b : World} {fp : List Nat} {g : Nat} {c : CN} (h : Live w a fp g c) (hf : Frm [] a b) : Live w b fp g c :=
  ⟨h.inn.frm hf (by simp), h.frm.next0 hf, h.new⟩
theorem Live.of_new {w a b : World} {s : Sg} {iss : Int} {o : Tp} {e : Ending} (hf : Frm [] w a) (h : CnNew a s iss o e b) : ∃ g fp, e = .returned (.tuple #[.pointer (some ⟨g, 0, none⟩), .int .i64 0]) ∧ Live a b fp g (CN.start s iss o) ∧ Frm [] w b := by
  obtain ⟨g, fp, he, hx, hfb, hn⟩ := h
  exact ⟨g, fp, he, ⟨hx, hfb, hn⟩, hf.next0 hfb⟩

/-- A row that lies beside it. -/
def Row (B : Nat) (w : World) (fp : List Nat) (v : Value) (l : List Sg) : Prop := w.ownsRow B 42 8 v l.length (segs l) ∧ ∀ k, v.ownBlock = some k → ¬ k ∈ fp
theorem Row.next {B : Nat} {a b : World} {fp fp' : List Nat} {v : Value} {l : List Sg} (h : Row B a fp v l) (k : Live.Step a b fp fp') : Row B b fp' v l := by
  refine ⟨own_frm h.1 k.1 h.2, fun x hx hm => ?_⟩
  rcases k.2 x hm with h1 | h1
  · exact h.2 x hx h1
  · exact absurd (own_lt h.1 hx).1 (by omega)
theorem Row.frm0 {B : Nat} {a b : World} {fp : List Nat} {v : Value} {l : List Sg} (h : Row B a fp v l) (hf : Frm [] a b) : Row B b fp v l := ⟨own_frm h.1 hf (by simp), h.2⟩
theorem Row.segs {B : Nat} {a : World} {fp : List Nat} {v : Value} {l : List Sg} (h : Row B a fp v l) (h0 : 0 < l.length) (hl : l.length ≤ 1000000000) : SegsAt a v l := by
  rcases h.1.2 with ⟨_, h1⟩ | ⟨k, cap, cur, hv, _, hh, h1, _, _, h4⟩
  · omega
  · refine ⟨k, cap, hv, h1, hl, fun j u hu => ?_⟩
    have hb : Blk a k 42 cur := hh
    rw [hb.cell j, ← hu]
    exact own_cell h4 (List.getElem?_eq_some_iff.1 hu).1
theorem segs_lit {w : World} {b : Nat} {s : Sg} (h : Blk w b 42 s.box) : SegsAt w (.slice (some ⟨b, 0, none⟩) 1 1) [s] := by
  refine ⟨b, 1, rfl, Nat.le_refl _, by show (1 : Nat) ≤ 1000000000; decide, fun j u hu => ?_⟩
  rw [h.cell j, ← hu]
  show s.cells.toArray[j]? = (s.cells ++ [])[j]?
  simp
theorem Live.out {w a b : World} {fp : List Nat} {g : Nat} {c : CN} {e : Ending} (h : Live w a fp g c) (k : OutPost a w.heap.size fp g c e b) : ∃ v fp', e = .returned v ∧ Live w b fp' g c.drain ∧ Live.Step a b fp fp' ∧ Row w.heap.size b fp' v c.out := by
  obtain ⟨v, he, fp', hx, hf, hi, ho, hn⟩ := k
  obtain ⟨fp2, h2, h3⟩ := h.next ⟨fp', hx, hf, hi⟩
  refine ⟨v, fp', he, ⟨hx, h.frm.next hf (fun i hi => .inr (h.new i hi)), fun i hi2 => ?_⟩, ⟨hf, hi⟩, ho, hn⟩
  rcases hi i hi2 with h1 | h1
  · exact h.new i h1
  · exact Nat.le_trans h.frm.size h1

theorem newok_how : NewOk sSyn tHow := ⟨by decide, by decide, by decide, by decide, ⟨by decide, by decide, by decide, by decide⟩, by decide⟩
theorem sA_ok : sA.Ok := ⟨by decide, by decide, by decide, by decide, by decide, by decide, by decide⟩
theorem sHi_ok : sHi.Ok := ⟨by decide, by decide, by decide, by decide, by decide, by decide, by decide⟩
def cL : CN := (cC.drain.inn sA).inn sHi
theorem cA_len : (cC.drain.inn sA).out.length ≤ 800000 := by
  have : (cC.drain.inn sA).out.length = 0 := by kernel_rfl
  omega
theorem cL_len : cL.drain.out.length ≤ 900000 := Nat.zero_le _

set_option maxRecDepth 100000 in
set_option maxHeartbeats 4000000 in
theorem awake_any (w : World) : Calls Try.prog 8 #[] w fun e w' => e = .returned (.bool true) ∧ Frm [] w w' := by
  go_enter Try.func8, Try.ntmps8
  go_wp2_with fail
  refine (syn_any _).mono ?_
  rintro e w1 ⟨rfl, hf1⟩
  go_wp2_with fail
  refine (how_any _).mono ?_
  rintro e w2 ⟨rfl, hf2⟩
  have hfa := hf1.next0 hf2
  go_wp2_with fail
  refine (cnew_ok sSyn 500 tHow _ newok_how).mono ?_
  intro e w3 hnew
  obtain ⟨g, fp3, rfl, hl3, -⟩ := Live.of_new hfa hnew
  have HFA := Lib.hid hfa
  clear hnew hf1 hf2 hfa
  go_wp2_with fail
  refine (cout_in _ hl3.inn).mono ?_
  intro e w4 hout
  obtain ⟨v, fp4, rfl, hl4, hst4, hr4⟩ := hl3.out hout
  clear hout hst4 hl3
  go_wp2_with fail
  refine (cin_in _ sA (Nat.zero_le _) sA_ok hl4.inn).mono ?_
  rintro e w5 ⟨rfl, hto⟩
  obtain ⟨fp5, hl5, hst5⟩ := hl4.next hto
  have hr5 := hr4.next hst5
  clear hto hl4 hr4 hst5
  go_wp2_with fail
  refine (cin_in _ sHi cA_len sHi_ok hl5.inn).mono ?_
  rintro e w6 ⟨rfl, hto⟩
  obtain ⟨fp6, hl6, hst6⟩ := hl5.next hto
  have hr6 := hr5.next hst6
  clear hto hl5 hr5 hst6
  go_wp2_with fail
  refine (cout_in _ hl6.inn).mono ?_
  intro e w7 hout
  obtain ⟨u, fp7, rfl, hl7, hst7, hru7⟩ := hl6.out hout
  have hr7 := hr6.next hst7
  clear hout hl6 hr6 hst7
  have e1 : CN.out (CN.start sSyn 500 tHow) = [⟨10, 9, 500, 101, 18, 2048, 536, []⟩] := ev_first
  rw [e1] at hr7
  rw [ev_l] at hru7
  have HL7 := Lib.hid hl7
  clear hl7 e1
  go_wp2_with fail
  refine (same_any v _ [⟨10, 9, 500, 101, 18, 2048, 536, []⟩] _ ((hr7.frm0 ((Frm.refl _ _).alloc _)).segs (by decide) (by decide)) (segs_lit (Blk.new _ _ _))).mono ?_
  rintro e w8 ⟨rfl, hd8⟩
  have hf8 : Frm [] w7 w8 := hd8.next ((Frm.refl _ _).alloc _)
  have hru8 := hru7.frm0 hf8
  have HL8 := Lib.hid (HL7.out.frm0 hf8)
  clear hd8 hf8 hru7 hr7 HL7
  go_wp2_with fail
  refine (same_any u _ [⟨10, 9, 501, 103, 16, 2046, 0, []⟩] _ ((hru8.frm0 ((Frm.refl _ _).alloc _)).segs (by decide) (by decide)) (segs_lit (Blk.new _ _ _))).mono ?_
  rintro e w9 ⟨rfl, hd9⟩
  have hf9 : Frm [] w8 w9 := hd9.next ((Frm.refl _ _).alloc _)
  have hl9 := HL8.out.frm0 hf9
  clear hd9 hf9 hru8 HL8
  have hst := cstate_in w9 hl9.inn
  have hrd := cread_in w9 9 (Nat.zero_le _) hl9.inn
  rw [ev_state] at hst
  rw [ev_got] at hrd
  have HST := Lib.hid hst
  have HRD := Lib.hid hrd
  have HL9 := Lib.hid hl9
  clear hst hrd hl9
  go_wp2_with fail
  refine HST.out.mono ?_
  rintro e w' ⟨rfl, rfl⟩
  go_wp2_with fail
  refine HRD.out.mono ?_
  rintro e w10 ⟨rfl, hto⟩
  obtain ⟨fp10, hl10, -⟩ := HL9.out.next hto
  clear hto HL9 HRD HST
  go_wp2_with fail
  go_ret
  exact ⟨rfl, HFA.out.next0 hl10.frm⟩

end Go.Proofs.Ytpmlojgngcllfaa
