/- Proved: the statement Rows.ConnDoneSaid: for every input the Go function blockyardlaw15.ConnDone returns true and leaves its arguments as they were. Conditions: none beyond the row's own. -/
import Derived.Test.YtpmlojgngcllfaaRows
import Derived.Test.YtpmlojgngcllfaaConnDoneZ
import Derived.WalkKit
import Derived.ProofKit
import Derived.OpenShut
import Derived.ShutString
import Derived.ChangeOld
import Derived.Below
namespace Go.Proofs.Ytpmlojgngcllfaa.connDone
open Go.ChangeShapes Go.WideShapes Go.ChangeAt Go.RowKit
open Go.ChangeMaps (open_string shut_string)
set_option linter.unusedVariables false

theorem own : ownKnob Try.prog.godebug = none := by kernel_rfl
theorem laidOut : laidOutB Try.prog = true := by kernel_rfl

theorem meas_lt {gk len k : Nat} (h : gk = len - k) (h2 : k < len) : len - (k + 1) < gk := by omega
theorem wrw {iss irs : Int} {give take : List UInt8} {w : World} {gx gt : Nat} {x : EX} (h : XIn iss irs give take w gx gt x) (n : Nat) (m : Int) (hm : m = ((x.W + n : Nat) : Int)) : XIn iss irs give take (w.setCell ⟨gx, 4, none⟩ (.int .i64 m)) gx gt (x.wr n) ∧ Frm [gx, gt] w (w.setCell ⟨gx, 4, none⟩ (.int .i64 m)) := by
  subst hm
  exact ⟨⟨(h.blk.set_ 4 _).as_ rfl, h.th.far (p := ⟨gx, 4, none⟩) (Ne.symm h.ne) _, h.tl⟩, (Frm.refl _ _).setCell (.inl (by simp)) _⟩
theorem drop_at {α : Type} {l : List α} {j : Nat} {s : α} (h : l[j]? = some s) : l.drop j = s :: l.drop (j + 1) := by
  obtain ⟨h1, rfl⟩ := List.getElem?_eq_some_iff.1 h
  exact List.drop_eq_getElem_cons h1
theorem RI.hg {iss irs : Int} {give take : List UInt8} {i : Nat} {x : EX} {c : CN} {got : List UInt8} (h : RI iss irs give take i x c got) : x.H ≤ give.length + 1 := by
  obtain ⟨q, u, v, t, h⟩ := h
  have h1 := h.k.toK0.rcv_le.1
  have h2 := h.hh
  omega
theorem Two.aside {iss irs : Int} {give take : List UInt8} {wa a b : World} {fp : List Nat} {g gx gt k : Nat} {c : CN} {x : EX} (h : Two iss irs give take wa a fp g gx gt c x) (hf : Frm [k] a b) (h1 : ¬ k ∈ fp) (h2 : k ≠ gx) (h3 : k ≠ gt) (h4 : wa.heap.size ≤ k) : Two iss irs give take wa b fp g gx gt c x := by
  refine ⟨⟨h.live.inn.frm hf fun i hi hm => ?_, h.live.frm.next hf fun i hi => .inr ?_, h.live.new⟩, h.xin.frm hf (by simpa using Ne.symm h2) (by simpa using Ne.symm h3), h.nx, h.nt, h.lx, h.lt⟩
  · simp at hm
    subst hm
    exact h1 hi
  · simp at hi
    subst hi
    exact h4
/-- What the other end says, in memory. -/
def SayAt (w : World) (b : Nat) (S K F : Int) (D : List UInt8) : Prop := Blk w b 42 #[.int .i64 9, .int .i64 10, .int .u32 S, .int .u32 K, .int .i64 F, .int .i64 1000, .int .i64 0, .string ⟨D.toArray⟩]
theorem say_far {iss irs : Int} {give take : List UInt8} {wa a : World} {fp : List Nat} {g gx gt k : Nat} {c : CN} {x : EX} {S K F : Int} {D : List UInt8} (h : Two iss irs give take wa a fp g gx gt c x) (hb : SayAt a k S K F D) : k ≠ gx ∧ k ≠ gt :=
  ⟨Blk.ne_ hb h.xin.blk (by decide), Blk.ne_ hb h.xin.th (by decide)⟩
theorem sayw4 {iss irs : Int} {give take : List UInt8} {wa a : World} {fp : List Nat} {g gx gt k : Nat} {c : CN} {x : EX} {S K F : Int} {D : List UInt8} {v : Int} (h : Two iss irs give take wa a fp g gx gt c x) (hb : SayAt a k S K F D) (h1 : ¬ k ∈ fp) (h4 : wa.heap.size ≤ k) :
    Two iss irs give take wa (a.setCell ⟨k, 4, none⟩ (.int .i64 v)) fp g gx gt c x ∧ SayAt (a.setCell ⟨k, 4, none⟩ (.int .i64 v)) k S K v D :=
  ⟨Two.aside h ((Frm.refl _ _).setCell (.inl (by simp)) _) h1 (say_far h hb).1 (say_far h hb).2 h4, (Blk.set_ hb 4 _).as_ rfl⟩
theorem sayw2 {iss irs : Int} {give take : List UInt8} {wa a : World} {fp : List Nat} {g gx gt k : Nat} {c : CN} {x : EX} {S K F : Int} {D : List UInt8} {v : Int} (h : Two iss irs give take wa a fp g gx gt c x) (hb : SayAt a k S K F D) (h1 : ¬ k ∈ fp) (h4 : wa.heap.size ≤ k) :
    Two iss irs give take wa (a.setCell ⟨k, 2, none⟩ (.int .u32 v)) fp g gx gt c x ∧ SayAt (a.setCell ⟨k, 2, none⟩ (.int .u32 v)) k v K F D :=
  ⟨Two.aside h ((Frm.refl _ _).setCell (.inl (by simp)) _) h1 (say_far h hb).1 (say_far h hb).2 h4, (Blk.set_ hb 2 _).as_ rfl⟩
set_option maxRecDepth 100000 in
set_option maxHeartbeats 20000000 in
theorem walk (a0 : Int) (a1 : Int) (a2 : ByteArray) (a3 : ByteArray) (a4 : Option Addr) (len4 cap4 : Nat) (a5 : Int) (w : World) (w0 : (Lit.int .u32 a0).wf = true) (w1 : (Lit.int .u32 a1).wf = true) (w2 : a2.size ≤ maxLen) (w3 : a3.size ≤ maxLen) (z4 : List Int) (w4 : Ints .u8 w a4 len4 cap4 z4) (w5 : (Lit.int .u8 a5).wf = true) : Calls Try.prog 3 #[.int .u32 a0, .int .u32 a1, .string a2, .string a3, .slice a4 len4 cap4, .int .u8 a5] w fun e w' => e = .returned (.bool true) ∧ Below w.heap.size w w' := by
  obtain ⟨give, rfl⟩ := ba_list a2
  obtain ⟨take, rfl⟩ := ba_list a3
  rw [ba_size] at w2 w3
  have hgm : give.length ≤ 9223372036854775807 := w2
  have htm : take.length ≤ 9223372036854775807 := w3
  obtain ⟨i0, i1⟩ := u32_of_wf w0
  obtain ⟨j0, j1⟩ := u32_of_wf w1
  obtain ⟨u0, u1⟩ := u8_of_wf w5
  obtain ⟨hzl, hlc, hcm, hxw, hxc⟩ := w4
  have hcm2 : cap4 ≤ 9223372036854775807 := hcm
  clear w0 w1 w2 w3 w5 hcm
  have HXW := Lib.hid hxw
  have HXC := Lib.hid hxc
  have HI := Lib.hid (show 0 ≤ a0 ∧ a0 < 4294967296 from ⟨i0, i1⟩)
  have HJ := Lib.hid (show 0 ≤ a1 ∧ a1 < 4294967296 from ⟨j0, j1⟩)
  clear hxw hxc i0 i1 j0 j1
  have zg := ba_size give
  have zt := ba_size take
  go_enter Try.func3, Try.ntmps3
  go_wp2_with fail
  refine (awake_any _).mono ?_
  rintro e wb ⟨rfl, hfb⟩
  by_cases hG : 3000 < give.length
  · have q1 : decide ((3000 : Int) < (give.length : Int)) = true := by simp; omega
    clear hG
    go_wp2_with fail
    go_ret
    exact ⟨rfl, hfb.below (Nat.le_refl _) (by simp)⟩
  have q1 : decide ((3000 : Int) < (give.length : Int)) = false := by simp; omega
  by_cases hT : 3000 < take.length
  · have q2 : decide ((3000 : Int) < (take.length : Int)) = true := by simp; omega
    clear hT hG
    go_wp2_with fail
    go_ret
    exact ⟨rfl, hfb.below (Nat.le_refl _) (by simp)⟩
  have q2 : decide ((3000 : Int) < (take.length : Int)) = false := by simp; omega
  by_cases hM : 60 < len4
  · have q3 : decide ((60 : Int) < (len4 : Int)) = true := by simp; omega
    clear hM hT hG
    go_wp2_with fail
    go_ret
    exact ⟨rfl, hfb.below (Nat.le_refl _) (by simp)⟩
  have q3 : decide ((60 : Int) < (len4 : Int)) = false := by simp; omega
  have hG3 : give.length ≤ 3000 := by omega
  have hT3 : take.length ≤ 3000 := by omega
  have hM6 : len4 ≤ 60 := by omega
  clear hM hT hG
  go_wp2_with fail
  refine (xbegin_in a0 a1 give take _ hT3).mono ?_
  rintro e w2 ⟨wa, fp0, g, gx, gt, rfl, hfa, htwo0⟩
  have hri0 := RI.start (iss := a0) (irs := a1) (give := give) (take := take) HI.out.1 HI.out.2 hG3 hT3
  have hfwa : Frm [] w wa := hfb.next0 hfa
  have HRI0 := Lib.hid hri0
  have HTW0 := Lib.hid htwo0
  have HFWA := Lib.hid hfwa
  clear hri0 hfb hfa htwo0 hfwa q1 q2 q3
  go_wp2_with fail
  go_loopg [16, 17] 800 (fun gk v16 v17 wr => ∃ (i : Nat) (fp : List Nat) (c : CN) (x : EX) (got : List UInt8), i ≤ 800 ∧ gk = 800 - i ∧ v16 = .string ⟨got.toArray⟩ ∧ v17 = .int .i64 (i : Int) ∧ Two a0 a1 give take wa wr fp g gx gt c x ∧ RI a0 a1 give take i x c got ∧ Lim i c)
  case atStart => exact ⟨0, fp0, _, _, [], by omega, rfl, rfl, rfl, HTW0.out, HRI0.out, Lim.start a0 a1⟩
  case round =>
    clear HRI0 HTW0
    obtain ⟨i, fp, c, x, got, hi, hgk, rfl, rfl, htw, hri, hlm⟩ := hrel
    have hst := cstate_in _ htw.live.inn
    have HST := Lib.hid hst
    clear hst
    by_cases h9 : c.state = 9
    · obtain ⟨er, eg, eU, eF, eo⟩ := hri.end h9
      subst eg
      have hre := creset_in _ htw.live.inn
      have heo := ceof_in _ htw.live.inn
      rw [er] at hre
      rw [eo] at heo
      have hst := HST.out
      rw [h9] at hst
      have HRE := Lib.hid hre
      have HEO := Lib.hid heo
      have HSE := Lib.hid hst
      have c6 : wr.cell? ⟨gx, 6, none⟩ = some (.int .i64 (take.length : Int)) := by have := htw.xin.blk.cell 6; rw [← eU]; exact this
      have c9 : wr.cell? ⟨gx, 9, none⟩ = some (.bool true) := by have := htw.xin.blk.cell 9; rw [← eF]; exact this
      have HFR := Lib.hid (HFWA.out.next0 htw.live.frm)
      clear hre heo hst HST h9 er eU eF eo hri hlm htw
      by_cases hlt : i < 800
      · have q1 : decide ((i : Int) < 800) = true := by simp; omega
        go_wp2_with fail
        refine HSE.out.mono ?_
        rintro e w' ⟨rfl, rfl⟩
        go_wp2_with fail
        refine HSE.out.mono ?_
        rintro e w' ⟨rfl, rfl⟩
        go_wp2_with fail
        refine HRE.out.mono ?_
        rintro e w' ⟨rfl, rfl⟩
        go_wp2_with fail
        refine HEO.out.mono ?_
        rintro e w' ⟨rfl, rfl⟩
        go_wp2_with fail
        go_ret
        exact ⟨rfl, HFR.out.below (Nat.le_refl _) (by simp)⟩
      · have q1 : decide ((i : Int) < 800) = false := by simp; omega
        go_wp2_with fail
        refine HSE.out.mono ?_
        rintro e w' ⟨rfl, rfl⟩
        go_wp2_with fail
        refine HRE.out.mono ?_
        rintro e w' ⟨rfl, rfl⟩
        go_wp2_with fail
        refine HEO.out.mono ?_
        rintro e w' ⟨rfl, rfl⟩
        go_wp2_with fail
        go_ret
        exact ⟨rfl, HFR.out.below (Nat.le_refl _) (by simp)⟩
    · have hlt : i < 800 := by
        rcases (by omega : i < 800 ∨ 700 < i) with h1 | h1
        · exact h1
        · exact absurd (hri.gone h1) h9
      have q1 : decide ((i : Int) < 800) = true := by simp; omega
      have q2 : (c.state == 9) = false := by simpa using h9
      have HTW := Lib.hid htw
      have HRI := Lib.hid hri
      have HLM := Lib.hid hlm
      have H9 := Lib.hid h9
      clear htw hri hlm h9
      go_wp2_with fail
      refine HST.out.mono ?_
      rintro e w' ⟨rfl, rfl⟩
      clear HST
      obtain ⟨mk, hmk⟩ : ∃ mk : Int, mk = if i < len4 then z4.getD i 0 else 0 := ⟨_, rfl⟩
      have HMK := Lib.hid hmk
      clear hmk
      go_upto_if 62 with fail
      go_cut [18] (fun u wy => u = .int .u8 mk ∧ wr = wy)
      case first =>
        by_cases hi4 : i < len4
        · obtain ⟨b4, o4, rfl, hbl, hcs⟩ := HXC.out (by omega)
          have q4 : decide ((i : Int) < (len4 : Int)) = true := by simp; omega
          have hmk : mk = z4.getD i 0 := by rw [HMK.out, if_pos hi4]
          have d4 : wr.cell? ⟨b4, o4 + i, none⟩ = some (.int .u8 mk) := by rw [hmk]; exact ((HFWA.out.next0 HTW.out.live.frm).cell (p := ⟨b4, o4 + i, none⟩) hbl (by simp)).trans (hcs i hi4)
          have l0 : (0 : Int) ≤ (i : Int) := by omega
          have l1 : (i : Int) < (len4 : Int) := by omega
          have l2 : (len4 : Int) ≤ (cap4 : Int) := by omega
          clear hbl hcs hmk
          go_wp2_with fail
          go_meet
          exact ⟨rfl, rfl⟩
        · have q4 : decide ((i : Int) < (len4 : Int)) = false := by simp; omega
          have hmk : mk = 0 := by rw [HMK.out, if_neg hi4]
          have HMK2 := Lib.hid hmk
          clear hmk
          go_wp2_with fail
          go_meet
          exact ⟨by rw [HMK2.out], rfl⟩
      case rest =>
        obtain ⟨rfl, rfl⟩ := hcut
        go_wp2_with fail
        refine (ctick_in _ (by have := HLM.out.ol; omega) (HLM.out.calm hi) HTW.out.live.inn).mono ?_
        rintro e w3 ⟨rfl, hto⟩
        obtain ⟨fp3, htw3, -⟩ := HTW.out.next hto
        have c4 : w3.cell? ⟨gx, 4, none⟩ = some (.int .i64 (x.W : Int)) := htw3.xin.blk.cell 4
        have HTW3 := Lib.hid htw3
        obtain ⟨hxW, -, hxH, -, -⟩ := HRI.out.bd
        have hex : (⟨take.toArray⟩ : ByteArray).extract x.W take.length = ⟨(take.drop x.W).toArray⟩ := by
          rw [ba_extract, List.take_of_length_le (by rw [List.length_drop]; exact Nat.le_refl _)]
        clear hto htw3 HTW q1 q2
        go_wp2_with fail
        refine (cwrite_in _ (take.drop x.W) (by rw [List.length_drop]; unfold maxLen; omega) (by have := (HLM.out.outs (take.drop x.W)).1; omega) HTW3.out.live.inn).mono ?_
        rintro e w4 ⟨rfl, hto⟩
        obtain ⟨fp4, htw4, -⟩ := HTW3.out.next hto
        obtain ⟨n, hn⟩ : ∃ n : Nat, n = c.more (take.drop x.W) := ⟨_, rfl⟩
        have hn' : c.tick.wrote (take.drop x.W) = n := hn.symm
        rw [hn']
        have hWT : x.W + n ≤ take.length := by rw [hn]; exact (HRI.out.mid H9.out (shut := false) (fun h => by cases h)).W
        have c4 : w4.cell? ⟨gx, 4, none⟩ = some (.int .i64 (x.W : Int)) := htw4.xin.blk.cell 4
        have f4 : w4.frozen? ⟨gx, 4, none⟩ = false := htw4.xin.blk.frozen 4
        have q5 : decide ((n : Int) < 0) = false := by simp
        have q6 : decide ((take.length : Int) - (x.W : Int) < (n : Int)) = false := by simp; omega
        have HTW4 := Lib.hid htw4
        have HN := Lib.hid hn
        clear hto htw4 HTW3 hn hn' hex
        go_upto_region 20 with fail
        obtain ⟨Wn, hWn⟩ : ∃ Wn : Nat, Wn = x.W + n := ⟨_, rfl⟩
        refine wp_world (fun wy => Two a0 a1 give take wa wy fp4 g gx gt (c.tick.write (take.drop x.W)) (x.wr n)) (HTW4.out.ends (wrw HTW4.out.xin n _ (by omega)).2 (wrw HTW4.out.xin n _ (by omega)).1) ?_
        intro w5 htw5
        have HTW5 := Lib.hid htw5
        have HWN := Lib.hid hWn
        rw [← hWn] at hWT
        clear c4 f4 q5 q6 htw5 hWn HTW4
        go_wp2_with fail
        refine (cread_in _ 3000 (by have := (HLM.out.outs (take.drop x.W)).2.1; omega) HTW5.out.live.inn).mono ?_
        rintro e w6 ⟨rfl, hto⟩
        obtain ⟨fp6, htw6, -⟩ := HTW5.out.next hto
        obtain ⟨G, hG⟩ : ∃ G, G = got ++ c.told_ (take.drop x.W) := ⟨_, rfl⟩
        have happ : (⟨got.toArray⟩ : ByteArray) ++ ⟨((c.tick.write (take.drop x.W)).got 3000).toArray⟩ = ⟨G.toArray⟩ := by rw [ba_append, hG]; rfl
        have hln : got.length + ((c.tick.write (take.drop x.W)).got 3000).length ≤ 9223372036854775807 := by
          have h1 := (HRI.out.mid H9.out (shut := false) (fun h => by cases h)).gl
          have h2 : (got ++ c.told_ (take.drop x.W)).length = got.length + ((c.tick.write (take.drop x.W)).got 3000).length := List.length_append
          omega
        have c4 : w6.cell? ⟨gx, 4, none⟩ = some (.int .i64 (Wn : Int)) := by have := htw6.xin.blk.cell 4; rw [HWN.out]; exact this
        have HTW6 := Lib.hid htw6
        have HGG := Lib.hid hG
        clear htw6 hG hto HTW5
        go_upto_region 21 with fail
        obtain ⟨shut, hsd⟩ : ∃ shut : Bool, shut = (decide (a5 ≤ (i : Int)) && decide (Wn = take.length)) := ⟨_, rfl⟩
        have HSD := Lib.hid hsd
        clear hsd happ hln
        go_cut [115] (fun v wy => v = .bool shut ∧ w6 = wy)
        case first =>
          by_cases h1 : a5 ≤ (i : Int)
          · have q7 : decide (a5 ≤ (i : Int)) = true := by simpa using h1
            by_cases h2 : Wn = take.length
            · have q8 : ((Wn : Int) == (take.length : Int)) = true := by simp; omega
              have hs : shut = true := by rw [HSD.out, q7, decide_eq_true h2]; rfl
              have HS := Lib.hid hs
              clear hs h1 h2
              go_wp2_with fail
              go_meet
              exact ⟨by rw [HS.out], rfl⟩
            · have q8 : ((Wn : Int) == (take.length : Int)) = false := by simp; omega
              have hs : shut = false := by rw [HSD.out, q7, decide_eq_false h2]; rfl
              have HS := Lib.hid hs
              clear hs h1 h2
              go_wp2_with fail
              go_meet
              exact ⟨by rw [HS.out], rfl⟩
          · have q7 : decide (a5 ≤ (i : Int)) = false := by simpa using h1
            have hs : shut = false := by rw [HSD.out, q7]; rfl
            have HS := Lib.hid hs
            clear hs h1
            go_wp2_with fail
            go_meet
            exact ⟨by rw [HS.out], rfl⟩
        case rest =>
         obtain ⟨rfl, rfl⟩ := hcut
         go_upto_if 115 with fail
         go_cut [] (fun wy => ∃ fp7, Two a0 a1 give take wa wy fp7 g gx gt (c.pass (take.drop x.W) shut) (x.wr n))
         case first =>
          clear HSD c4
          cases shut
          · go_wp2_with fail
            go_meet
            exact ⟨fp6, HTW6.out⟩
          · go_wp2_with fail
            refine (cclose_in _ (by have := (HLM.out.outs (take.drop x.W)).2.2.1; omega) HTW6.out.live.inn).mono ?_
            rintro e w7 ⟨rfl, hto⟩
            obtain ⟨fp7, htw7, -⟩ := HTW6.out.next hto
            clear hto
            go_wp2_with fail
            go_meet
            exact ⟨fp7, htw7⟩
         case rest =>
          obtain ⟨fp7, htw7⟩ := hcut
          have hsh : shut = true → x.W + c.more (take.drop x.W) = take.length := fun h => by
            rw [HSD.out, Bool.and_eq_true] at h
            have h2 := of_decide_eq_true h.2
            have h3 := HWN.out
            have h4 := HN.out
            omega
          have hall : 256 ≤ i → x.W + c.more (take.drop x.W) = take.length → shut = true := fun h1 h2 => by
            have h3 := HWN.out
            have h4 := HN.out
            rw [HSD.out, decide_eq_true (show a5 ≤ (i : Int) by omega), decide_eq_true (show Wn = take.length by omega)]
            rfl
          have hmid := HRI.out.mid H9.out hsh
          obtain ⟨hmW, hmg, hml, cl, t, nn, hear⟩ := hmid
          rw [← HN.out] at hear
          rw [← HGG.out] at hmg hml
          have HG1 := Lib.hid hmg
          have HSH := Lib.hid hsh
          have HALL := Lib.hid hall
          clear hmg hsh hall hmW
          go_wp2_with fail
          refine (cout_in _ htw7.live.inn).mono ?_
          intro e w8 hout
          obtain ⟨vo, fp8, rfl, htw8, hrow⟩ := htw7.out hout
          obtain ⟨A8, C8, rfl⟩ := own_form hrow.1
          have hol := HLM.out.outs2 (take.drop x.W) shut
          obtain ⟨d, hd⟩ : ∃ d, d = c.pass (take.drop x.W) shut := ⟨_, rfl⟩
          rw [← hd] at hear htw8 hrow hol
          rw [← hd]
          have HD := Lib.hid hd
          obtain ⟨m1, hm1⟩ : ∃ m1 : Bool, m1 = (bits .and .u8 (mk / 2) 1 == 0) := ⟨_, rfl⟩
          obtain ⟨Y, hY⟩ : ∃ Y : EX, Y = if m1 then (x.wr n).hears a0 a1 d.out else x.wr n := ⟨_, rfl⟩
          obtain ⟨L, hL⟩ : ∃ L, L = d.out.length := ⟨_, rfl⟩
          rw [← hL] at hol
          rw [← hL]
          have HTW8 := Lib.hid htw8
          have HROW := Lib.hid hrow
          have HEAR := Lib.hid hear
          have HY := Lib.hid hY
          have HYD := Lib.hid hY
          have HM1 := Lib.hid hm1
          have HL := Lib.hid hL
          clear htw7 hout htw8 hrow hear hd hY hm1 hL HTW6
          go_wp2_with fail
          go_loopg [21] L (fun gk v21 wr => ∃ (j : Nat) (xj : EX), j ≤ L ∧ gk = L - j ∧ v21 = .int .i64 (j : Int) ∧ Two a0 a1 give take wa wr fp8 g gx gt d.drain xj ∧ Row wa.heap.size wr fp8 (.slice A8 d.out.length C8) d.out ∧ Ear a0 a1 take cl t nn xj (d.out.drop j) ∧ (if m1 then xj.hears a0 a1 (d.out.drop j) else xj) = Y)
          case atStart => exact ⟨0, x.wr n, Nat.zero_le _, rfl, rfl, HTW8.out, HROW.out, HEAR.out, HY.out.symm⟩
          case round =>
            clear HTW8 HROW HEAR HY
            obtain ⟨j, xj, hj, hgk2, rfl, htj, hrj, hej, hyj⟩ := hrel
            by_cases hlj : j < L
            · have q1 : decide ((j : Int) < (L : Int)) = true := by simp; omega
              obtain ⟨s, hs⟩ : ∃ s, d.out[j]? = some s := ⟨_, List.getElem?_eq_getElem (by rw [← HL.out]; exact hlj)⟩
              rw [drop_at hs] at hej hyj
              cases m1
              · have q2 : (bits .and .u8 (mk / 2) 1 == 0) = false := HM1.out.symm
                have HEJ := Lib.hid hej.skip
                have HTJ := Lib.hid htj
                have HRJ := Lib.hid hrj
                have HYJ := Lib.hid hyj
                have HL2 := Lib.hid hlj
                clear hej htj hrj hyj hs
                go_wp2_with fail
                go_roundg (L - (j + 1))
                case measure => exact meas_lt hgk2 HL2.out
                case rel => exact ⟨j + 1, xj, HL2.out, rfl, by go_num, HTJ.out, HRJ.out, HEJ.out, HYJ.out⟩
              · have q2 : (bits .and .u8 (mk / 2) 1 == 0) = true := HM1.out.symm
                obtain ⟨bo, cap, hv, hcap, hsi⟩ := hrj.at hs (by rw [← HL.out]; omega)
                injection hv with hv1 hv2 hv3
                subst hv1 hv3
                rw [← HL.out] at hcap
                have x0 := hsi 0 _ (by decide) rfl
                have x1 := hsi 1 _ (by decide) rfl
                have x2 := hsi 2 _ (by decide) rfl
                have x3 := hsi 3 _ (by decide) rfl
                have x4 := hsi 4 _ (by decide) rfl
                have x5 := hsi 5 _ (by decide) rfl
                have x6 := hsi 6 _ (by decide) rfl
                have x7 := hsi 7 _ (by decide) rfl
                simp only [Nat.add_zero] at x0
                have l0 : (0 : Int) ≤ (j : Int) := by omega
                have l1 : (j : Int) < (L : Int) := by omega
                have l2 : (L : Int) ≤ (C8 : Int) := by omega
                have HTJ := Lib.hid htj
                have HRJ := Lib.hid hrj
                have HEJ := Lib.hid hej
                have HYJ := Lib.hid hyj
                have HL2 := Lib.hid hlj
                clear hej htj hrj hyj hs hsi hcap
                go_wp2_with fail
                refine (xhears_in _ HTJ.out.xin HI.out.1 HI.out.2 HEJ.out).mono ?_
                rintro e w9 ⟨rfl, hx9, hf9⟩
                have HX9 := Lib.hid hx9
                have HF9 := Lib.hid hf9
                clear hx9 hf9 x0 x1 x2 x3 x4 x5 x6 x7
                go_wp2_with fail
                go_roundg (L - (j + 1))
                case measure => exact meas_lt hgk2 HL2.out
                case rel => exact ⟨j + 1, xj.hear a0 a1 s, HL2.out, rfl, by go_num, HTJ.out.ends HF9.out HX9.out, HRJ.out.ends HTJ.out.xin HF9.out, HEJ.out.step, HYJ.out⟩
            · have q1 : decide ((j : Int) < (L : Int)) = false := by simp; omega
              have hjl : d.out.length ≤ j := by rw [← HL.out]; omega
              rw [List.drop_of_length_le hjl] at hej hyj
              have hyj2 : xj = Y := by rw [← hyj]; cases m1 <;> rfl
              subst hyj2
              have c10 : wr.cell? ⟨gx, 10, none⟩ = some (.bool false) := htj.xin.blk.cell 10
              have c11 : wr.cell? ⟨gx, 11, none⟩ = some (.bool false) := htj.xin.blk.cell 11
              have HTJ := Lib.hid htj
              have HEJ := Lib.hid hej
              clear hej htj hrj hyj hjl q1
              have HGL := Lib.hid hml
              clear hml
              go_upto_region 29 with fail
              go_cut [156] (fun v wy => v = .bool false ∧ wr = wy)
              case first =>
                have hgl2 : G.length ≤ give.length := HGL.out
                have hgg : give.take G.length = G := HG1.out
                have HGG1 := Lib.hid hgg
                have ege : (⟨give.toArray⟩ : ByteArray).extract 0 G.length = ⟨G.toArray⟩ := by rw [ba_extract, List.drop_zero, Nat.sub_zero, hgg]
                have zG := ba_size G
                clear hgg
                go_wp2_with fail
                all_goals go_meet
                all_goals exact ⟨rfl, rfl⟩
              case rest =>
                obtain ⟨rfl, rfl⟩ := hcut
                clear c10 c11
                have c7 : wr.cell? ⟨gx, 7, none⟩ = some (.int .i64 (xj.H : Int)) := HTJ.out.xin.blk.cell 7
                go_wp2_with fail
                have hsy := xsays_in (give := give) (take := take) _ HTJ.out.xin HI.out.1 HI.out.2 HJ.out.1 HJ.out.2 hG3 (Nat.le_trans HEJ.out.xi.uw (Nat.le_trans HEJ.out.xi.wt HEJ.out.tl)) (Nat.le_trans HEJ.out.hh HEJ.out.nn)
                obtain ⟨SA, hSA⟩ : ∃ SA : Int, SA = (a1 + 1 + ((min xj.H give.length : Nat) : Int)) % 4294967296 := ⟨_, rfl⟩
                obtain ⟨KA, hKA⟩ : ∃ KA : Int, KA = (a0 + 1 + ((xj.U + (if xj.F then 1 else 0) : Nat) : Int)) % 4294967296 := ⟨_, rfl⟩
                obtain ⟨DA, hDA⟩ : ∃ DA : List UInt8, DA = (give.drop xj.H).take 100 := ⟨_, rfl⟩
                rw [← hSA, ← hKA, ← hDA] at hsy
                have HSA := Lib.hid hSA
                have HKA := Lib.hid hKA
                have HDA := Lib.hid hDA
                obtain ⟨m0, hm0⟩ : ∃ m0 : Bool, m0 = (bits .and .u8 mk 1 == 0) := ⟨_, rfl⟩
                have hmm : 60 ≤ i → m1 = true ∧ m0 = true := fun h6 => by
                  have hz : mk = 0 := by rw [HMK.out, if_neg (by omega)]
                  rw [HM1.out, hm0, hz]
                  exact ⟨by kernel_rfl, by kernel_rfl⟩
                have hnx := RI.round (m0 := m0) HRI.out H9.out HSH.out HALL.out hmm (y := xj) (by rw [← HN.out, ← HD.out]; exact HYD.out)
                have hln := Lim.step (iss := a0) (irs := a1) (give := give) (rest := take.drop x.W) (m0 := m0) (U := xj.U) (F := xj.F) (H := xj.H) (shut := shut) HLM.out hlt
                rw [← HD.out] at hnx hln
                rw [← HGG.out] at hnx
                have hHG0 := RI.hg hnx
                have hHG : xj.H ≤ give.length + 1 := hHG0
                clear hHG0
                have HNX := Lib.hid hnx
                have HLN := Lib.hid hln
                have HM0 := Lib.hid hm0
                have HSY := Lib.hid hsy
                clear hSA hKA hDA hm0 hmm hnx hln hsy HRI H9 HSH HALL HLM HMK HM1 HYD HG1
                refine HSY.out.mono ?_
                rintro e w9 ⟨rfl, hx9, hf9⟩
                have htw9 := HTJ.out.ends (hf9.mono (fun i hi => .inl (one_in hi))) hx9
                have HTW9 := Lib.hid htw9
                clear hx9 hf9 htw9 c7 HSY HTJ
                obtain ⟨b8, hb8⟩ : ∃ b8, b8 = w9.heap.size := ⟨_, rfl⟩
                have hb8f : ¬ b8 ∈ fp8 := fun hm => by have := HTW9.out.live.inn.fp_lt hm; omega
                have hb8a : wa.heap.size ≤ b8 := by have := HTW9.out.lx; have := HTW9.out.xin.blk.lt; omega
                have HB8 := Lib.hid hb8
                have HBF := Lib.hid hb8f
                have HBA := Lib.hid hb8a
                clear hb8f hb8a
                go_upto_region 32 with fail
                rw [← hb8]
                refine wp_world (fun wy => Two a0 a1 give take wa wy fp8 g gx gt d.drain xj.say ∧ SayAt wy b8 SA KA 16 DA) ⟨HTW9.out.frm0 ((Frm.refl _ _).alloc _), Blk.new_at hb8.symm _ _⟩ ?_
                rintro wy ⟨hty, hby⟩
                have HTY := Lib.hid hty
                have HBY := Lib.hid hby
                clear hty hby hb8 HTW9 HB8
                have c7 : wy.cell? ⟨gx, 7, none⟩ = some (.int .i64 (xj.H : Int)) := HTY.out.xin.blk.cell 7
                obtain ⟨FL, hFL⟩ : ∃ FL : Int, FL = if xj.H = give.length then 17 else 16 := ⟨_, rfl⟩
                have HFL := Lib.hid hFL
                clear hFL
                go_upto_if 169 with fail
                go_cut [] (fun wz => Two a0 a1 give take wa wz fp8 g gx gt d.drain xj.say ∧ SayAt wz b8 SA KA FL DA)
                case first =>
                  clear c7
                  by_cases hH : xj.H = give.length
                  · have q1 : ((xj.H : Int) == (give.length : Int)) = true := by simp; omega
                    have hfl : FL = 17 := by rw [HFL.out, if_pos hH]
                    have s4 : wy.cell? ⟨b8, 4, none⟩ = some (.int .i64 16) := Blk.cell HBY.out 4
                    have f4 : wy.frozen? ⟨b8, 4, none⟩ = false := Blk.frozen HBY.out 4
                    have HF2 := Lib.hid hfl
                    clear hH hfl
                    go_wp2_with fail
                    go_meet
                    rw [HF2.out]
                    exact sayw4 HTY.out HBY.out HBF.out HBA.out
                  · have q1 : ((xj.H : Int) == (give.length : Int)) = false := by simp; omega
                    have hfl : FL = 16 := by rw [HFL.out, if_neg hH]
                    have HF2 := Lib.hid hfl
                    clear hH hfl
                    go_wp2_with fail
                    go_meet
                    rw [HF2.out]
                    exact ⟨HTY.out, HBY.out⟩
                case rest =>
                  obtain ⟨hty, hby⟩ := hcut
                  have HTZ := Lib.hid hty
                  have HBZ := Lib.hid hby
                  clear hty hby HTY HBY c7
                  obtain ⟨hI, hhI⟩ : ∃ hI : Int, hI = (xj.H : Int) := ⟨_, rfl⟩
                  have c7 : wc.cell? ⟨gx, 7, none⟩ = some (.int .i64 hI) := by rw [hhI]; exact HTZ.out.xin.blk.cell 7
                  have HHI := Lib.hid hhI
                  clear hhI
                  obtain ⟨S2, hS2⟩ : ∃ S2 : Int, S2 = (a1 + 1 + (xj.H : Int)) % 4294967296 := ⟨_, rfl⟩
                  have HS2 := Lib.hid hS2
                  clear hS2
                  obtain ⟨bq, hbq⟩ : ∃ bq : Bool, decide ((give.length : Int) < hI) = bq := ⟨_, rfl⟩
                  have HBQ := Lib.hid hbq
                  go_upto_if 180 with fail
                  clear hbq
                  go_cut [] (fun wz => Two a0 a1 give take wa wz fp8 g gx gt d.drain xj.say ∧ SayAt wz b8 S2 KA FL DA)
                  case first =>
                    clear c7
                    cases bq
                    · have hs2 : SA = S2 := by
                        have h1 := of_decide_eq_false HBQ.out
                        have h2 := HHI.out
                        rw [HSA.out, HS2.out, show min xj.H give.length = xj.H from by omega]
                      have HS3 := Lib.hid hs2
                      clear hs2
                      go_wp2_with fail
                      go_meet
                      exact ⟨HTZ.out, HS3.out ▸ HBZ.out⟩
                    · have hs2 : (SA + 1) % 4294967296 = S2 := by
                        have h1 := of_decide_eq_true HBQ.out
                        have h2 := HHI.out
                        rw [HSA.out, HS2.out, show min xj.H give.length = give.length from by omega, show xj.H = give.length + 1 from by omega]
                        omega
                      have s2 : wc.cell? ⟨b8, 2, none⟩ = some (.int .u32 SA) := Blk.cell HBZ.out 2
                      have f2 : wc.frozen? ⟨b8, 2, none⟩ = false := Blk.frozen HBZ.out 2
                      have HS3 := Lib.hid hs2
                      clear hs2
                      go_wp2_with fail
                      go_meet
                      rw [HS3.out]
                      exact sayw2 HTZ.out HBZ.out HBF.out HBA.out
                  case rest =>
                    obtain ⟨hty, hby⟩ := hcut
                    have HTV := Lib.hid hty
                    have HBV := Lib.hid hby
                    clear hty hby HTZ HBZ c7
                    cases m0
                    · have q1 : (bits .and .u8 mk 1 == 0) = false := HM0.out.symm
                      go_wp2_with fail
                      go_roundg (800 - (i + 1))
                      case measure => exact meas_lt hgk hlt
                      case rel => exact ⟨i + 1, fp8, d.drain, xj.say, G, hlt, rfl, rfl, by go_num, HTV.out, HNX.out, HLN.out⟩
                    · have q1 : (bits .and .u8 mk 1 == 0) = true := HM0.out.symm
                      have s0 := Blk.cell HBV.out 0
                      have s1 := Blk.cell HBV.out 1
                      have s2 := Blk.cell HBV.out 2
                      have s3 := Blk.cell HBV.out 3
                      have s4 := Blk.cell HBV.out 4
                      have s5 := Blk.cell HBV.out 5
                      have s6 := Blk.cell HBV.out 6
                      have s7 := Blk.cell HBV.out 7
                      simp only [List.getElem?_toArray, List.getElem?_cons_succ, List.getElem?_cons_zero] at s0 s1 s2 s3 s4 s5 s6 s7
                      have hci := cin_in _ (sayS a0 a1 give xj.U xj.F xj.H) (Nat.zero_le _) (sayS_ok _ _ _) HTV.out.live.inn
                      unfold sayS at hci
                      simp only [] at hci
                      rw [← HS2.out, ← HKA.out, ← HFL.out, ← HDA.out] at hci
                      have HCI := Lib.hid hci
                      clear hci
                      go_wp2_with fail
                      refine HCI.out.mono ?_
                      rintro e wv ⟨rfl, hto⟩
                      obtain ⟨fpv, htv, -⟩ := HTV.out.next hto
                      rw [HS2.out, HKA.out, HFL.out, HDA.out] at htv
                      have HTU := Lib.hid htv
                      clear htv hto HCI s0 s1 s2 s3 s4 s5 s6 s7
                      go_wp2_with fail
                      go_roundg (800 - (i + 1))
                      case measure => exact meas_lt hgk hlt
                      case rel => exact ⟨i + 1, fpv, _, xj.say, G, hlt, rfl, rfl, by go_num, HTU.out, HNX.out, HLN.out⟩

set_option maxRecDepth 100000 in
theorem lifted (os : Os) (started : os.Started) (H : Type) (enc : TypeId × Value → H) :
    ReturnsInHanded {} Try.checked os 3 .any (Rows.connDoneSpec.pre6 enc Try.prog Try.f3 Rows.connDoneRow.domain false) (Rows.connDoneSpec.post enc Try.prog Try.f3 false true false false) := by
  refine returnsInHanded_of_change (C := Try.checked) own started (by kernel_rfl) Try.func3
    (ChangeSpec.witness6 (enc := enc) (C := Try.checked) false ⟨#[], #[.int .u32 0, .int .u32 0, .string ByteArray.empty, .string ByteArray.empty, .slice none 0 0, .int .u8 0], []⟩ 8 (by kernel_rfl) (by kernel_rfl) (by kernel_rfl) (by kernel_rfl)) ?_
  intro W base args ds gs before hval0 hW hcnd _
  have hval : ∀ (j : Nat) t v, Try.f3.params[j]? = some t → args[j]? = some v → Value.okWide Try.prog W .any base t v := hval0
  have hW' := hW
  obtain ⟨p, q, hA0, hV, rfl, hfz, hnd⟩ := hW
  have hA : DataW.TrodAll enc Try.prog W 0 (fun _ => true) true Try.f3.params.toList args.toList ds p := hA0
  rw [Try.params3] at hA hval
  obtain ⟨v0, vs0, d0, ds0, p0, q0, hargs, rfl, rfl, h0, r0⟩ := trodAll_cons hA
  obtain ⟨v1, vs1, d1, ds1, p1, q1, rfl, rfl, rfl, h1, r1⟩ := trodAll_cons r0
  obtain ⟨v2, vs2, d2, ds2, p2, q2, rfl, rfl, rfl, h2, r2⟩ := trodAll_cons r1
  obtain ⟨v3, vs3, d3, ds3, p3, q3, rfl, rfl, rfl, h3, r3⟩ := trodAll_cons r2
  obtain ⟨v4, vs4, d4, ds4, p4, q4, rfl, rfl, rfl, h4, r4⟩ := trodAll_cons r3
  obtain ⟨v5, vs5, d5, ds5, p5, q5, rfl, rfl, rfl, h5, r5⟩ := trodAll_cons r4
  obtain ⟨rfl, rfl, rfl⟩ := trodAll_nil r5
  obtain rfl : args = #[v0, v1, v2, v3, v4, v5] := by cases args; simp_all
  obtain ⟨rfl, rfl⟩ := trodVars_none hV
  obtain ⟨a0, rfl, rfl, rfl, w0⟩ := open_int Try.underlying22 (hval 0 22 v0 rfl rfl) h0
  obtain ⟨a1, rfl, rfl, rfl, w1⟩ := open_int Try.underlying22 (hval 1 22 v1 rfl rfl) h1
  obtain ⟨a2, rfl, rfl, rfl, w2⟩ := open_string Try.underlying9 (hval 2 9 v2 rfl rfl) h2
  obtain ⟨a3, rfl, rfl, rfl, w3⟩ := open_string Try.underlying9 (hval 3 9 v3 rfl rfl) h3
  obtain ⟨a4, len4, cap4, rfl⟩ := okWide_slice Try.underlying23 (hval 4 23 v4 rfl rfl)
  have k4 := h4
  have lt4 : ∀ x ∈ p4, x.block < W.heap.size := by obtain ⟨m, hm⟩ := k4; exact DataW.trod_lt m _ _ _ hm
  obtain ⟨z4, w4⟩ := ints_open Try.underlying23 Try.underlying5 (by kernel_rfl) h4
  obtain ⟨a5, rfl, rfl, rfl, w5⟩ := open_int Try.underlying5 (hval 5 5 v5 rfl rfl) h5
  clear hA0 hval0
  refine (walk a0 a1 a2 a3 a4 len4 cap4 a5 W w0 w1 w2 w3 z4 w4 w5).mono fun e W' ⟨he, bel⟩ => ?_
  subst he
  exact ⟨_, rfl, _, _, _, [], _, [], hW', trodAll_mk1 (shut_bool Try.underlying4 _), (trodAll_cons_mk (shut_int Try.underlying22 w0) (trodAll_cons_mk (shut_int Try.underlying22 w1) (trodAll_cons_mk (shut_string Try.underlying9 w2) (trodAll_cons_mk (shut_string Try.underlying9 w3) (trodAll_cons_mk (Below.trod laidOut (by kernel_rfl) (of_decide_eq_true (by kernel_rfl)) k4 bel lt4) (trodAll_cons_mk (shut_int Try.underlying5 w5) trodAll_mk0)))))), rfl, bel.frame _, fun h => by cases h⟩

theorem over : Rows.connDoneRow.holds Try.pinned (OpenSpec.ofChange Rows.connDoneSpec) :=
  OpenClaim.holds_of_wide 3 Try.f3 rfl rfl rfl rfl rfl rfl rfl ⟨rfl, rfl, rfl, rfl, rfl⟩ rfl rfl rfl rfl rfl (by kernel_rfl) Try.func3 (by kernel_rfl)
    (of_decide_eq_true (by kernel_rfl)) (by unfold Func.isWrapper; first | (rw [if_pos (by decide +kernel)]; kernel_rfl) | (rw [if_neg (by decide +kernel)]; exact ⟨rfl, rfl⟩))
    (fun os started H enc _ => lifted os started H enc)

theorem proved : Rows.ConnDoneSaid := over
#print axioms proved
end Go.Proofs.Ytpmlojgngcllfaa.connDone
