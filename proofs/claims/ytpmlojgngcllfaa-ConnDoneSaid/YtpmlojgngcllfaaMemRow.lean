/- copy and clear within a row that is known whole, as one step of a region that draws its order. Plain laws, no program. -/
import Derived.Test.YtpmlojgngcllfaaMem
import Derived.Laws.CopyRow
import Derived.Laws.CopyOwn
import Derived.Lib.SliceRun
namespace Go.Proofs.Ytpmlojgngcllfaa
open Go.RowKit Go

theorem wrap_small {a : Int} (h0 : 0 ≤ a) (h1 : a ≤ 9223372036854775807) : IntKind.i64.wrap a = a := by
  simp [IntKind.wrap, IntKind.signed, IntKind.bits] <;> (try split) <;> omega

theorem Frm.setRow {ex : List Nat} {a w : World} (h : Frm ex a w) {g : Nat} (hg : g ∈ ex ∨ a.heap.size ≤ g) (cs : Array Value) : Frm ex a (w.setRow g cs) :=
  ⟨h.os, h.tape, h.output, by rw [setRow_size]; exact h.size, fun i hi hx => (setRow_other w g i cs (by
    rintro rfl
    rcases hg with hg | hg
    · exact hx hg
    · omega)).trans (h.block i hi hx)⟩
theorem Blk.setRow {w : World} {g : Nat} {t : TypeId} {cur : Array Value} (h : Blk w g t cur) (cs : Array Value) : Blk (w.setRow g cs) g t cs := setRow_heap w g cur cs t (0, 0) h

theorem Frm.undrew {ex : List Nat} {w w' : World} (h : Frm ex w.drew w') : Frm ex w w' := (Frm.refl ex w).drew.trans h

/-- copy(b, ..) where b is the whole of block g. -/
theorem step_copy_row2 {P : Program} {ops : Array Oper} {o : Oper} {a : Act} {w : World} {K : Act → World → Prop} {Q : Exit → Act → World → Prop} {E : Prop} (hgd : o.guard = none) (d s : Operand) (dT sT : TypeId)
    (ho : o.op = .call { callee := .builtin .copy, args := #[d, s], argTypes := #[dT, sT] }) (elem : TypeId) (hu : P.underlying dT = some (.slice elem)) (hsz : (P.info? elem).map (·.size) = some 1)
    (g n dCap : Nat) (ad : Addr) (sp : Option Addr) (m sCap : Nat) (hd : a.eval d = .slice (some ⟨g, 0, none⟩) n dCap) (hs : a.eval s = .slice sp m sCap) (hp : 0 < m → sp = some ad)
    (t : TypeId) (cur : Array Value) (hg : Blk w g t cur) (hc : cur.size = n) (cs : List Value) (hl : cs.length = m) (hm : m ≤ n)
    (hsrc : ∀ j v, cs[j]? = some v → w.cell? (ad.add j) = some v) (h1 : ∀ v ∈ cs, v.oneCell' = true)
    (h : ∀ w', Blk w' g t (cs ++ cur.toList.drop m).toArray → Frm [g] w w' → K (a.put o.dst (goInt m)) w') :
    if Region.wanted o (yielded ops a.tmps) = true then Oper.wp P o a w K Q else E := by
  have hw : Region.wanted o (yielded ops a.tmps) = true := by simp [Region.wanted, hgd]
  rw [if_pos hw]
  rcases Nat.eq_zero_or_pos m with h0 | hpos
  · have hrun := run_copy_none (P := P) w dT sT o.type elem (some ⟨g, 0, none⟩) sp n dCap m sCap hu hsz (by rw [h0]; exact Nat.zero_min _)
    obtain rfl : cs = [] := List.eq_nil_of_length_eq_zero (by omega)
    subst h0
    unfold Oper.wp
    simp [execOp, ho, resolve, invoke, builtin, hd, hs, hrun, Result.andThen]
    exact h w (hg.as_ (by simp)) (Frm.refl _ _)
  · obtain rfl := hp hpos
    have hrun := run_copy_row (P := P) w dT sT o.type elem g 0 n dCap ad m sCap cur t cs hu hsz hg (by rw [hl]; exact (Nat.min_eq_left hm).symm) hsrc (by omega) h1
    rw [hl] at hrun
    unfold Oper.wp
    simp [execOp, ho, resolve, invoke, builtin, hd, hs, hrun, Result.andThen]
    exact h _ (hg.setRow _) ((Frm.refl _ _).setRow (.inl (by simp)) _)

/-- clear(b[o:]) where b is the whole of block g. -/
theorem step_clear_row2 {P : Program} {ops : Array Oper} {o : Oper} {a : Act} {w : World} {K : Act → World → Prop} {Q : Exit → Act → World → Prop} {E : Prop} (hgd : o.guard = none) (s : Operand) (sT : TypeId)
    (ho : o.op = .call { callee := .builtin .clear, args := #[s], argTypes := #[sT] }) (e : TypeId) (ht : P.underlying sT = some (.slice e)) (z : Value) (hv : ∀ w, (zeroValue e).run P w = .ok z w) (hz : z.cells = #[z]) (h1 : z.oneCell' = true)
    (ap : Option Addr) (g off m sCap : Nat) (hs : a.eval s = .slice ap m sCap) (hp : 0 < m → ap = some ⟨g, off, none⟩) (hsome : ap.isSome = true)
    (t : TypeId) (cur : Array Value) (hg : Blk w g t cur) (hm : off + m = cur.size)
    (h : ∀ w', Blk w' g t (cur.toList.take off ++ List.replicate m z).toArray → Frm [g] w w' → K (a.put o.dst (.tuple #[])) w') :
    if Region.wanted o (yielded ops a.tmps) = true then Oper.wp P o a w K Q else E := by
  have hw : Region.wanted o (yielded ops a.tmps) = true := by simp [Region.wanted, hgd]
  rw [if_pos hw]
  rcases Nat.eq_zero_or_pos m with rfl | hpos
  · obtain ⟨ad, rfl⟩ := Option.isSome_iff_exists.1 hsome
    have hrun : (Builtin.clear_ #[sT] o.type #[.slice (some ad) 0 sCap]).run P w = .ok (.tuple #[]) w := by
      simp [Builtin.clear_, run_underlying ht]
    unfold Oper.wp
    simp [execOp, ho, resolve, invoke, builtin, hs, hrun, Result.andThen]
    refine h w (hg.as_ ?_) (Frm.refl _ _)
    have : off = cur.toList.length := by simpa using hm
    rw [this, List.take_length]
    simp
  · obtain rfl := hp hpos
    have hzc : (Builtin.zeroCells z.cells m).toList = List.replicate m z := by
      rw [hz]
      simp [Builtin.zeroCells]
      apply List.ext_getElem
      · simp
      · intro i h1 h2
        simp [Nat.mod_one]
    have hst := run_storeCells_at P g off t (List.replicate m z) 0 cur w hg (by simp; omega) (by intro v hv'; rw [List.eq_of_mem_replicate hv']; exact h1)
    have hrun : (Builtin.clear_ #[sT] o.type #[.slice (some ⟨g, off, none⟩) m sCap]).run P w = .ok (.tuple #[]) (w.setRow g (cur.toList.take off ++ List.replicate m z).toArray) := by
      obtain ⟨k, rfl⟩ : ∃ k, m = k + 1 := ⟨m - 1, by omega⟩
      have hd : cur.toList.drop (off + (k + 1)) = [] := List.drop_eq_nil_of_le (by simp; omega)
      simp only [Nat.add_zero, List.length_replicate, hd, List.append_nil] at hst
      simp [Builtin.clear_, run_underlying ht, hv, hzc, hst]
    unfold Oper.wp
    simp [execOp, ho, resolve, invoke, builtin, hs, hrun, Result.andThen]
    exact h _ (hg.setRow _) ((Frm.refl _ _).setRow (.inl (by simp)) _)

end Go.Proofs.Ytpmlojgngcllfaa
