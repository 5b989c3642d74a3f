/-
  No cell of these rows narrows 'for every input' (looked for: loops, veiled, ifaces, maps, wideKeys, modest, calm, conditions, laid).
  DERIVED. THE GIVEN ROWS OF THIS SEAT. 6 by the template 'for every input the law returns true; each argument reads behind the call as it read before'; 0 by the template 'total and deterministic' (their statements: YtbepoobpfneniaaTotals.lean).
  GIVEN WITH THE SEED: the statements are not yours to turn. If you find one false, say at which input.
  Laid BY PROGRAM, IN A SANDBOX (cutbox-rows.mjs): the forced cells as the released guide's own fill.sh prints them over the translation 84c6a34a8664856a… (all of the seat's roots in one cut). By AI agents, Wed Nov 11 2026. No macro, syntax, notation, axiom, sorry.
-/
import Derived.Test.YtbepoobpfneniaaChecked
import GoSem.Claim
import GoSem.ClaimJoined
import GoSem.ClaimMapViews
import Derived.JoinedTies
import Derived.KernelRfl
namespace Go.Proofs.Ytbepoobpfneniaa
/- THE CELL 'sum', in the pinned program and in every row, IS THE sha256 OF THE DUMP (.gsa) THAT YtbepoobpfneniaaProg.lean LOADS. Nothing in Lean hashes anything: it is a label: what it is worth is what the hold of that sum in a sandbox is worth. -/
noncomputable def Try.pinned : Pinned := { name := "ytbepoobpfneniaa", sum := "84c6a34a8664856a377f179bab2c635c6f23225a7990119b7aa3679d207e581c", checked := Try.checked }
namespace Rows
def none {H : Type} : Left H := { results := [], args := [] }

/-- 'blockyardlaw11.SeqnKnown': WHATEVER THE INPUT: true; the input reads as it did. -/
def seqnKnownSpec : ChangeSpec := { name := "seqnKnown", fn := fun _ => fun
  | [] => { results := [.lit (.bool true)], args := [] }
  | _ => none }
def seqnKnownRow : OpenClaim := { program := "ytbepoobpfneniaa", sum := "84c6a34a8664856a377f179bab2c635c6f23225a7990119b7aa3679d207e581c", func := "blockyard/blockyardlaw11.SeqnKnown", spec := "seqnKnown", apart := false }
def SeqnKnownSaid : Prop := seqnKnownRow.holds Try.pinned (OpenSpec.ofChange seqnKnownSpec)

/-- ITS FALSE NEIGHBOUR: 'it returns false'. Refute it at one input. -/
def seqnKnownWrong : ChangeSpec := { name := "seqnKnown", fn := fun _ => fun
  | [] => { results := [.lit (.bool false)], args := [] }
  | _ => none }
def SeqnKnownWrongFalsely : Prop := seqnKnownRow.holds Try.pinned (OpenSpec.ofChange seqnKnownWrong)

/-- 'blockyardlaw11.SeqnTells': WHATEVER THE INPUT: true; the input reads as it did. -/
def seqnTellsSpec : ChangeSpec := { name := "seqnTells", fn := fun _ => fun
  | [d1, d2, d3, d4] => { results := [.lit (.bool true)], args := [d1, d2, d3, d4] }
  | _ => none }
def seqnTellsRow : OpenClaim := { program := "ytbepoobpfneniaa", sum := "84c6a34a8664856a377f179bab2c635c6f23225a7990119b7aa3679d207e581c", func := "blockyard/blockyardlaw11.SeqnTells", spec := "seqnTells", apart := false }
def SeqnTellsSaid : Prop := seqnTellsRow.holds Try.pinned (OpenSpec.ofChange seqnTellsSpec)

/-- ITS FALSE NEIGHBOUR: 'it returns false'. Refute it at one input. -/
def seqnTellsWrong : ChangeSpec := { name := "seqnTells", fn := fun _ => fun
  | [d1, d2, d3, d4] => { results := [.lit (.bool false)], args := [d1, d2, d3, d4] }
  | _ => none }
def SeqnTellsWrongFalsely : Prop := seqnTellsRow.holds Try.pinned (OpenSpec.ofChange seqnTellsWrong)

/-- 'blockyardlaw11.SeqnMay': WHATEVER THE INPUT: true; the input reads as it did. -/
def seqnMaySpec : ChangeSpec := { name := "seqnMay", fn := fun _ => fun
  | [d1, d2, d3, d4] => { results := [.lit (.bool true)], args := [d1, d2, d3, d4] }
  | _ => none }
def seqnMayRow : OpenClaim := { program := "ytbepoobpfneniaa", sum := "84c6a34a8664856a377f179bab2c635c6f23225a7990119b7aa3679d207e581c", func := "blockyard/blockyardlaw11.SeqnMay", spec := "seqnMay", apart := false }
def SeqnMaySaid : Prop := seqnMayRow.holds Try.pinned (OpenSpec.ofChange seqnMaySpec)

/-- ITS FALSE NEIGHBOUR: 'it returns false'. Refute it at one input. -/
def seqnMayWrong : ChangeSpec := { name := "seqnMay", fn := fun _ => fun
  | [d1, d2, d3, d4] => { results := [.lit (.bool false)], args := [d1, d2, d3, d4] }
  | _ => none }
def SeqnMayWrongFalsely : Prop := seqnMayRow.holds Try.pinned (OpenSpec.ofChange seqnMayWrong)

/-- 'blockyardlaw11.SeqnMoves': WHATEVER THE INPUT: true; the input reads as it did. -/
def seqnMovesSpec : ChangeSpec := { name := "seqnMoves", fn := fun _ => fun
  | [d1, d2, d3, d4, d5] => { results := [.lit (.bool true)], args := [d1, d2, d3, d4, d5] }
  | _ => none }
def seqnMovesRow : OpenClaim := { program := "ytbepoobpfneniaa", sum := "84c6a34a8664856a377f179bab2c635c6f23225a7990119b7aa3679d207e581c", func := "blockyard/blockyardlaw11.SeqnMoves", spec := "seqnMoves", apart := false }
def SeqnMovesSaid : Prop := seqnMovesRow.holds Try.pinned (OpenSpec.ofChange seqnMovesSpec)

/-- ITS FALSE NEIGHBOUR: 'it returns false'. Refute it at one input. -/
def seqnMovesWrong : ChangeSpec := { name := "seqnMoves", fn := fun _ => fun
  | [d1, d2, d3, d4, d5] => { results := [.lit (.bool false)], args := [d1, d2, d3, d4, d5] }
  | _ => none }
def SeqnMovesWrongFalsely : Prop := seqnMovesRow.holds Try.pinned (OpenSpec.ofChange seqnMovesWrong)

/-- 'blockyardlaw11.SeqnOnce': WHATEVER THE INPUT: true; the input reads as it did. -/
def seqnOnceSpec : ChangeSpec := { name := "seqnOnce", fn := fun _ => fun
  | [d1, d2] => { results := [.lit (.bool true)], args := [d1, d2] }
  | _ => none }
def seqnOnceRow : OpenClaim := { program := "ytbepoobpfneniaa", sum := "84c6a34a8664856a377f179bab2c635c6f23225a7990119b7aa3679d207e581c", func := "blockyard/blockyardlaw11.SeqnOnce", spec := "seqnOnce", apart := false }
def SeqnOnceSaid : Prop := seqnOnceRow.holds Try.pinned (OpenSpec.ofChange seqnOnceSpec)

/-- ITS FALSE NEIGHBOUR: 'it returns false'. Refute it at one input. -/
def seqnOnceWrong : ChangeSpec := { name := "seqnOnce", fn := fun _ => fun
  | [d1, d2] => { results := [.lit (.bool false)], args := [d1, d2] }
  | _ => none }
def SeqnOnceWrongFalsely : Prop := seqnOnceRow.holds Try.pinned (OpenSpec.ofChange seqnOnceWrong)

/-- 'blockyardlaw11.SeqnWindows': WHATEVER THE INPUT: true; the input reads as it did. -/
def seqnWindowsSpec : ChangeSpec := { name := "seqnWindows", fn := fun _ => fun
  | [d1, d2, d3, d4] => { results := [.lit (.bool true)], args := [d1, d2, d3, d4] }
  | _ => none }
def seqnWindowsRow : OpenClaim := { program := "ytbepoobpfneniaa", sum := "84c6a34a8664856a377f179bab2c635c6f23225a7990119b7aa3679d207e581c", func := "blockyard/blockyardlaw11.SeqnWindows", spec := "seqnWindows", apart := false }
def SeqnWindowsSaid : Prop := seqnWindowsRow.holds Try.pinned (OpenSpec.ofChange seqnWindowsSpec)

/-- ITS FALSE NEIGHBOUR: 'it returns false'. Refute it at one input. -/
def seqnWindowsWrong : ChangeSpec := { name := "seqnWindows", fn := fun _ => fun
  | [d1, d2, d3, d4] => { results := [.lit (.bool false)], args := [d1, d2, d3, d4] }
  | _ => none }
def SeqnWindowsWrongFalsely : Prop := seqnWindowsRow.holds Try.pinned (OpenSpec.ofChange seqnWindowsWrong)

/- THE SECOND FORM. 'bulk': how many values and letters a reading holds, each counted each time it is reached (what is shared counts as often as it is met; a slice's spare places count too). A statement '..UptoSaid' is the law's where the arguments, and the package variables that the reading takes, are together of bulk at most 1048576: NARROWER than '..Said'. Prove '..Said' where nothing that the law and all that it calls make is longer than what came in: it says more and counts as full. Else prove '..UptoSaid'. A law counts once. -/
mutual
def uptoBulk {H : Type} : DataW H → Nat
  | .lit (.string bytes) => bytes.length + 1
  | .lit _ => 1
  | .nil => 1
  | .ptr d => uptoBulk d + 1
  | .slice elems spare => uptoBulkAll elems + uptoBulkAll spare + 1
  | .agg parts => uptoBulkAll parts + 1
  | .iface _ d => uptoBulk d + 1
  | .map entries => uptoBulkEntries entries + 1
  | .held _ => 1
def uptoBulkAll {H : Type} : List (DataW H) → Nat
  | [] => 0
  | d :: r => uptoBulk d + uptoBulkAll r
def uptoBulkEntries {H : Type} : List (Lit × DataW H) → Nat
  | [] => 0
  | x :: r => uptoBulkEntry x + uptoBulkEntries r
def uptoBulkEntry {H : Type} : Lit × DataW H → Nat
  | (.string bytes, d) => bytes.length + uptoBulk d + 1
  | (_, d) => uptoBulk d + 1
 end
def uptoSmall : (H : Type) → List (DataW H) → Bool := fun _ ds => decide (uptoBulkAll ds ≤ 1048576)
def OpenSpec.upto (s : _root_.Go.ChangeSpec) : _root_.Go.OpenSpec := { _root_.Go.OpenSpec.ofChange s with cond := some uptoSmall }

/-- 'blockyardlaw11.SeqnKnown', WHERE WHAT IT READS IS OF BULK AT MOST 1048576: true; the input reads as it did. -/
def seqnKnownUptoRow : OpenClaim := { program := "ytbepoobpfneniaa", sum := "84c6a34a8664856a377f179bab2c635c6f23225a7990119b7aa3679d207e581c", func := "blockyard/blockyardlaw11.SeqnKnown", spec := "seqnKnown", apart := false, narrowed := true }
def SeqnKnownUptoSaid : Prop := seqnKnownUptoRow.holds Try.pinned (OpenSpec.upto seqnKnownSpec)

/-- 'blockyardlaw11.SeqnTells', WHERE WHAT IT READS IS OF BULK AT MOST 1048576: true; the input reads as it did. -/
def seqnTellsUptoRow : OpenClaim := { program := "ytbepoobpfneniaa", sum := "84c6a34a8664856a377f179bab2c635c6f23225a7990119b7aa3679d207e581c", func := "blockyard/blockyardlaw11.SeqnTells", spec := "seqnTells", apart := false, narrowed := true }
def SeqnTellsUptoSaid : Prop := seqnTellsUptoRow.holds Try.pinned (OpenSpec.upto seqnTellsSpec)

/-- 'blockyardlaw11.SeqnMay', WHERE WHAT IT READS IS OF BULK AT MOST 1048576: true; the input reads as it did. -/
def seqnMayUptoRow : OpenClaim := { program := "ytbepoobpfneniaa", sum := "84c6a34a8664856a377f179bab2c635c6f23225a7990119b7aa3679d207e581c", func := "blockyard/blockyardlaw11.SeqnMay", spec := "seqnMay", apart := false, narrowed := true }
def SeqnMayUptoSaid : Prop := seqnMayUptoRow.holds Try.pinned (OpenSpec.upto seqnMaySpec)

/-- 'blockyardlaw11.SeqnMoves', WHERE WHAT IT READS IS OF BULK AT MOST 1048576: true; the input reads as it did. -/
def seqnMovesUptoRow : OpenClaim := { program := "ytbepoobpfneniaa", sum := "84c6a34a8664856a377f179bab2c635c6f23225a7990119b7aa3679d207e581c", func := "blockyard/blockyardlaw11.SeqnMoves", spec := "seqnMoves", apart := false, narrowed := true }
def SeqnMovesUptoSaid : Prop := seqnMovesUptoRow.holds Try.pinned (OpenSpec.upto seqnMovesSpec)

/-- 'blockyardlaw11.SeqnOnce', WHERE WHAT IT READS IS OF BULK AT MOST 1048576: true; the input reads as it did. -/
def seqnOnceUptoRow : OpenClaim := { program := "ytbepoobpfneniaa", sum := "84c6a34a8664856a377f179bab2c635c6f23225a7990119b7aa3679d207e581c", func := "blockyard/blockyardlaw11.SeqnOnce", spec := "seqnOnce", apart := false, narrowed := true }
def SeqnOnceUptoSaid : Prop := seqnOnceUptoRow.holds Try.pinned (OpenSpec.upto seqnOnceSpec)

/-- 'blockyardlaw11.SeqnWindows', WHERE WHAT IT READS IS OF BULK AT MOST 1048576: true; the input reads as it did. -/
def seqnWindowsUptoRow : OpenClaim := { program := "ytbepoobpfneniaa", sum := "84c6a34a8664856a377f179bab2c635c6f23225a7990119b7aa3679d207e581c", func := "blockyard/blockyardlaw11.SeqnWindows", spec := "seqnWindows", apart := false, narrowed := true }
def SeqnWindowsUptoSaid : Prop := seqnWindowsUptoRow.holds Try.pinned (OpenSpec.upto seqnWindowsSpec)

end Rows
end Go.Proofs.Ytbepoobpfneniaa
