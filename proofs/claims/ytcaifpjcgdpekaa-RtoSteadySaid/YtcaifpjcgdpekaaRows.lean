/-
  No cell of these rows narrows 'for every input' (looked for: loops, veiled, ifaces, maps, wideKeys, modest, calm, conditions, laid).
  DERIVED. THE GIVEN ROWS OF THIS SEAT. 4 by the template 'for every input the law returns true; each argument reads behind the call as it read before'; 0 by the template 'total and deterministic' (their statements: YtcaifpjcgdpekaaTotals.lean).
  GIVEN WITH THE SEED: the statements are not yours to turn. If you find one false, say at which input.
  Laid BY PROGRAM, IN A SANDBOX (cutbox-rows.mjs): the forced cells as the released guide's own fill.sh prints them over the translation 9bb345e7e24ff362… (all of the seat's roots in one cut). By AI agents, Wed Nov 11 2026. No macro, syntax, notation, axiom, sorry.
-/
import Derived.Test.YtcaifpjcgdpekaaChecked
import GoSem.Claim
import GoSem.ClaimJoined
import GoSem.ClaimMapViews
import Derived.JoinedTies
import Derived.KernelRfl
namespace Go.Proofs.Ytcaifpjcgdpekaa
/- THE CELL 'sum', in the pinned program and in every row, IS THE sha256 OF THE DUMP (.gsa) THAT YtcaifpjcgdpekaaProg.lean LOADS. Nothing in Lean hashes anything: it is a label: what it is worth is what the hold of that sum in a sandbox is worth. -/
noncomputable def Try.pinned : Pinned := { name := "ytcaifpjcgdpekaa", sum := "9bb345e7e24ff362f561ed03150b70c54e26d524462745dda14e37ea47459e3e", checked := Try.checked }
namespace Rows
def none {H : Type} : Left H := { results := [], args := [] }

/-- 'blockyardlaw14.RtoKnown': WHATEVER THE INPUT: true; the input reads as it did. -/
def rtoKnownSpec : ChangeSpec := { name := "rtoKnown", fn := fun _ => fun
  | [] => { results := [.lit (.bool true)], args := [] }
  | _ => none }
def rtoKnownRow : OpenClaim := { program := "ytcaifpjcgdpekaa", sum := "9bb345e7e24ff362f561ed03150b70c54e26d524462745dda14e37ea47459e3e", func := "blockyard/blockyardlaw14.RtoKnown", spec := "rtoKnown", apart := false }
def RtoKnownSaid : Prop := rtoKnownRow.holds Try.pinned (OpenSpec.ofChange rtoKnownSpec)

/-- ITS FALSE NEIGHBOUR: 'it returns false'. Refute it at one input. -/
def rtoKnownWrong : ChangeSpec := { name := "rtoKnown", fn := fun _ => fun
  | [] => { results := [.lit (.bool false)], args := [] }
  | _ => none }
def RtoKnownWrongFalsely : Prop := rtoKnownRow.holds Try.pinned (OpenSpec.ofChange rtoKnownWrong)

/-- 'blockyardlaw14.RtoPlays': WHATEVER THE INPUT: true; the input reads as it did. -/
def rtoPlaysSpec : ChangeSpec := { name := "rtoPlays", fn := fun _ => fun
  | [d1, d2, d3, d4] => { results := [.lit (.bool true)], args := [d1, d2, d3, d4] }
  | _ => none }
def rtoPlaysRow : OpenClaim := { program := "ytcaifpjcgdpekaa", sum := "9bb345e7e24ff362f561ed03150b70c54e26d524462745dda14e37ea47459e3e", func := "blockyard/blockyardlaw14.RtoPlays", spec := "rtoPlays", apart := false }
def RtoPlaysSaid : Prop := rtoPlaysRow.holds Try.pinned (OpenSpec.ofChange rtoPlaysSpec)

/-- ITS FALSE NEIGHBOUR: 'it returns false'. Refute it at one input. -/
def rtoPlaysWrong : ChangeSpec := { name := "rtoPlays", fn := fun _ => fun
  | [d1, d2, d3, d4] => { results := [.lit (.bool false)], args := [d1, d2, d3, d4] }
  | _ => none }
def RtoPlaysWrongFalsely : Prop := rtoPlaysRow.holds Try.pinned (OpenSpec.ofChange rtoPlaysWrong)

/-- 'blockyardlaw14.RtoBounds': WHATEVER THE INPUT: true; the input reads as it did. -/
def rtoBoundsSpec : ChangeSpec := { name := "rtoBounds", fn := fun _ => fun
  | [d1, d2, d3, d4] => { results := [.lit (.bool true)], args := [d1, d2, d3, d4] }
  | _ => none }
def rtoBoundsRow : OpenClaim := { program := "ytcaifpjcgdpekaa", sum := "9bb345e7e24ff362f561ed03150b70c54e26d524462745dda14e37ea47459e3e", func := "blockyard/blockyardlaw14.RtoBounds", spec := "rtoBounds", apart := false }
def RtoBoundsSaid : Prop := rtoBoundsRow.holds Try.pinned (OpenSpec.ofChange rtoBoundsSpec)

/-- ITS FALSE NEIGHBOUR: 'it returns false'. Refute it at one input. -/
def rtoBoundsWrong : ChangeSpec := { name := "rtoBounds", fn := fun _ => fun
  | [d1, d2, d3, d4] => { results := [.lit (.bool false)], args := [d1, d2, d3, d4] }
  | _ => none }
def RtoBoundsWrongFalsely : Prop := rtoBoundsRow.holds Try.pinned (OpenSpec.ofChange rtoBoundsWrong)

/-- 'blockyardlaw14.RtoSteady': WHATEVER THE INPUT: true; the input reads as it did. -/
def rtoSteadySpec : ChangeSpec := { name := "rtoSteady", fn := fun _ => fun
  | [d1, d2] => { results := [.lit (.bool true)], args := [d1, d2] }
  | _ => none }
def rtoSteadyRow : OpenClaim := { program := "ytcaifpjcgdpekaa", sum := "9bb345e7e24ff362f561ed03150b70c54e26d524462745dda14e37ea47459e3e", func := "blockyard/blockyardlaw14.RtoSteady", spec := "rtoSteady", apart := false }
def RtoSteadySaid : Prop := rtoSteadyRow.holds Try.pinned (OpenSpec.ofChange rtoSteadySpec)

/-- ITS FALSE NEIGHBOUR: 'it returns false'. Refute it at one input. -/
def rtoSteadyWrong : ChangeSpec := { name := "rtoSteady", fn := fun _ => fun
  | [d1, d2] => { results := [.lit (.bool false)], args := [d1, d2] }
  | _ => none }
def RtoSteadyWrongFalsely : Prop := rtoSteadyRow.holds Try.pinned (OpenSpec.ofChange rtoSteadyWrong)

/- THE SECOND FORM. 'bulk': how many values and letters a reading holds, each counted each time it is reached (what is shared counts as often as it is met; a slice's spare places count too). A statement '..UptoSaid' is the law's where the arguments, and the package variables that the reading takes, are together of bulk at most 1048576: NARROWER than '..Said'. Prove '..Said' where nothing that the law and all that it calls make is longer than what came in: it says more and counts as full. Else prove '..UptoSaid'. A law counts once. -/
mutual
def uptoBulk {H : Type} : DataW H → Nat
  | .lit (.string bytes) => bytes.length + 1
  | .lit _ => 1
  | .nil => 1
  | .ptr d => uptoBulk d + 1
  | .slice elems spare => uptoBulkAll elems + uptoBulkAll spare + 1
  | .agg parts => uptoBulkAll parts + 1
  | .iface _ d => uptoBulk d + 1
  | .map entries => uptoBulkEntries entries + 1
  | .held _ => 1
def uptoBulkAll {H : Type} : List (DataW H) → Nat
  | [] => 0
  | d :: r => uptoBulk d + uptoBulkAll r
def uptoBulkEntries {H : Type} : List (Lit × DataW H) → Nat
  | [] => 0
  | x :: r => uptoBulkEntry x + uptoBulkEntries r
def uptoBulkEntry {H : Type} : Lit × DataW H → Nat
  | (.string bytes, d) => bytes.length + uptoBulk d + 1
  | (_, d) => uptoBulk d + 1
 end
def uptoSmall : (H : Type) → List (DataW H) → Bool := fun _ ds => decide (uptoBulkAll ds ≤ 1048576)
def OpenSpec.upto (s : _root_.Go.ChangeSpec) : _root_.Go.OpenSpec := { _root_.Go.OpenSpec.ofChange s with cond := some uptoSmall }

/-- 'blockyardlaw14.RtoKnown', WHERE WHAT IT READS IS OF BULK AT MOST 1048576: true; the input reads as it did. -/
def rtoKnownUptoRow : OpenClaim := { program := "ytcaifpjcgdpekaa", sum := "9bb345e7e24ff362f561ed03150b70c54e26d524462745dda14e37ea47459e3e", func := "blockyard/blockyardlaw14.RtoKnown", spec := "rtoKnown", apart := false, narrowed := true }
def RtoKnownUptoSaid : Prop := rtoKnownUptoRow.holds Try.pinned (OpenSpec.upto rtoKnownSpec)

/-- 'blockyardlaw14.RtoPlays', WHERE WHAT IT READS IS OF BULK AT MOST 1048576: true; the input reads as it did. -/
def rtoPlaysUptoRow : OpenClaim := { program := "ytcaifpjcgdpekaa", sum := "9bb345e7e24ff362f561ed03150b70c54e26d524462745dda14e37ea47459e3e", func := "blockyard/blockyardlaw14.RtoPlays", spec := "rtoPlays", apart := false, narrowed := true }
def RtoPlaysUptoSaid : Prop := rtoPlaysUptoRow.holds Try.pinned (OpenSpec.upto rtoPlaysSpec)

/-- 'blockyardlaw14.RtoBounds', WHERE WHAT IT READS IS OF BULK AT MOST 1048576: true; the input reads as it did. -/
def rtoBoundsUptoRow : OpenClaim := { program := "ytcaifpjcgdpekaa", sum := "9bb345e7e24ff362f561ed03150b70c54e26d524462745dda14e37ea47459e3e", func := "blockyard/blockyardlaw14.RtoBounds", spec := "rtoBounds", apart := false, narrowed := true }
def RtoBoundsUptoSaid : Prop := rtoBoundsUptoRow.holds Try.pinned (OpenSpec.upto rtoBoundsSpec)

/-- 'blockyardlaw14.RtoSteady', WHERE WHAT IT READS IS OF BULK AT MOST 1048576: true; the input reads as it did. -/
def rtoSteadyUptoRow : OpenClaim := { program := "ytcaifpjcgdpekaa", sum := "9bb345e7e24ff362f561ed03150b70c54e26d524462745dda14e37ea47459e3e", func := "blockyard/blockyardlaw14.RtoSteady", spec := "rtoSteady", apart := false, narrowed := true }
def RtoSteadyUptoSaid : Prop := rtoSteadyUptoRow.holds Try.pinned (OpenSpec.upto rtoSteadySpec)

end Rows
end Go.Proofs.Ytcaifpjcgdpekaa
