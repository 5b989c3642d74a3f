/-
  No cell of these rows narrows 'for every input' (looked for: loops, veiled, ifaces, maps, wideKeys, modest, calm, conditions, laid).
  DERIVED. THE GIVEN ROWS OF THIS SEAT. 5 by the template 'for every input the law returns true; each argument reads behind the call as it read before'; 0 by the template 'total and deterministic' (their statements: YtjfamjaebehieaaTotals.lean).
  GIVEN WITH THE SEED: the statements are not yours to turn. If you find one false, say at which input.
  Laid BY PROGRAM, IN A SANDBOX (cutbox-rows.mjs): the forced cells as the released guide's own fill.sh prints them over the translation dcecab9632c5ed1f… (all of the seat's roots in one cut). By AI agents, Wed Nov 11 2026. No macro, syntax, notation, axiom, sorry.
-/
import Derived.Test.YtjfamjaebehieaaChecked
import GoSem.Claim
import GoSem.ClaimJoined
import GoSem.ClaimMapViews
import Derived.JoinedTies
import Derived.KernelRfl
namespace Go.Proofs.Ytjfamjaebehieaa
/- THE CELL 'sum', in the pinned program and in every row, IS THE sha256 OF THE DUMP (.gsa) THAT YtjfamjaebehieaaProg.lean LOADS. Nothing in Lean hashes anything: it is a label: what it is worth is what the hold of that sum in a sandbox is worth. -/
noncomputable def Try.pinned : Pinned := { name := "ytjfamjaebehieaa", sum := "dcecab9632c5ed1f8e4df27b1bcb41b14f9c13a81c8452137cc36e8935ec8aa8", checked := Try.checked }
namespace Rows
def none {H : Type} : Left H := { results := [], args := [] }

/-- 'blockyardlaw12.RbufFirst': WHATEVER THE INPUT: true; the input reads as it did. -/
def rbufFirstSpec : ChangeSpec := { name := "rbufFirst", fn := fun _ => fun
  | [d1, d2, d3, d4, d5] => { results := [.lit (.bool true)], args := [d1, d2, d3, d4, d5] }
  | _ => none }
def rbufFirstRow : OpenClaim := { program := "ytjfamjaebehieaa", sum := "dcecab9632c5ed1f8e4df27b1bcb41b14f9c13a81c8452137cc36e8935ec8aa8", func := "blockyard/blockyardlaw12.RbufFirst", spec := "rbufFirst", apart := false }
def RbufFirstSaid : Prop := rbufFirstRow.holds Try.pinned (OpenSpec.ofChange rbufFirstSpec)

/-- ITS FALSE NEIGHBOUR: 'it returns false'. Refute it at one input. -/
def rbufFirstWrong : ChangeSpec := { name := "rbufFirst", fn := fun _ => fun
  | [d1, d2, d3, d4, d5] => { results := [.lit (.bool false)], args := [d1, d2, d3, d4, d5] }
  | _ => none }
def RbufFirstWrongFalsely : Prop := rbufFirstRow.holds Try.pinned (OpenSpec.ofChange rbufFirstWrong)

/-- 'blockyardlaw12.RbufKnown': WHATEVER THE INPUT: true; the input reads as it did. -/
def rbufKnownSpec : ChangeSpec := { name := "rbufKnown", fn := fun _ => fun
  | [] => { results := [.lit (.bool true)], args := [] }
  | _ => none }
def rbufKnownRow : OpenClaim := { program := "ytjfamjaebehieaa", sum := "dcecab9632c5ed1f8e4df27b1bcb41b14f9c13a81c8452137cc36e8935ec8aa8", func := "blockyard/blockyardlaw12.RbufKnown", spec := "rbufKnown", apart := false }
def RbufKnownSaid : Prop := rbufKnownRow.holds Try.pinned (OpenSpec.ofChange rbufKnownSpec)

/-- ITS FALSE NEIGHBOUR: 'it returns false'. Refute it at one input. -/
def rbufKnownWrong : ChangeSpec := { name := "rbufKnown", fn := fun _ => fun
  | [] => { results := [.lit (.bool false)], args := [] }
  | _ => none }
def RbufKnownWrongFalsely : Prop := rbufKnownRow.holds Try.pinned (OpenSpec.ofChange rbufKnownWrong)

/-- 'blockyardlaw12.RbufPlays': WHATEVER THE INPUT: true; the input reads as it did. -/
def rbufPlaysSpec : ChangeSpec := { name := "rbufPlays", fn := fun _ => fun
  | [d1, d2, d3] => { results := [.lit (.bool true)], args := [d1, d2, d3] }
  | _ => none }
def rbufPlaysRow : OpenClaim := { program := "ytjfamjaebehieaa", sum := "dcecab9632c5ed1f8e4df27b1bcb41b14f9c13a81c8452137cc36e8935ec8aa8", func := "blockyard/blockyardlaw12.RbufPlays", spec := "rbufPlays", apart := false }
def RbufPlaysSaid : Prop := rbufPlaysRow.holds Try.pinned (OpenSpec.ofChange rbufPlaysSpec)

/-- ITS FALSE NEIGHBOUR: 'it returns false'. Refute it at one input. -/
def rbufPlaysWrong : ChangeSpec := { name := "rbufPlays", fn := fun _ => fun
  | [d1, d2, d3] => { results := [.lit (.bool false)], args := [d1, d2, d3] }
  | _ => none }
def RbufPlaysWrongFalsely : Prop := rbufPlaysRow.holds Try.pinned (OpenSpec.ofChange rbufPlaysWrong)

/-- 'blockyardlaw12.RbufNobody': WHATEVER THE INPUT: true; the input reads as it did. -/
def rbufNobodySpec : ChangeSpec := { name := "rbufNobody", fn := fun _ => fun
  | [d1, d2, d3] => { results := [.lit (.bool true)], args := [d1, d2, d3] }
  | _ => none }
def rbufNobodyRow : OpenClaim := { program := "ytjfamjaebehieaa", sum := "dcecab9632c5ed1f8e4df27b1bcb41b14f9c13a81c8452137cc36e8935ec8aa8", func := "blockyard/blockyardlaw12.RbufNobody", spec := "rbufNobody", apart := false }
def RbufNobodySaid : Prop := rbufNobodyRow.holds Try.pinned (OpenSpec.ofChange rbufNobodySpec)

/-- ITS FALSE NEIGHBOUR: 'it returns false'. Refute it at one input. -/
def rbufNobodyWrong : ChangeSpec := { name := "rbufNobody", fn := fun _ => fun
  | [d1, d2, d3] => { results := [.lit (.bool false)], args := [d1, d2, d3] }
  | _ => none }
def RbufNobodyWrongFalsely : Prop := rbufNobodyRow.holds Try.pinned (OpenSpec.ofChange rbufNobodyWrong)

/-- 'blockyardlaw12.RbufStream': WHATEVER THE INPUT: true; the input reads as it did. -/
def rbufStreamSpec : ChangeSpec := { name := "rbufStream", fn := fun _ => fun
  | [d1, d2, d3, d4] => { results := [.lit (.bool true)], args := [d1, d2, d3, d4] }
  | _ => none }
def rbufStreamRow : OpenClaim := { program := "ytjfamjaebehieaa", sum := "dcecab9632c5ed1f8e4df27b1bcb41b14f9c13a81c8452137cc36e8935ec8aa8", func := "blockyard/blockyardlaw12.RbufStream", spec := "rbufStream", apart := false }
def RbufStreamSaid : Prop := rbufStreamRow.holds Try.pinned (OpenSpec.ofChange rbufStreamSpec)

/-- ITS FALSE NEIGHBOUR: 'it returns false'. Refute it at one input. -/
def rbufStreamWrong : ChangeSpec := { name := "rbufStream", fn := fun _ => fun
  | [d1, d2, d3, d4] => { results := [.lit (.bool false)], args := [d1, d2, d3, d4] }
  | _ => none }
def RbufStreamWrongFalsely : Prop := rbufStreamRow.holds Try.pinned (OpenSpec.ofChange rbufStreamWrong)

/- THE SECOND FORM. 'bulk': how many values and letters a reading holds, each counted each time it is reached (what is shared counts as often as it is met; a slice's spare places count too). A statement '..UptoSaid' is the law's where the arguments, and the package variables that the reading takes, are together of bulk at most 1048576: NARROWER than '..Said'. Prove '..Said' where nothing that the law and all that it calls make is longer than what came in: it says more and counts as full. Else prove '..UptoSaid'. A law counts once. -/
mutual
def uptoBulk {H : Type} : DataW H → Nat
  | .lit (.string bytes) => bytes.length + 1
  | .lit _ => 1
  | .nil => 1
  | .ptr d => uptoBulk d + 1
  | .slice elems spare => uptoBulkAll elems + uptoBulkAll spare + 1
  | .agg parts => uptoBulkAll parts + 1
  | .iface _ d => uptoBulk d + 1
  | .map entries => uptoBulkEntries entries + 1
  | .held _ => 1
def uptoBulkAll {H : Type} : List (DataW H) → Nat
  | [] => 0
  | d :: r => uptoBulk d + uptoBulkAll r
def uptoBulkEntries {H : Type} : List (Lit × DataW H) → Nat
  | [] => 0
  | x :: r => uptoBulkEntry x + uptoBulkEntries r
def uptoBulkEntry {H : Type} : Lit × DataW H → Nat
  | (.string bytes, d) => bytes.length + uptoBulk d + 1
  | (_, d) => uptoBulk d + 1
 end
def uptoSmall : (H : Type) → List (DataW H) → Bool := fun _ ds => decide (uptoBulkAll ds ≤ 1048576)
def OpenSpec.upto (s : _root_.Go.ChangeSpec) : _root_.Go.OpenSpec := { _root_.Go.OpenSpec.ofChange s with cond := some uptoSmall }

/-- 'blockyardlaw12.RbufFirst', WHERE WHAT IT READS IS OF BULK AT MOST 1048576: true; the input reads as it did. -/
def rbufFirstUptoRow : OpenClaim := { program := "ytjfamjaebehieaa", sum := "dcecab9632c5ed1f8e4df27b1bcb41b14f9c13a81c8452137cc36e8935ec8aa8", func := "blockyard/blockyardlaw12.RbufFirst", spec := "rbufFirst", apart := false, narrowed := true }
def RbufFirstUptoSaid : Prop := rbufFirstUptoRow.holds Try.pinned (OpenSpec.upto rbufFirstSpec)

/-- 'blockyardlaw12.RbufKnown', WHERE WHAT IT READS IS OF BULK AT MOST 1048576: true; the input reads as it did. -/
def rbufKnownUptoRow : OpenClaim := { program := "ytjfamjaebehieaa", sum := "dcecab9632c5ed1f8e4df27b1bcb41b14f9c13a81c8452137cc36e8935ec8aa8", func := "blockyard/blockyardlaw12.RbufKnown", spec := "rbufKnown", apart := false, narrowed := true }
def RbufKnownUptoSaid : Prop := rbufKnownUptoRow.holds Try.pinned (OpenSpec.upto rbufKnownSpec)

/-- 'blockyardlaw12.RbufPlays', WHERE WHAT IT READS IS OF BULK AT MOST 1048576: true; the input reads as it did. -/
def rbufPlaysUptoRow : OpenClaim := { program := "ytjfamjaebehieaa", sum := "dcecab9632c5ed1f8e4df27b1bcb41b14f9c13a81c8452137cc36e8935ec8aa8", func := "blockyard/blockyardlaw12.RbufPlays", spec := "rbufPlays", apart := false, narrowed := true }
def RbufPlaysUptoSaid : Prop := rbufPlaysUptoRow.holds Try.pinned (OpenSpec.upto rbufPlaysSpec)

/-- 'blockyardlaw12.RbufNobody', WHERE WHAT IT READS IS OF BULK AT MOST 1048576: true; the input reads as it did. -/
def rbufNobodyUptoRow : OpenClaim := { program := "ytjfamjaebehieaa", sum := "dcecab9632c5ed1f8e4df27b1bcb41b14f9c13a81c8452137cc36e8935ec8aa8", func := "blockyard/blockyardlaw12.RbufNobody", spec := "rbufNobody", apart := false, narrowed := true }
def RbufNobodyUptoSaid : Prop := rbufNobodyUptoRow.holds Try.pinned (OpenSpec.upto rbufNobodySpec)

/-- 'blockyardlaw12.RbufStream', WHERE WHAT IT READS IS OF BULK AT MOST 1048576: true; the input reads as it did. -/
def rbufStreamUptoRow : OpenClaim := { program := "ytjfamjaebehieaa", sum := "dcecab9632c5ed1f8e4df27b1bcb41b14f9c13a81c8452137cc36e8935ec8aa8", func := "blockyard/blockyardlaw12.RbufStream", spec := "rbufStream", apart := false, narrowed := true }
def RbufStreamUptoSaid : Prop := rbufStreamUptoRow.holds Try.pinned (OpenSpec.upto rbufStreamSpec)

end Rows
end Go.Proofs.Ytjfamjaebehieaa
