/-
  No cell of these rows narrows 'for every input' (looked for: loops, veiled, ifaces, maps, wideKeys, modest, calm, conditions, laid).
  DERIVED. THE GIVEN ROWS OF THIS SEAT. 5 by the template 'for every input the law returns true; each argument reads behind the call as it read before'; 0 by the template 'total and deterministic' (their statements: YtpmlojgngcllfaaTotals.lean).
  GIVEN WITH THE SEED: the statements are not yours to turn. If you find one false, say at which input.
  Laid BY PROGRAM, IN A SANDBOX (cutbox-rows.mjs): the forced cells as the released guide's own fill.sh prints them over the translation 002c7e09350a5ede… (all of the seat's roots in one cut). By AI agents, Wed Nov 11 2026. No macro, syntax, notation, axiom, sorry.
-/
import Derived.Test.YtpmlojgngcllfaaChecked
import GoSem.Claim
import GoSem.ClaimJoined
import GoSem.ClaimMapViews
import Derived.JoinedTies
import Derived.KernelRfl
namespace Go.Proofs.Ytpmlojgngcllfaa
/- THE CELL 'sum', in the pinned program and in every row, IS THE sha256 OF THE DUMP (.gsa) THAT YtpmlojgngcllfaaProg.lean LOADS. Nothing in Lean hashes anything: it is a label: what it is worth is what the hold of that sum in a sandbox is worth. -/
noncomputable def Try.pinned : Pinned := { name := "ytpmlojgngcllfaa", sum := "002c7e09350a5ede9f8390c3198685efabc135773bf5d0664dec2c916838f942", checked := Try.checked }
namespace Rows
def none {H : Type} : Left H := { results := [], args := [] }

/-- 'blockyardlaw15.ConnDone': WHATEVER THE INPUT: true; the input reads as it did. -/
def connDoneSpec : ChangeSpec := { name := "connDone", fn := fun _ => fun
  | [d1, d2, d3, d4, d5, d6] => { results := [.lit (.bool true)], args := [d1, d2, d3, d4, d5, d6] }
  | _ => none }
def connDoneRow : OpenClaim := { program := "ytpmlojgngcllfaa", sum := "002c7e09350a5ede9f8390c3198685efabc135773bf5d0664dec2c916838f942", func := "blockyard/blockyardlaw15.ConnDone", spec := "connDone", apart := false }
def ConnDoneSaid : Prop := connDoneRow.holds Try.pinned (OpenSpec.ofChange connDoneSpec)

/-- ITS FALSE NEIGHBOUR: 'it returns false'. Refute it at one input. -/
def connDoneWrong : ChangeSpec := { name := "connDone", fn := fun _ => fun
  | [d1, d2, d3, d4, d5, d6] => { results := [.lit (.bool false)], args := [d1, d2, d3, d4, d5, d6] }
  | _ => none }
def ConnDoneWrongFalsely : Prop := connDoneRow.holds Try.pinned (OpenSpec.ofChange connDoneWrong)

/-- 'blockyardlaw15.ConnNobody': WHATEVER THE INPUT: true; the input reads as it did. -/
def connNobodySpec : ChangeSpec := { name := "connNobody", fn := fun _ => fun
  | [d1, d2, d3] => { results := [.lit (.bool true)], args := [d1, d2, d3] }
  | _ => none }
def connNobodyRow : OpenClaim := { program := "ytpmlojgngcllfaa", sum := "002c7e09350a5ede9f8390c3198685efabc135773bf5d0664dec2c916838f942", func := "blockyard/blockyardlaw15.ConnNobody", spec := "connNobody", apart := false }
def ConnNobodySaid : Prop := connNobodyRow.holds Try.pinned (OpenSpec.ofChange connNobodySpec)

/-- ITS FALSE NEIGHBOUR: 'it returns false'. Refute it at one input. -/
def connNobodyWrong : ChangeSpec := { name := "connNobody", fn := fun _ => fun
  | [d1, d2, d3] => { results := [.lit (.bool false)], args := [d1, d2, d3] }
  | _ => none }
def ConnNobodyWrongFalsely : Prop := connNobodyRow.holds Try.pinned (OpenSpec.ofChange connNobodyWrong)

/-- 'blockyardlaw15.ConnSilent': WHATEVER THE INPUT: true; the input reads as it did. -/
def connSilentSpec : ChangeSpec := { name := "connSilent", fn := fun _ => fun
  | [d1, d2, d3, d4, d5, d6, d7] => { results := [.lit (.bool true)], args := [d1, d2, d3, d4, d5, d6, d7] }
  | _ => none }
def connSilentRow : OpenClaim := { program := "ytpmlojgngcllfaa", sum := "002c7e09350a5ede9f8390c3198685efabc135773bf5d0664dec2c916838f942", func := "blockyard/blockyardlaw15.ConnSilent", spec := "connSilent", apart := false }
def ConnSilentSaid : Prop := connSilentRow.holds Try.pinned (OpenSpec.ofChange connSilentSpec)

/-- ITS FALSE NEIGHBOUR: 'it returns false'. Refute it at one input. -/
def connSilentWrong : ChangeSpec := { name := "connSilent", fn := fun _ => fun
  | [d1, d2, d3, d4, d5, d6, d7] => { results := [.lit (.bool false)], args := [d1, d2, d3, d4, d5, d6, d7] }
  | _ => none }
def ConnSilentWrongFalsely : Prop := connSilentRow.holds Try.pinned (OpenSpec.ofChange connSilentWrong)

/-- 'blockyardlaw15.ConnResets': WHATEVER THE INPUT: true; the input reads as it did. -/
def connResetsSpec : ChangeSpec := { name := "connResets", fn := fun _ => fun
  | [d1, d2] => { results := [.lit (.bool true)], args := [d1, d2] }
  | _ => none }
def connResetsRow : OpenClaim := { program := "ytpmlojgngcllfaa", sum := "002c7e09350a5ede9f8390c3198685efabc135773bf5d0664dec2c916838f942", func := "blockyard/blockyardlaw15.ConnResets", spec := "connResets", apart := false }
def ConnResetsSaid : Prop := connResetsRow.holds Try.pinned (OpenSpec.ofChange connResetsSpec)

/-- ITS FALSE NEIGHBOUR: 'it returns false'. Refute it at one input. -/
def connResetsWrong : ChangeSpec := { name := "connResets", fn := fun _ => fun
  | [d1, d2] => { results := [.lit (.bool false)], args := [d1, d2] }
  | _ => none }
def ConnResetsWrongFalsely : Prop := connResetsRow.holds Try.pinned (OpenSpec.ofChange connResetsWrong)

/-- 'blockyardlaw15.ConnKnown': WHATEVER THE INPUT: true; the input reads as it did. -/
def connKnownSpec : ChangeSpec := { name := "connKnown", fn := fun _ => fun
  | [] => { results := [.lit (.bool true)], args := [] }
  | _ => none }
def connKnownRow : OpenClaim := { program := "ytpmlojgngcllfaa", sum := "002c7e09350a5ede9f8390c3198685efabc135773bf5d0664dec2c916838f942", func := "blockyard/blockyardlaw15.ConnKnown", spec := "connKnown", apart := false }
def ConnKnownSaid : Prop := connKnownRow.holds Try.pinned (OpenSpec.ofChange connKnownSpec)

/-- ITS FALSE NEIGHBOUR: 'it returns false'. Refute it at one input. -/
def connKnownWrong : ChangeSpec := { name := "connKnown", fn := fun _ => fun
  | [] => { results := [.lit (.bool false)], args := [] }
  | _ => none }
def ConnKnownWrongFalsely : Prop := connKnownRow.holds Try.pinned (OpenSpec.ofChange connKnownWrong)

/- THE SECOND FORM. 'bulk': how many values and letters a reading holds, each counted each time it is reached (what is shared counts as often as it is met; a slice's spare places count too). A statement '..UptoSaid' is the law's where the arguments, and the package variables that the reading takes, are together of bulk at most 1048576: NARROWER than '..Said'. Prove '..Said' where nothing that the law and all that it calls make is longer than what came in: it says more and counts as full. Else prove '..UptoSaid'. A law counts once. -/
mutual
def uptoBulk {H : Type} : DataW H → Nat
  | .lit (.string bytes) => bytes.length + 1
  | .lit _ => 1
  | .nil => 1
  | .ptr d => uptoBulk d + 1
  | .slice elems spare => uptoBulkAll elems + uptoBulkAll spare + 1
  | .agg parts => uptoBulkAll parts + 1
  | .iface _ d => uptoBulk d + 1
  | .map entries => uptoBulkEntries entries + 1
  | .held _ => 1
def uptoBulkAll {H : Type} : List (DataW H) → Nat
  | [] => 0
  | d :: r => uptoBulk d + uptoBulkAll r
def uptoBulkEntries {H : Type} : List (Lit × DataW H) → Nat
  | [] => 0
  | x :: r => uptoBulkEntry x + uptoBulkEntries r
def uptoBulkEntry {H : Type} : Lit × DataW H → Nat
  | (.string bytes, d) => bytes.length + uptoBulk d + 1
  | (_, d) => uptoBulk d + 1
 end
def uptoSmall : (H : Type) → List (DataW H) → Bool := fun _ ds => decide (uptoBulkAll ds ≤ 1048576)
def OpenSpec.upto (s : _root_.Go.ChangeSpec) : _root_.Go.OpenSpec := { _root_.Go.OpenSpec.ofChange s with cond := some uptoSmall }

/-- 'blockyardlaw15.ConnDone', WHERE WHAT IT READS IS OF BULK AT MOST 1048576: true; the input reads as it did. -/
def connDoneUptoRow : OpenClaim := { program := "ytpmlojgngcllfaa", sum := "002c7e09350a5ede9f8390c3198685efabc135773bf5d0664dec2c916838f942", func := "blockyard/blockyardlaw15.ConnDone", spec := "connDone", apart := false, narrowed := true }
def ConnDoneUptoSaid : Prop := connDoneUptoRow.holds Try.pinned (OpenSpec.upto connDoneSpec)

/-- 'blockyardlaw15.ConnNobody', WHERE WHAT IT READS IS OF BULK AT MOST 1048576: true; the input reads as it did. -/
def connNobodyUptoRow : OpenClaim := { program := "ytpmlojgngcllfaa", sum := "002c7e09350a5ede9f8390c3198685efabc135773bf5d0664dec2c916838f942", func := "blockyard/blockyardlaw15.ConnNobody", spec := "connNobody", apart := false, narrowed := true }
def ConnNobodyUptoSaid : Prop := connNobodyUptoRow.holds Try.pinned (OpenSpec.upto connNobodySpec)

/-- 'blockyardlaw15.ConnSilent', WHERE WHAT IT READS IS OF BULK AT MOST 1048576: true; the input reads as it did. -/
def connSilentUptoRow : OpenClaim := { program := "ytpmlojgngcllfaa", sum := "002c7e09350a5ede9f8390c3198685efabc135773bf5d0664dec2c916838f942", func := "blockyard/blockyardlaw15.ConnSilent", spec := "connSilent", apart := false, narrowed := true }
def ConnSilentUptoSaid : Prop := connSilentUptoRow.holds Try.pinned (OpenSpec.upto connSilentSpec)

/-- 'blockyardlaw15.ConnResets', WHERE WHAT IT READS IS OF BULK AT MOST 1048576: true; the input reads as it did. -/
def connResetsUptoRow : OpenClaim := { program := "ytpmlojgngcllfaa", sum := "002c7e09350a5ede9f8390c3198685efabc135773bf5d0664dec2c916838f942", func := "blockyard/blockyardlaw15.ConnResets", spec := "connResets", apart := false, narrowed := true }
def ConnResetsUptoSaid : Prop := connResetsUptoRow.holds Try.pinned (OpenSpec.upto connResetsSpec)

/-- 'blockyardlaw15.ConnKnown', WHERE WHAT IT READS IS OF BULK AT MOST 1048576: true; the input reads as it did. -/
def connKnownUptoRow : OpenClaim := { program := "ytpmlojgngcllfaa", sum := "002c7e09350a5ede9f8390c3198685efabc135773bf5d0664dec2c916838f942", func := "blockyard/blockyardlaw15.ConnKnown", spec := "connKnown", apart := false, narrowed := true }
def ConnKnownUptoSaid : Prop := connKnownUptoRow.holds Try.pinned (OpenSpec.upto connKnownSpec)

end Rows
end Go.Proofs.Ytpmlojgngcllfaa
