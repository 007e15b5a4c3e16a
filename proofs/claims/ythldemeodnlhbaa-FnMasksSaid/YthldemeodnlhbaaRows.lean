/-
  No cell of these rows narrows 'for every input' (looked for: loops, veiled, ifaces, maps, wideKeys, modest, calm, conditions, laid).
  DERIVED. THE GIVEN ROWS OF THIS SEAT. 6 by the template 'for every input the law returns true; each argument reads behind the call as it read before'; 0 by the template 'total and deterministic' (their statements: YthldemeodnlhbaaTotals.lean).
  GIVEN WITH THE SEED: the statements are not yours to turn. If you find one false, say at which input.
  Laid BY PROGRAM, IN A SANDBOX (cutbox-rows.mjs): the forced cells as the released guide's own fill.sh prints them over the translation f7fdaf2168f234cf… (all of the seat's roots in one cut). By AI agents, Wed Nov 11 2026. No macro, syntax, notation, axiom, sorry.
-/
import Derived.Test.YthldemeodnlhbaaChecked
import GoSem.Claim
import GoSem.ClaimJoined
import GoSem.ClaimMapViews
import Derived.JoinedTies
import Derived.KernelRfl
namespace Go.Proofs.Ythldemeodnlhbaa
/- THE CELL 'sum', in the pinned program and in every row, IS THE sha256 OF THE DUMP (.gsa) THAT YthldemeodnlhbaaProg.lean LOADS. Nothing in Lean hashes anything: it is a label: what it is worth is what the hold of that sum in a sandbox is worth. -/
noncomputable def Try.pinned : Pinned := { name := "ythldemeodnlhbaa", sum := "f7fdaf2168f234cf416e85ac45c9b11e106e24040afbbdaec50a5f948be5e9a9", checked := Try.checked }
namespace Rows
def none {H : Type} : Left H := { results := [], args := [] }

/-- 'laws.FnExactMaskOk': WHATEVER THE INPUT: true; the input reads as it did. -/
def fnExactMaskOkSpec : ChangeSpec := { name := "fnExactMaskOk", fn := fun _ => fun
  | [d] => { results := [.lit (.bool true)], args := [d] }
  | _ => none }
def fnExactMaskOkRow : OpenClaim := { program := "ythldemeodnlhbaa", sum := "f7fdaf2168f234cf416e85ac45c9b11e106e24040afbbdaec50a5f948be5e9a9", func := "loop.example/g00225/laws.FnExactMaskOk", spec := "fnExactMaskOk", inPlace := ["internal/bytealg.IndexByteString"], apart := false }
def FnExactMaskOkSaid : Prop := fnExactMaskOkRow.holds Try.pinned (OpenSpec.ofChange fnExactMaskOkSpec)

/-- ITS FALSE NEIGHBOUR: 'it returns false'. Refute it at one input. -/
def fnExactMaskOkWrong : ChangeSpec := { name := "fnExactMaskOk", fn := fun _ => fun
  | [d] => { results := [.lit (.bool false)], args := [d] }
  | _ => none }
def FnExactMaskOkWrongFalsely : Prop := fnExactMaskOkRow.holds Try.pinned (OpenSpec.ofChange fnExactMaskOkWrong)

/-- 'laws.FnExactTransposed': WHATEVER THE INPUT: true; the input reads as it did. -/
def fnExactTransposedSpec : ChangeSpec := { name := "fnExactTransposed", fn := fun _ => fun
  | [d] => { results := [.lit (.bool true)], args := [d] }
  | _ => none }
def fnExactTransposedRow : OpenClaim := { program := "ythldemeodnlhbaa", sum := "f7fdaf2168f234cf416e85ac45c9b11e106e24040afbbdaec50a5f948be5e9a9", func := "loop.example/g00225/laws.FnExactTransposed", spec := "fnExactTransposed", inPlace := ["internal/bytealg.IndexByteString"], apart := false }
def FnExactTransposedSaid : Prop := fnExactTransposedRow.holds Try.pinned (OpenSpec.ofChange fnExactTransposedSpec)

/-- ITS FALSE NEIGHBOUR: 'it returns false'. Refute it at one input. -/
def fnExactTransposedWrong : ChangeSpec := { name := "fnExactTransposed", fn := fun _ => fun
  | [d] => { results := [.lit (.bool false)], args := [d] }
  | _ => none }
def FnExactTransposedWrongFalsely : Prop := fnExactTransposedRow.holds Try.pinned (OpenSpec.ofChange fnExactTransposedWrong)

/-- 'laws.FnExactMatches': WHATEVER THE INPUT: true; the input reads as it did. -/
def fnExactMatchesSpec : ChangeSpec := { name := "fnExactMatches", fn := fun _ => fun
  | [d1, d2] => { results := [.lit (.bool true)], args := [d1, d2] }
  | _ => none }
def fnExactMatchesRow : OpenClaim := { program := "ythldemeodnlhbaa", sum := "f7fdaf2168f234cf416e85ac45c9b11e106e24040afbbdaec50a5f948be5e9a9", func := "loop.example/g00225/laws.FnExactMatches", spec := "fnExactMatches", inPlace := ["internal/bytealg.IndexByteString"], apart := false }
def FnExactMatchesSaid : Prop := fnExactMatchesRow.holds Try.pinned (OpenSpec.ofChange fnExactMatchesSpec)

/-- ITS FALSE NEIGHBOUR: 'it returns false'. Refute it at one input. -/
def fnExactMatchesWrong : ChangeSpec := { name := "fnExactMatches", fn := fun _ => fun
  | [d1, d2] => { results := [.lit (.bool false)], args := [d1, d2] }
  | _ => none }
def FnExactMatchesWrongFalsely : Prop := fnExactMatchesRow.holds Try.pinned (OpenSpec.ofChange fnExactMatchesWrong)

/-- 'laws.FnExactNamed': WHATEVER THE INPUT: true; the input reads as it did. -/
def fnExactNamedSpec : ChangeSpec := { name := "fnExactNamed", fn := fun _ => fun
  | [d1, d2] => { results := [.lit (.bool true)], args := [d1, d2] }
  | _ => none }
def fnExactNamedRow : OpenClaim := { program := "ythldemeodnlhbaa", sum := "f7fdaf2168f234cf416e85ac45c9b11e106e24040afbbdaec50a5f948be5e9a9", func := "loop.example/g00225/laws.FnExactNamed", spec := "fnExactNamed", inPlace := ["internal/bytealg.IndexByteString"], apart := false }
def FnExactNamedSaid : Prop := fnExactNamedRow.holds Try.pinned (OpenSpec.ofChange fnExactNamedSpec)

/-- ITS FALSE NEIGHBOUR: 'it returns false'. Refute it at one input. -/
def fnExactNamedWrong : ChangeSpec := { name := "fnExactNamed", fn := fun _ => fun
  | [d1, d2] => { results := [.lit (.bool false)], args := [d1, d2] }
  | _ => none }
def FnExactNamedWrongFalsely : Prop := fnExactNamedRow.holds Try.pinned (OpenSpec.ofChange fnExactNamedWrong)

/-- 'laws.FnMasks': WHATEVER THE INPUT: true; the input reads as it did. -/
def fnMasksSpec : ChangeSpec := { name := "fnMasks", fn := fun _ => fun
  | [d] => { results := [.lit (.bool true)], args := [d] }
  | _ => none }
def fnMasksRow : OpenClaim := { program := "ythldemeodnlhbaa", sum := "f7fdaf2168f234cf416e85ac45c9b11e106e24040afbbdaec50a5f948be5e9a9", func := "loop.example/g00225/laws.FnMasks", spec := "fnMasks", inPlace := ["internal/bytealg.IndexByteString"], apart := false }
def FnMasksSaid : Prop := fnMasksRow.holds Try.pinned (OpenSpec.ofChange fnMasksSpec)

/-- ITS FALSE NEIGHBOUR: 'it returns false'. Refute it at one input. -/
def fnMasksWrong : ChangeSpec := { name := "fnMasks", fn := fun _ => fun
  | [d] => { results := [.lit (.bool false)], args := [d] }
  | _ => none }
def FnMasksWrongFalsely : Prop := fnMasksRow.holds Try.pinned (OpenSpec.ofChange fnMasksWrong)

/-- 'laws.FnExactWindowSegs': WHATEVER THE INPUT: true; the input reads as it did. -/
def fnExactWindowSegsSpec : ChangeSpec := { name := "fnExactWindowSegs", fn := fun _ => fun
  | [d1, d2, d3] => { results := [.lit (.bool true)], args := [d1, d2, d3] }
  | _ => none }
def fnExactWindowSegsRow : OpenClaim := { program := "ythldemeodnlhbaa", sum := "f7fdaf2168f234cf416e85ac45c9b11e106e24040afbbdaec50a5f948be5e9a9", func := "loop.example/g00225/laws.FnExactWindowSegs", spec := "fnExactWindowSegs", apart := false }
def FnExactWindowSegsSaid : Prop := fnExactWindowSegsRow.holds Try.pinned (OpenSpec.ofChange fnExactWindowSegsSpec)

/-- ITS FALSE NEIGHBOUR: 'it returns false'. Refute it at one input. -/
def fnExactWindowSegsWrong : ChangeSpec := { name := "fnExactWindowSegs", fn := fun _ => fun
  | [d1, d2, d3] => { results := [.lit (.bool false)], args := [d1, d2, d3] }
  | _ => none }
def FnExactWindowSegsWrongFalsely : Prop := fnExactWindowSegsRow.holds Try.pinned (OpenSpec.ofChange fnExactWindowSegsWrong)

/- THE SECOND FORM. 'bulk': how many values and letters a reading holds, each counted each time it is reached (what is shared counts as often as it is met; a slice's spare places count too). A statement '..UptoSaid' is the law's where the arguments, and the package variables that the reading takes, are together of bulk at most 1048576: NARROWER than '..Said'. Prove '..Said' where nothing that the law and all that it calls make is longer than what came in: it says more and counts as full. Else prove '..UptoSaid'. A law counts once. -/
mutual
def uptoBulk {H : Type} : DataW H → Nat
  | .lit (.string bytes) => bytes.length + 1
  | .lit _ => 1
  | .nil => 1
  | .ptr d => uptoBulk d + 1
  | .slice elems spare => uptoBulkAll elems + uptoBulkAll spare + 1
  | .agg parts => uptoBulkAll parts + 1
  | .iface _ d => uptoBulk d + 1
  | .map entries => uptoBulkEntries entries + 1
  | .held _ => 1
def uptoBulkAll {H : Type} : List (DataW H) → Nat
  | [] => 0
  | d :: r => uptoBulk d + uptoBulkAll r
def uptoBulkEntries {H : Type} : List (Lit × DataW H) → Nat
  | [] => 0
  | x :: r => uptoBulkEntry x + uptoBulkEntries r
def uptoBulkEntry {H : Type} : Lit × DataW H → Nat
  | (.string bytes, d) => bytes.length + uptoBulk d + 1
  | (_, d) => uptoBulk d + 1
 end
def uptoSmall : (H : Type) → List (DataW H) → Bool := fun _ ds => decide (uptoBulkAll ds ≤ 1048576)
def OpenSpec.upto (s : _root_.Go.ChangeSpec) : _root_.Go.OpenSpec := { _root_.Go.OpenSpec.ofChange s with cond := some uptoSmall }

/-- 'laws.FnExactMaskOk', WHERE WHAT IT READS IS OF BULK AT MOST 1048576: true; the input reads as it did. -/
def fnExactMaskOkUptoRow : OpenClaim := { program := "ythldemeodnlhbaa", sum := "f7fdaf2168f234cf416e85ac45c9b11e106e24040afbbdaec50a5f948be5e9a9", func := "loop.example/g00225/laws.FnExactMaskOk", spec := "fnExactMaskOk", inPlace := ["internal/bytealg.IndexByteString"], apart := false, narrowed := true }
def FnExactMaskOkUptoSaid : Prop := fnExactMaskOkUptoRow.holds Try.pinned (OpenSpec.upto fnExactMaskOkSpec)

/-- 'laws.FnExactTransposed', WHERE WHAT IT READS IS OF BULK AT MOST 1048576: true; the input reads as it did. -/
def fnExactTransposedUptoRow : OpenClaim := { program := "ythldemeodnlhbaa", sum := "f7fdaf2168f234cf416e85ac45c9b11e106e24040afbbdaec50a5f948be5e9a9", func := "loop.example/g00225/laws.FnExactTransposed", spec := "fnExactTransposed", inPlace := ["internal/bytealg.IndexByteString"], apart := false, narrowed := true }
def FnExactTransposedUptoSaid : Prop := fnExactTransposedUptoRow.holds Try.pinned (OpenSpec.upto fnExactTransposedSpec)

/-- 'laws.FnExactMatches', WHERE WHAT IT READS IS OF BULK AT MOST 1048576: true; the input reads as it did. -/
def fnExactMatchesUptoRow : OpenClaim := { program := "ythldemeodnlhbaa", sum := "f7fdaf2168f234cf416e85ac45c9b11e106e24040afbbdaec50a5f948be5e9a9", func := "loop.example/g00225/laws.FnExactMatches", spec := "fnExactMatches", inPlace := ["internal/bytealg.IndexByteString"], apart := false, narrowed := true }
def FnExactMatchesUptoSaid : Prop := fnExactMatchesUptoRow.holds Try.pinned (OpenSpec.upto fnExactMatchesSpec)

/-- 'laws.FnExactNamed', WHERE WHAT IT READS IS OF BULK AT MOST 1048576: true; the input reads as it did. -/
def fnExactNamedUptoRow : OpenClaim := { program := "ythldemeodnlhbaa", sum := "f7fdaf2168f234cf416e85ac45c9b11e106e24040afbbdaec50a5f948be5e9a9", func := "loop.example/g00225/laws.FnExactNamed", spec := "fnExactNamed", inPlace := ["internal/bytealg.IndexByteString"], apart := false, narrowed := true }
def FnExactNamedUptoSaid : Prop := fnExactNamedUptoRow.holds Try.pinned (OpenSpec.upto fnExactNamedSpec)

/-- 'laws.FnMasks', WHERE WHAT IT READS IS OF BULK AT MOST 1048576: true; the input reads as it did. -/
def fnMasksUptoRow : OpenClaim := { program := "ythldemeodnlhbaa", sum := "f7fdaf2168f234cf416e85ac45c9b11e106e24040afbbdaec50a5f948be5e9a9", func := "loop.example/g00225/laws.FnMasks", spec := "fnMasks", inPlace := ["internal/bytealg.IndexByteString"], apart := false, narrowed := true }
def FnMasksUptoSaid : Prop := fnMasksUptoRow.holds Try.pinned (OpenSpec.upto fnMasksSpec)

/-- 'laws.FnExactWindowSegs', WHERE WHAT IT READS IS OF BULK AT MOST 1048576: true; the input reads as it did. -/
def fnExactWindowSegsUptoRow : OpenClaim := { program := "ythldemeodnlhbaa", sum := "f7fdaf2168f234cf416e85ac45c9b11e106e24040afbbdaec50a5f948be5e9a9", func := "loop.example/g00225/laws.FnExactWindowSegs", spec := "fnExactWindowSegs", apart := false, narrowed := true }
def FnExactWindowSegsUptoSaid : Prop := fnExactWindowSegsUptoRow.holds Try.pinned (OpenSpec.upto fnExactWindowSegsSpec)

end Rows
end Go.Proofs.Ythldemeodnlhbaa
