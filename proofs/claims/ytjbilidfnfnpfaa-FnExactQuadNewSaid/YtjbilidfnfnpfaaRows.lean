/-
  No cell of these rows narrows 'for every input' (looked for: loops, veiled, ifaces, maps, wideKeys, modest, calm, conditions, laid).
  DERIVED. THE GIVEN ROWS OF THIS SEAT. 11 by the template 'for every input the law returns true; each argument reads behind the call as it read before'; 0 by the template 'total and deterministic' (their statements: YtjbilidfnfnpfaaTotals.lean).
  GIVEN WITH THE SEED: the statements are not yours to turn. If you find one false, say at which input.
  Laid BY PROGRAM, IN A SANDBOX (cutbox-rows.mjs): the forced cells as the released guide's own fill.sh prints them over the translation 32668d34ab72e840… (all of the seat's roots in one cut). By AI agents, Wed Nov 11 2026. No macro, syntax, notation, axiom, sorry.
-/
import Derived.Test.YtjbilidfnfnpfaaChecked
import GoSem.Claim
import GoSem.ClaimJoined
import GoSem.ClaimMapViews
import Derived.JoinedTies
import Derived.KernelRfl
namespace Go.Proofs.Ytjbilidfnfnpfaa
/- THE CELL 'sum', in the pinned program and in every row, IS THE sha256 OF THE DUMP (.gsa) THAT YtjbilidfnfnpfaaProg.lean LOADS. Nothing in Lean hashes anything: it is a label: what it is worth is what the hold of that sum in a sandbox is worth. -/
noncomputable def Try.pinned : Pinned := { name := "ytjbilidfnfnpfaa", sum := "32668d34ab72e840a8fa62f54a2a9a21f70d035b8731964b8059aa4d8c21ec86", checked := Try.checked }
namespace Rows
def none {H : Type} : Left H := { results := [], args := [] }

/-- 'laws.FnExactWindowSegs': WHATEVER THE INPUT: true; the input reads as it did. -/
def fnExactWindowSegsSpec : ChangeSpec := { name := "fnExactWindowSegs", fn := fun _ => fun
  | [d1, d2, d3] => { results := [.lit (.bool true)], args := [d1, d2, d3] }
  | _ => none }
def fnExactWindowSegsRow : OpenClaim := { program := "ytjbilidfnfnpfaa", sum := "32668d34ab72e840a8fa62f54a2a9a21f70d035b8731964b8059aa4d8c21ec86", func := "loop.example/g00225/laws.FnExactWindowSegs", spec := "fnExactWindowSegs", apart := false }
def FnExactWindowSegsSaid : Prop := fnExactWindowSegsRow.holds Try.pinned (OpenSpec.ofChange fnExactWindowSegsSpec)

/-- ITS FALSE NEIGHBOUR: 'it returns false'. Refute it at one input. -/
def fnExactWindowSegsWrong : ChangeSpec := { name := "fnExactWindowSegs", fn := fun _ => fun
  | [d1, d2, d3] => { results := [.lit (.bool false)], args := [d1, d2, d3] }
  | _ => none }
def FnExactWindowSegsWrongFalsely : Prop := fnExactWindowSegsRow.holds Try.pinned (OpenSpec.ofChange fnExactWindowSegsWrong)

/-- 'laws.FnExactQuadNew': WHATEVER THE INPUT: true; the input reads as it did. -/
def fnExactQuadNewSpec : ChangeSpec := { name := "fnExactQuadNew", fn := fun _ => fun
  | [d1, d2] => { results := [.lit (.bool true)], args := [d1, d2] }
  | _ => none }
def fnExactQuadNewRow : OpenClaim := { program := "ytjbilidfnfnpfaa", sum := "32668d34ab72e840a8fa62f54a2a9a21f70d035b8731964b8059aa4d8c21ec86", func := "loop.example/g00225/laws.FnExactQuadNew", spec := "fnExactQuadNew", apart := false }
def FnExactQuadNewSaid : Prop := fnExactQuadNewRow.holds Try.pinned (OpenSpec.ofChange fnExactQuadNewSpec)

/-- ITS FALSE NEIGHBOUR: 'it returns false'. Refute it at one input. -/
def fnExactQuadNewWrong : ChangeSpec := { name := "fnExactQuadNew", fn := fun _ => fun
  | [d1, d2] => { results := [.lit (.bool false)], args := [d1, d2] }
  | _ => none }
def FnExactQuadNewWrongFalsely : Prop := fnExactQuadNewRow.holds Try.pinned (OpenSpec.ofChange fnExactQuadNewWrong)

/-- 'laws.FnWindows': WHATEVER THE INPUT: true; the input reads as it did. -/
def fnWindowsSpec : ChangeSpec := { name := "fnWindows", fn := fun _ => fun
  | [d] => { results := [.lit (.bool true)], args := [d] }
  | _ => none }
def fnWindowsRow : OpenClaim := { program := "ytjbilidfnfnpfaa", sum := "32668d34ab72e840a8fa62f54a2a9a21f70d035b8731964b8059aa4d8c21ec86", func := "loop.example/g00225/laws.FnWindows", spec := "fnWindows", apart := false }
def FnWindowsSaid : Prop := fnWindowsRow.holds Try.pinned (OpenSpec.ofChange fnWindowsSpec)

/-- ITS FALSE NEIGHBOUR: 'it returns false'. Refute it at one input. -/
def fnWindowsWrong : ChangeSpec := { name := "fnWindows", fn := fun _ => fun
  | [d] => { results := [.lit (.bool false)], args := [d] }
  | _ => none }
def FnWindowsWrongFalsely : Prop := fnWindowsRow.holds Try.pinned (OpenSpec.ofChange fnWindowsWrong)

/-- 'laws.FnExactQuadOk': WHATEVER THE INPUT: true; the input reads as it did. -/
def fnExactQuadOkSpec : ChangeSpec := { name := "fnExactQuadOk", fn := fun _ => fun
  | [d] => { results := [.lit (.bool true)], args := [d] }
  | _ => none }
def fnExactQuadOkRow : OpenClaim := { program := "ytjbilidfnfnpfaa", sum := "32668d34ab72e840a8fa62f54a2a9a21f70d035b8731964b8059aa4d8c21ec86", func := "loop.example/g00225/laws.FnExactQuadOk", spec := "fnExactQuadOk", recurses := true, apart := false }
def FnExactQuadOkSaid : Prop := fnExactQuadOkRow.holds Try.pinned (OpenSpec.ofChange fnExactQuadOkSpec)

/-- ITS FALSE NEIGHBOUR: 'it returns false'. Refute it at one input. -/
def fnExactQuadOkWrong : ChangeSpec := { name := "fnExactQuadOk", fn := fun _ => fun
  | [d] => { results := [.lit (.bool false)], args := [d] }
  | _ => none }
def FnExactQuadOkWrongFalsely : Prop := fnExactQuadOkRow.holds Try.pinned (OpenSpec.ofChange fnExactQuadOkWrong)

/-- 'laws.FnExactQuadCount': WHATEVER THE INPUT: true; the input reads as it did. -/
def fnExactQuadCountSpec : ChangeSpec := { name := "fnExactQuadCount", fn := fun _ => fun
  | [d] => { results := [.lit (.bool true)], args := [d] }
  | _ => none }
def fnExactQuadCountRow : OpenClaim := { program := "ytjbilidfnfnpfaa", sum := "32668d34ab72e840a8fa62f54a2a9a21f70d035b8731964b8059aa4d8c21ec86", func := "loop.example/g00225/laws.FnExactQuadCount", spec := "fnExactQuadCount", recurses := true, apart := false }
def FnExactQuadCountSaid : Prop := fnExactQuadCountRow.holds Try.pinned (OpenSpec.ofChange fnExactQuadCountSpec)

/-- ITS FALSE NEIGHBOUR: 'it returns false'. Refute it at one input. -/
def fnExactQuadCountWrong : ChangeSpec := { name := "fnExactQuadCount", fn := fun _ => fun
  | [d] => { results := [.lit (.bool false)], args := [d] }
  | _ => none }
def FnExactQuadCountWrongFalsely : Prop := fnExactQuadCountRow.holds Try.pinned (OpenSpec.ofChange fnExactQuadCountWrong)

/-- 'laws.FnExactQuadWindow': WHATEVER THE INPUT: true; the input reads as it did. -/
def fnExactQuadWindowSpec : ChangeSpec := { name := "fnExactQuadWindow", fn := fun _ => fun
  | [d1, d2, d3] => { results := [.lit (.bool true)], args := [d1, d2, d3] }
  | _ => none }
def fnExactQuadWindowRow : OpenClaim := { program := "ytjbilidfnfnpfaa", sum := "32668d34ab72e840a8fa62f54a2a9a21f70d035b8731964b8059aa4d8c21ec86", func := "loop.example/g00225/laws.FnExactQuadWindow", spec := "fnExactQuadWindow", recurses := true, apart := false }
def FnExactQuadWindowSaid : Prop := fnExactQuadWindowRow.holds Try.pinned (OpenSpec.ofChange fnExactQuadWindowSpec)

/-- ITS FALSE NEIGHBOUR: 'it returns false'. Refute it at one input. -/
def fnExactQuadWindowWrong : ChangeSpec := { name := "fnExactQuadWindow", fn := fun _ => fun
  | [d1, d2, d3] => { results := [.lit (.bool false)], args := [d1, d2, d3] }
  | _ => none }
def FnExactQuadWindowWrongFalsely : Prop := fnExactQuadWindowRow.holds Try.pinned (OpenSpec.ofChange fnExactQuadWindowWrong)

/-- 'laws.FnQuadLeaves': WHATEVER THE INPUT: true; the input reads as it did. -/
def fnQuadLeavesSpec : ChangeSpec := { name := "fnQuadLeaves", fn := fun _ => fun
  | [d] => { results := [.lit (.bool true)], args := [d] }
  | _ => none }
def fnQuadLeavesRow : OpenClaim := { program := "ytjbilidfnfnpfaa", sum := "32668d34ab72e840a8fa62f54a2a9a21f70d035b8731964b8059aa4d8c21ec86", func := "loop.example/g00225/laws.FnQuadLeaves", spec := "fnQuadLeaves", recurses := true, apart := false }
def FnQuadLeavesSaid : Prop := fnQuadLeavesRow.holds Try.pinned (OpenSpec.ofChange fnQuadLeavesSpec)

/-- ITS FALSE NEIGHBOUR: 'it returns false'. Refute it at one input. -/
def fnQuadLeavesWrong : ChangeSpec := { name := "fnQuadLeaves", fn := fun _ => fun
  | [d] => { results := [.lit (.bool false)], args := [d] }
  | _ => none }
def FnQuadLeavesWrongFalsely : Prop := fnQuadLeavesRow.holds Try.pinned (OpenSpec.ofChange fnQuadLeavesWrong)

/-- 'laws.FnExactQuadCut': WHATEVER THE INPUT: true; the input reads as it did. -/
def fnExactQuadCutSpec : ChangeSpec := { name := "fnExactQuadCut", fn := fun _ => fun
  | [d1, d2] => { results := [.lit (.bool true)], args := [d1, d2] }
  | _ => none }
def fnExactQuadCutRow : OpenClaim := { program := "ytjbilidfnfnpfaa", sum := "32668d34ab72e840a8fa62f54a2a9a21f70d035b8731964b8059aa4d8c21ec86", func := "loop.example/g00225/laws.FnExactQuadCut", spec := "fnExactQuadCut", unfollowed := true, recurses := true, apart := false }
def FnExactQuadCutSaid : Prop := fnExactQuadCutRow.holds Try.pinned (OpenSpec.ofChange fnExactQuadCutSpec)

/-- ITS FALSE NEIGHBOUR: 'it returns false'. Refute it at one input. -/
def fnExactQuadCutWrong : ChangeSpec := { name := "fnExactQuadCut", fn := fun _ => fun
  | [d1, d2] => { results := [.lit (.bool false)], args := [d1, d2] }
  | _ => none }
def FnExactQuadCutWrongFalsely : Prop := fnExactQuadCutRow.holds Try.pinned (OpenSpec.ofChange fnExactQuadCutWrong)

/-- 'laws.FnQuadKept': WHATEVER THE INPUT: true; the input reads as it did. -/
def fnQuadKeptSpec : ChangeSpec := { name := "fnQuadKept", fn := fun _ => fun
  | [d] => { results := [.lit (.bool true)], args := [d] }
  | _ => none }
def fnQuadKeptRow : OpenClaim := { program := "ytjbilidfnfnpfaa", sum := "32668d34ab72e840a8fa62f54a2a9a21f70d035b8731964b8059aa4d8c21ec86", func := "loop.example/g00225/laws.FnQuadKept", spec := "fnQuadKept", inPlace := ["slices.overlaps[loop.example/g00225/impl.Item]"], unfollowed := true, recurses := true, apart := false }
def FnQuadKeptSaid : Prop := fnQuadKeptRow.holds Try.pinned (OpenSpec.ofChange fnQuadKeptSpec)

/-- ITS FALSE NEIGHBOUR: 'it returns false'. Refute it at one input. -/
def fnQuadKeptWrong : ChangeSpec := { name := "fnQuadKept", fn := fun _ => fun
  | [d] => { results := [.lit (.bool false)], args := [d] }
  | _ => none }
def FnQuadKeptWrongFalsely : Prop := fnQuadKeptRow.holds Try.pinned (OpenSpec.ofChange fnQuadKeptWrong)

/-- 'laws.FnQuadWindows': WHATEVER THE INPUT: true; the input reads as it did. -/
def fnQuadWindowsSpec : ChangeSpec := { name := "fnQuadWindows", fn := fun _ => fun
  | [d] => { results := [.lit (.bool true)], args := [d] }
  | _ => none }
def fnQuadWindowsRow : OpenClaim := { program := "ytjbilidfnfnpfaa", sum := "32668d34ab72e840a8fa62f54a2a9a21f70d035b8731964b8059aa4d8c21ec86", func := "loop.example/g00225/laws.FnQuadWindows", spec := "fnQuadWindows", inPlace := ["slices.overlaps[loop.example/g00225/impl.Item]"], unfollowed := true, recurses := true, apart := false }
def FnQuadWindowsSaid : Prop := fnQuadWindowsRow.holds Try.pinned (OpenSpec.ofChange fnQuadWindowsSpec)

/-- ITS FALSE NEIGHBOUR: 'it returns false'. Refute it at one input. -/
def fnQuadWindowsWrong : ChangeSpec := { name := "fnQuadWindows", fn := fun _ => fun
  | [d] => { results := [.lit (.bool false)], args := [d] }
  | _ => none }
def FnQuadWindowsWrongFalsely : Prop := fnQuadWindowsRow.holds Try.pinned (OpenSpec.ofChange fnQuadWindowsWrong)

/-- 'laws.FnExactQuadPut': WHATEVER THE INPUT: true; the input reads as it did. -/
def fnExactQuadPutSpec : ChangeSpec := { name := "fnExactQuadPut", fn := fun _ => fun
  | [d1, d2, d3] => { results := [.lit (.bool true)], args := [d1, d2, d3] }
  | _ => none }
def fnExactQuadPutRow : OpenClaim := { program := "ytjbilidfnfnpfaa", sum := "32668d34ab72e840a8fa62f54a2a9a21f70d035b8731964b8059aa4d8c21ec86", func := "loop.example/g00225/laws.FnExactQuadPut", spec := "fnExactQuadPut", inPlace := ["slices.overlaps[loop.example/g00225/impl.Item]"], unfollowed := true, recurses := true, apart := false }
def FnExactQuadPutSaid : Prop := fnExactQuadPutRow.holds Try.pinned (OpenSpec.ofChange fnExactQuadPutSpec)

/-- ITS FALSE NEIGHBOUR: 'it returns false'. Refute it at one input. -/
def fnExactQuadPutWrong : ChangeSpec := { name := "fnExactQuadPut", fn := fun _ => fun
  | [d1, d2, d3] => { results := [.lit (.bool false)], args := [d1, d2, d3] }
  | _ => none }
def FnExactQuadPutWrongFalsely : Prop := fnExactQuadPutRow.holds Try.pinned (OpenSpec.ofChange fnExactQuadPutWrong)

/- THE SECOND FORM. 'bulk': how many values and letters a reading holds, each counted each time it is reached (what is shared counts as often as it is met; a slice's spare places count too). A statement '..UptoSaid' is the law's where the arguments, and the package variables that the reading takes, are together of bulk at most 1048576: NARROWER than '..Said'. Prove '..Said' where nothing that the law and all that it calls make is longer than what came in: it says more and counts as full. Else prove '..UptoSaid'. A law counts once. -/
mutual
def uptoBulk {H : Type} : DataW H → Nat
  | .lit (.string bytes) => bytes.length + 1
  | .lit _ => 1
  | .nil => 1
  | .ptr d => uptoBulk d + 1
  | .slice elems spare => uptoBulkAll elems + uptoBulkAll spare + 1
  | .agg parts => uptoBulkAll parts + 1
  | .iface _ d => uptoBulk d + 1
  | .map entries => uptoBulkEntries entries + 1
  | .held _ => 1
def uptoBulkAll {H : Type} : List (DataW H) → Nat
  | [] => 0
  | d :: r => uptoBulk d + uptoBulkAll r
def uptoBulkEntries {H : Type} : List (Lit × DataW H) → Nat
  | [] => 0
  | x :: r => uptoBulkEntry x + uptoBulkEntries r
def uptoBulkEntry {H : Type} : Lit × DataW H → Nat
  | (.string bytes, d) => bytes.length + uptoBulk d + 1
  | (_, d) => uptoBulk d + 1
 end
def uptoSmall : (H : Type) → List (DataW H) → Bool := fun _ ds => decide (uptoBulkAll ds ≤ 1048576)
def OpenSpec.upto (s : _root_.Go.ChangeSpec) : _root_.Go.OpenSpec := { _root_.Go.OpenSpec.ofChange s with cond := some uptoSmall }

/-- 'laws.FnExactWindowSegs', WHERE WHAT IT READS IS OF BULK AT MOST 1048576: true; the input reads as it did. -/
def fnExactWindowSegsUptoRow : OpenClaim := { program := "ytjbilidfnfnpfaa", sum := "32668d34ab72e840a8fa62f54a2a9a21f70d035b8731964b8059aa4d8c21ec86", func := "loop.example/g00225/laws.FnExactWindowSegs", spec := "fnExactWindowSegs", apart := false, narrowed := true }
def FnExactWindowSegsUptoSaid : Prop := fnExactWindowSegsUptoRow.holds Try.pinned (OpenSpec.upto fnExactWindowSegsSpec)

/-- 'laws.FnExactQuadNew', WHERE WHAT IT READS IS OF BULK AT MOST 1048576: true; the input reads as it did. -/
def fnExactQuadNewUptoRow : OpenClaim := { program := "ytjbilidfnfnpfaa", sum := "32668d34ab72e840a8fa62f54a2a9a21f70d035b8731964b8059aa4d8c21ec86", func := "loop.example/g00225/laws.FnExactQuadNew", spec := "fnExactQuadNew", apart := false, narrowed := true }
def FnExactQuadNewUptoSaid : Prop := fnExactQuadNewUptoRow.holds Try.pinned (OpenSpec.upto fnExactQuadNewSpec)

/-- 'laws.FnWindows', WHERE WHAT IT READS IS OF BULK AT MOST 1048576: true; the input reads as it did. -/
def fnWindowsUptoRow : OpenClaim := { program := "ytjbilidfnfnpfaa", sum := "32668d34ab72e840a8fa62f54a2a9a21f70d035b8731964b8059aa4d8c21ec86", func := "loop.example/g00225/laws.FnWindows", spec := "fnWindows", apart := false, narrowed := true }
def FnWindowsUptoSaid : Prop := fnWindowsUptoRow.holds Try.pinned (OpenSpec.upto fnWindowsSpec)

/-- 'laws.FnExactQuadOk', WHERE WHAT IT READS IS OF BULK AT MOST 1048576: true; the input reads as it did. -/
def fnExactQuadOkUptoRow : OpenClaim := { program := "ytjbilidfnfnpfaa", sum := "32668d34ab72e840a8fa62f54a2a9a21f70d035b8731964b8059aa4d8c21ec86", func := "loop.example/g00225/laws.FnExactQuadOk", spec := "fnExactQuadOk", recurses := true, apart := false, narrowed := true }
def FnExactQuadOkUptoSaid : Prop := fnExactQuadOkUptoRow.holds Try.pinned (OpenSpec.upto fnExactQuadOkSpec)

/-- 'laws.FnExactQuadCount', WHERE WHAT IT READS IS OF BULK AT MOST 1048576: true; the input reads as it did. -/
def fnExactQuadCountUptoRow : OpenClaim := { program := "ytjbilidfnfnpfaa", sum := "32668d34ab72e840a8fa62f54a2a9a21f70d035b8731964b8059aa4d8c21ec86", func := "loop.example/g00225/laws.FnExactQuadCount", spec := "fnExactQuadCount", recurses := true, apart := false, narrowed := true }
def FnExactQuadCountUptoSaid : Prop := fnExactQuadCountUptoRow.holds Try.pinned (OpenSpec.upto fnExactQuadCountSpec)

/-- 'laws.FnExactQuadWindow', WHERE WHAT IT READS IS OF BULK AT MOST 1048576: true; the input reads as it did. -/
def fnExactQuadWindowUptoRow : OpenClaim := { program := "ytjbilidfnfnpfaa", sum := "32668d34ab72e840a8fa62f54a2a9a21f70d035b8731964b8059aa4d8c21ec86", func := "loop.example/g00225/laws.FnExactQuadWindow", spec := "fnExactQuadWindow", recurses := true, apart := false, narrowed := true }
def FnExactQuadWindowUptoSaid : Prop := fnExactQuadWindowUptoRow.holds Try.pinned (OpenSpec.upto fnExactQuadWindowSpec)

/-- 'laws.FnQuadLeaves', WHERE WHAT IT READS IS OF BULK AT MOST 1048576: true; the input reads as it did. -/
def fnQuadLeavesUptoRow : OpenClaim := { program := "ytjbilidfnfnpfaa", sum := "32668d34ab72e840a8fa62f54a2a9a21f70d035b8731964b8059aa4d8c21ec86", func := "loop.example/g00225/laws.FnQuadLeaves", spec := "fnQuadLeaves", recurses := true, apart := false, narrowed := true }
def FnQuadLeavesUptoSaid : Prop := fnQuadLeavesUptoRow.holds Try.pinned (OpenSpec.upto fnQuadLeavesSpec)

/-- 'laws.FnExactQuadCut', WHERE WHAT IT READS IS OF BULK AT MOST 1048576: true; the input reads as it did. -/
def fnExactQuadCutUptoRow : OpenClaim := { program := "ytjbilidfnfnpfaa", sum := "32668d34ab72e840a8fa62f54a2a9a21f70d035b8731964b8059aa4d8c21ec86", func := "loop.example/g00225/laws.FnExactQuadCut", spec := "fnExactQuadCut", unfollowed := true, recurses := true, apart := false, narrowed := true }
def FnExactQuadCutUptoSaid : Prop := fnExactQuadCutUptoRow.holds Try.pinned (OpenSpec.upto fnExactQuadCutSpec)

/-- 'laws.FnQuadKept', WHERE WHAT IT READS IS OF BULK AT MOST 1048576: true; the input reads as it did. -/
def fnQuadKeptUptoRow : OpenClaim := { program := "ytjbilidfnfnpfaa", sum := "32668d34ab72e840a8fa62f54a2a9a21f70d035b8731964b8059aa4d8c21ec86", func := "loop.example/g00225/laws.FnQuadKept", spec := "fnQuadKept", inPlace := ["slices.overlaps[loop.example/g00225/impl.Item]"], unfollowed := true, recurses := true, apart := false, narrowed := true }
def FnQuadKeptUptoSaid : Prop := fnQuadKeptUptoRow.holds Try.pinned (OpenSpec.upto fnQuadKeptSpec)

/-- 'laws.FnQuadWindows', WHERE WHAT IT READS IS OF BULK AT MOST 1048576: true; the input reads as it did. -/
def fnQuadWindowsUptoRow : OpenClaim := { program := "ytjbilidfnfnpfaa", sum := "32668d34ab72e840a8fa62f54a2a9a21f70d035b8731964b8059aa4d8c21ec86", func := "loop.example/g00225/laws.FnQuadWindows", spec := "fnQuadWindows", inPlace := ["slices.overlaps[loop.example/g00225/impl.Item]"], unfollowed := true, recurses := true, apart := false, narrowed := true }
def FnQuadWindowsUptoSaid : Prop := fnQuadWindowsUptoRow.holds Try.pinned (OpenSpec.upto fnQuadWindowsSpec)

/-- 'laws.FnExactQuadPut', WHERE WHAT IT READS IS OF BULK AT MOST 1048576: true; the input reads as it did. -/
def fnExactQuadPutUptoRow : OpenClaim := { program := "ytjbilidfnfnpfaa", sum := "32668d34ab72e840a8fa62f54a2a9a21f70d035b8731964b8059aa4d8c21ec86", func := "loop.example/g00225/laws.FnExactQuadPut", spec := "fnExactQuadPut", inPlace := ["slices.overlaps[loop.example/g00225/impl.Item]"], unfollowed := true, recurses := true, apart := false, narrowed := true }
def FnExactQuadPutUptoSaid : Prop := fnExactQuadPutUptoRow.holds Try.pinned (OpenSpec.upto fnExactQuadPutSpec)

end Rows
end Go.Proofs.Ytjbilidfnfnpfaa
