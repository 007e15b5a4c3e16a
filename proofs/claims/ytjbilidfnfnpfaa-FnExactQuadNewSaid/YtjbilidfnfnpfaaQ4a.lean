/-
  What is known of a tree's own functions, that call themselves, to a depth.
-/
import Derived.Test.YtjbilidfnfnpfaaQ3
namespace Go.Proofs.Ytjbilidfnfnpfaa.R
open Go
noncomputable section
set_option linter.unusedVariables false
set_option linter.unusedSimpArgs false
def ckKids (f : Int → Bk → Int) : List Bk → Int → Int
  | [], at' => at'
  | b :: bs, at' => bif decide (f at' b < 0) then -1 else ckKids f bs (f at' b)
/-- The place behind a block and all that is in it; -1 if something is not as told. -/
def checkV : Nat → Qd → Int → Bk → Int → Int
  | 0, _, _, _, _ => -1
  | D + 1, q, at', due, deep =>
    bif decide (at' ≥ (q.blocks.length : Int)) then -1 else
    bif (q.blocks.getD at'.toNat .zero).x != due.x || (q.blocks.getD at'.toNat .zero).y != due.y || (q.blocks.getD at'.toNat .zero).size != due.size then -1 else
    bif !(q.blocks.getD at'.toNat .zero).split then (bif sameV (q.blocks.getD at'.toNat .zero).ids due.ids then at' + 1 else -1) else
    bif decide (((q.blocks.getD at'.toNat .zero).ids.length : Int) > 0) || deep == q.deep then -1 else
    ckKids (fun a b => checkV D q a b (deep + 1)) (kidsV q due) (at' + 1)
def checkOk (D : Nat) (q : Qd) (at' : Int) (deep : Int) : Bool := allShortV q.blocks && decide (0 ≤ at') && decide (0 ≤ deep) && decide (deep ≤ q.deep) && decide (q.deep ≤ 8) && decide (q.deep < deep + D)
def preCk (D : Nat) : List F → Bool | [q, .int .i64 a, due, .int .i64 deep] => isQd q && fewV (unQd q) && isBk due && checkOk D (unQd q) a deep | _ => false
def resCk (D : Nat) : List F → F | [q, .int .i64 a, due, .int .i64 deep] => .int .i64 (checkV D (unQd q) a (unBk due) deep) | _ => .dflt
def envCk (D : Nat) : Env := envQ3.add 76 (.pure (preCk D) (resCk D))
/-- The block at a place, the place behind it, and whether there is one. -/
def rdKids (f : Int → Int → Tr × Int × Bool) : List Int → Int → Option (List Tr × Int)
  | [], at' => some ([], at')
  | k :: ks, at' => bif (f at' k).2.2 then (match rdKids f ks (f at' k).2.1 with | some (ts, p) => some ((f at' k).1 :: ts, p) | none => none) else none
def readV : Nat → List Bk → Int → Int → Int → Int → Int → Tr × Int × Bool
  | 0, _, _, _, _, _, _ => (.zero, 0, false)
  | D + 1, l, at', x, y, sz, deep =>
    bif decide (at' ≥ (l.length : Int)) then (.zero, 0, false) else
    bif (l.getD at'.toNat .zero).x != x || (l.getD at'.toNat .zero).y != y || (l.getD at'.toNat .zero).size != sz || ((l.getD at'.toNat .zero).split && (decide (deep < 1) || decide (((l.getD at'.toNat .zero).ids.length : Int) > 0))) then (.zero, 0, false) else
    bif !(l.getD at'.toNat .zero).split then (.leaf x y sz (l.getD at'.toNat .zero).ids, at' + 1, true) else
    match rdKids (fun a k => readV D l a (IntKind.i64.wrap (x + IntKind.i64.wrap ((k.tmod 2) * halfV sz))) (IntKind.i64.wrap (y + IntKind.i64.wrap (IntKind.i64.wrap (k.tdiv 2) * halfV sz))) (halfV sz) (deep - 1)) [0, 1, 2, 3] (at' + 1) with
    | some ([a, b, c, d], p) => (.node x y sz a b c d, p, true)
    | _ => (.zero, 0, false)
def readOk (D : Nat) (l : List Bk) (at' deep : Int) : Bool := allShortV l && decide (0 ≤ at') && decide (0 ≤ deep) && decide (deep < D) && decide (deep ≤ 8)
def preRd (D : Nat) : List F → Bool | [l, .int .i64 a, .int .i64 _, .int .i64 _, .int .i64 _, .int .i64 deep] => isBlocks l && readOk D (unBlocks l) a deep | _ => false
def resRd (D : Nat) : List F → F | [l, .int .i64 a, .int .i64 x, .int .i64 y, .int .i64 sz, .int .i64 deep] => .tup [trF (readV D (unBlocks l) a x y sz deep).1, .int .i64 (readV D (unBlocks l) a x y sz deep).2.1, .bool (readV D (unBlocks l) a x y sz deep).2.2] | _ => .dflt
def envRd (D : Nat) : Env := envQ3.add 114 (.pure (preRd D) (resRd D))
def trDepth : Tr → Nat
  | .leaf _ _ _ _ => 0
  | .node _ _ _ a b c d => max (max (trDepth a) (trDepth b)) (max (trDepth c) (trDepth d)) + 1
/-- Has each leaf just those that meet it? -/
def rightV (l : List It) : Tr → Bool
  | .leaf x y s ids => ids == metFrom l x y s 0
  | .node _ _ _ a b c d => rightV l a && rightV l b && rightV l c && rightV l d
def rightOk (D : Nat) (t : Tr) (l : List It) : Bool := decide (l.length ≤ 40) && decide (trDepth t < D)
def preRt (D : Nat) : List F → Bool | [t, l] => isTr t && isItems l && rightOk D (unTr t) (unItems l) | _ => false
def resRt : List F → F | [t, l] => .bool (rightV (unItems l) (unTr t)) | _ => .dflt
def envRt (D : Nat) : Env := envQ3.add 115 (.pure (preRt D) resRt)
end
end Go.Proofs.Ytjbilidfnfnpfaa.R
