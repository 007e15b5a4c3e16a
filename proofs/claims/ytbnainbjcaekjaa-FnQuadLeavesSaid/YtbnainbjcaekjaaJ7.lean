/-
  The own walk and what it shows, part 7 of 8.
-/
import Derived.Test.YtbnainbjcaekjaaJ1
import Derived.Test.YtbnainbjcaekjaaJ2
import Derived.Test.YtbnainbjcaekjaaJ3
import Derived.Test.YtbnainbjcaekjaaJ4
import Derived.Test.YtbnainbjcaekjaaJ5
import Derived.Test.YtbnainbjcaekjaaJ6
set_option linter.unusedVariables false
set_option linter.unusedSimpArgs false
set_option maxRecDepth 100000
set_option exponentiation.threshold 30000
namespace Go.Proofs.Ytbnainbjcaekjaa.R
open Go
noncomputable section
/-! ### function 40 -/
def S40n_14z0 (x : Int) (y : Int) (s : Int) (a : Tr) (b : Tr) (c : Tr) (d : Tr) (id : Int) (most : Int) (kg : Nat → F) (lvb : Bool) (ag : Nat → F) : St := ⟨[.bad, (U.f (F.int .i64 id)), (U.f (F.int .i64 most)), (U.hp 0 0), .bad, .bad, (U.hp 1 0), .bad, .bad, (U.hs 2 0 0 0), (U.hs 3 0 0 0), (U.f (F.bool lvb)), (U.f (F.int .i64 0)), .bad, .bad, .bad, .bad, .bad, .bad, .bad, .bad, .bad, .bad, .bad, .bad, .bad, .bad, .bad, .bad, .bad, .bad, .bad, .bad, .bad, .bad, .bad, .bad, .bad, .bad, .bad, .bad, .bad, .bad, .bad, .bad, .bad, .bad, .bad, .bad, .bad, .bad, .bad, .bad, .bad, .bad, .bad, .bad, .bad, .bad, .bad, .bad, .bad, .bad, .bad, .bad, .bad, .bad, .bad, .bad, .bad, .bad, .bad, .bad, .bad, .bad, .bad, .bad, .bad, .bad, .bad, .bad, .bad, .bad, .bad, .bad, .bad, .bad, .bad, .bad, .bad, .bad, .bad, .bad, .bad, .bad, .bad, .bad, .bad], [HO.box [(U.f (F.int .i64 x)), (U.f (F.int .i64 y)), (U.f (F.int .i64 s)), (U.f (F.sl 4 (kidL (Tr.node x y s a b c d)))), (U.f (intsF []))], HO.box [(U.f (F.int .i64 0)), (U.f (F.int .i64 0)), (U.f (F.int .i64 0)), U.nils, U.nils], HO.arr 5 0 kg, HO.arr 1 0 ag]⟩
def S40n_14d0 (x : Int) (y : Int) (s : Int) (a : Tr) (b : Tr) (c : Tr) (d : Tr) (id : Int) (most : Int) (kg : Nat → F) (lvb : Bool) (al : List Int) : St := ⟨[.bad, (U.f (F.int .i64 id)), (U.f (F.int .i64 most)), (U.hp 0 0), .bad, .bad, (U.hp 1 0), .bad, .bad, (U.hs 2 0 0 0), (U.f (intsF al)), (U.f (F.bool lvb)), (U.f (F.int .i64 0)), .bad, .bad, .bad, .bad, .bad, .bad, .bad, .bad, .bad, .bad, .bad, .bad, .bad, .bad, .bad, .bad, .bad, .bad, .bad, .bad, .bad, .bad, .bad, .bad, .bad, .bad, .bad, .bad, .bad, .bad, .bad, .bad, .bad, .bad, .bad, .bad, .bad, .bad, .bad, .bad, .bad, .bad, .bad, .bad, .bad, .bad, .bad, .bad, .bad, .bad, .bad, .bad, .bad, .bad, .bad, .bad, .bad, .bad, .bad, .bad, .bad, .bad, .bad, .bad, .bad, .bad, .bad, .bad, .bad, .bad, .bad, .bad, .bad, .bad, .bad, .bad, .bad, .bad, .bad, .bad, .bad, .bad, .bad, .bad, .bad], [HO.box [(U.f (F.int .i64 x)), (U.f (F.int .i64 y)), (U.f (F.int .i64 s)), (U.f (F.sl 4 (kidL (Tr.node x y s a b c d)))), (U.f (intsF []))], HO.box [(U.f (F.int .i64 0)), (U.f (F.int .i64 0)), (U.f (F.int .i64 0)), U.nils, U.nils], HO.arr 5 0 kg]⟩
def S40n_14z1 (x : Int) (y : Int) (s : Int) (a : Tr) (b : Tr) (c : Tr) (d : Tr) (id : Int) (most : Int) (kg : Nat → F) (lvb : Bool) (ag : Nat → F) : St := ⟨[.bad, (U.f (F.int .i64 id)), (U.f (F.int .i64 most)), (U.hp 0 0), .bad, .bad, (U.hp 1 0), .bad, .bad, (U.hs 2 1 0 1), (U.hs 3 0 0 0), (U.f (F.bool lvb)), (U.f (F.int .i64 1)), .bad, .bad, .bad, .bad, .bad, .bad, .bad, .bad, .bad, .bad, .bad, .bad, .bad, .bad, .bad, .bad, .bad, .bad, .bad, .bad, .bad, .bad, .bad, .bad, .bad, .bad, .bad, .bad, .bad, .bad, .bad, .bad, .bad, .bad, .bad, .bad, .bad, .bad, .bad, .bad, .bad, .bad, .bad, .bad, .bad, .bad, .bad, .bad, .bad, .bad, .bad, .bad, .bad, .bad, .bad, .bad, .bad, .bad, .bad, .bad, .bad, .bad, .bad, .bad, .bad, .bad, .bad, .bad, .bad, .bad, .bad, .bad, .bad, .bad, .bad, .bad, .bad, .bad, .bad, .bad, .bad, .bad, .bad, .bad, .bad], [HO.box [(U.f (F.int .i64 x)), (U.f (F.int .i64 y)), (U.f (F.int .i64 s)), (U.f (F.sl 4 (kidL (Tr.node x y s a b c d)))), (U.f (intsF []))], HO.box [(U.f (F.int .i64 0)), (U.f (F.int .i64 0)), (U.f (F.int .i64 0)), U.nils, U.nils], HO.arr 5 1 kg, HO.arr 1 0 ag]⟩
def S40n_14d1 (x : Int) (y : Int) (s : Int) (a : Tr) (b : Tr) (c : Tr) (d : Tr) (id : Int) (most : Int) (kg : Nat → F) (lvb : Bool) (al : List Int) : St := ⟨[.bad, (U.f (F.int .i64 id)), (U.f (F.int .i64 most)), (U.hp 0 0), .bad, .bad, (U.hp 1 0), .bad, .bad, (U.hs 2 1 0 1), (U.f (intsF al)), (U.f (F.bool lvb)), (U.f (F.int .i64 1)), .bad, .bad, .bad, .bad, .bad, .bad, .bad, .bad, .bad, .bad, .bad, .bad, .bad, .bad, .bad, .bad, .bad, .bad, .bad, .bad, .bad, .bad, .bad, .bad, .bad, .bad, .bad, .bad, .bad, .bad, .bad, .bad, .bad, .bad, .bad, .bad, .bad, .bad, .bad, .bad, .bad, .bad, .bad, .bad, .bad, .bad, .bad, .bad, .bad, .bad, .bad, .bad, .bad, .bad, .bad, .bad, .bad, .bad, .bad, .bad, .bad, .bad, .bad, .bad, .bad, .bad, .bad, .bad, .bad, .bad, .bad, .bad, .bad, .bad, .bad, .bad, .bad, .bad, .bad, .bad, .bad, .bad, .bad, .bad, .bad], [HO.box [(U.f (F.int .i64 x)), (U.f (F.int .i64 y)), (U.f (F.int .i64 s)), (U.f (F.sl 4 (kidL (Tr.node x y s a b c d)))), (U.f (intsF []))], HO.box [(U.f (F.int .i64 0)), (U.f (F.int .i64 0)), (U.f (F.int .i64 0)), U.nils, U.nils], HO.arr 5 1 kg]⟩
def S40n_14z2 (x : Int) (y : Int) (s : Int) (a : Tr) (b : Tr) (c : Tr) (d : Tr) (id : Int) (most : Int) (kg : Nat → F) (lvb : Bool) (ag : Nat → F) : St := ⟨[.bad, (U.f (F.int .i64 id)), (U.f (F.int .i64 most)), (U.hp 0 0), .bad, .bad, (U.hp 1 0), .bad, .bad, (U.hs 2 2 0 2), (U.hs 3 0 0 0), (U.f (F.bool lvb)), (U.f (F.int .i64 2)), .bad, .bad, .bad, .bad, .bad, .bad, .bad, .bad, .bad, .bad, .bad, .bad, .bad, .bad, .bad, .bad, .bad, .bad, .bad, .bad, .bad, .bad, .bad, .bad, .bad, .bad, .bad, .bad, .bad, .bad, .bad, .bad, .bad, .bad, .bad, .bad, .bad, .bad, .bad, .bad, .bad, .bad, .bad, .bad, .bad, .bad, .bad, .bad, .bad, .bad, .bad, .bad, .bad, .bad, .bad, .bad, .bad, .bad, .bad, .bad, .bad, .bad, .bad, .bad, .bad, .bad, .bad, .bad, .bad, .bad, .bad, .bad, .bad, .bad, .bad, .bad, .bad, .bad, .bad, .bad, .bad, .bad, .bad, .bad, .bad], [HO.box [(U.f (F.int .i64 x)), (U.f (F.int .i64 y)), (U.f (F.int .i64 s)), (U.f (F.sl 4 (kidL (Tr.node x y s a b c d)))), (U.f (intsF []))], HO.box [(U.f (F.int .i64 0)), (U.f (F.int .i64 0)), (U.f (F.int .i64 0)), U.nils, U.nils], HO.arr 5 2 kg, HO.arr 1 0 ag]⟩
def S40n_14d2 (x : Int) (y : Int) (s : Int) (a : Tr) (b : Tr) (c : Tr) (d : Tr) (id : Int) (most : Int) (kg : Nat → F) (lvb : Bool) (al : List Int) : St := ⟨[.bad, (U.f (F.int .i64 id)), (U.f (F.int .i64 most)), (U.hp 0 0), .bad, .bad, (U.hp 1 0), .bad, .bad, (U.hs 2 2 0 2), (U.f (intsF al)), (U.f (F.bool lvb)), (U.f (F.int .i64 2)), .bad, .bad, .bad, .bad, .bad, .bad, .bad, .bad, .bad, .bad, .bad, .bad, .bad, .bad, .bad, .bad, .bad, .bad, .bad, .bad, .bad, .bad, .bad, .bad, .bad, .bad, .bad, .bad, .bad, .bad, .bad, .bad, .bad, .bad, .bad, .bad, .bad, .bad, .bad, .bad, .bad, .bad, .bad, .bad, .bad, .bad, .bad, .bad, .bad, .bad, .bad, .bad, .bad, .bad, .bad, .bad, .bad, .bad, .bad, .bad, .bad, .bad, .bad, .bad, .bad, .bad, .bad, .bad, .bad, .bad, .bad, .bad, .bad, .bad, .bad, .bad, .bad, .bad, .bad, .bad, .bad, .bad, .bad, .bad, .bad], [HO.box [(U.f (F.int .i64 x)), (U.f (F.int .i64 y)), (U.f (F.int .i64 s)), (U.f (F.sl 4 (kidL (Tr.node x y s a b c d)))), (U.f (intsF []))], HO.box [(U.f (F.int .i64 0)), (U.f (F.int .i64 0)), (U.f (F.int .i64 0)), U.nils, U.nils], HO.arr 5 2 kg]⟩
def S40n_14z3 (x : Int) (y : Int) (s : Int) (a : Tr) (b : Tr) (c : Tr) (d : Tr) (id : Int) (most : Int) (kg : Nat → F) (lvb : Bool) (ag : Nat → F) : St := ⟨[.bad, (U.f (F.int .i64 id)), (U.f (F.int .i64 most)), (U.hp 0 0), .bad, .bad, (U.hp 1 0), .bad, .bad, (U.hs 2 3 0 3), (U.hs 3 0 0 0), (U.f (F.bool lvb)), (U.f (F.int .i64 3)), .bad, .bad, .bad, .bad, .bad, .bad, .bad, .bad, .bad, .bad, .bad, .bad, .bad, .bad, .bad, .bad, .bad, .bad, .bad, .bad, .bad, .bad, .bad, .bad, .bad, .bad, .bad, .bad, .bad, .bad, .bad, .bad, .bad, .bad, .bad, .bad, .bad, .bad, .bad, .bad, .bad, .bad, .bad, .bad, .bad, .bad, .bad, .bad, .bad, .bad, .bad, .bad, .bad, .bad, .bad, .bad, .bad, .bad, .bad, .bad, .bad, .bad, .bad, .bad, .bad, .bad, .bad, .bad, .bad, .bad, .bad, .bad, .bad, .bad, .bad, .bad, .bad, .bad, .bad, .bad, .bad, .bad, .bad, .bad, .bad], [HO.box [(U.f (F.int .i64 x)), (U.f (F.int .i64 y)), (U.f (F.int .i64 s)), (U.f (F.sl 4 (kidL (Tr.node x y s a b c d)))), (U.f (intsF []))], HO.box [(U.f (F.int .i64 0)), (U.f (F.int .i64 0)), (U.f (F.int .i64 0)), U.nils, U.nils], HO.arr 5 3 kg, HO.arr 1 0 ag]⟩
def S40n_14d3 (x : Int) (y : Int) (s : Int) (a : Tr) (b : Tr) (c : Tr) (d : Tr) (id : Int) (most : Int) (kg : Nat → F) (lvb : Bool) (al : List Int) : St := ⟨[.bad, (U.f (F.int .i64 id)), (U.f (F.int .i64 most)), (U.hp 0 0), .bad, .bad, (U.hp 1 0), .bad, .bad, (U.hs 2 3 0 3), (U.f (intsF al)), (U.f (F.bool lvb)), (U.f (F.int .i64 3)), .bad, .bad, .bad, .bad, .bad, .bad, .bad, .bad, .bad, .bad, .bad, .bad, .bad, .bad, .bad, .bad, .bad, .bad, .bad, .bad, .bad, .bad, .bad, .bad, .bad, .bad, .bad, .bad, .bad, .bad, .bad, .bad, .bad, .bad, .bad, .bad, .bad, .bad, .bad, .bad, .bad, .bad, .bad, .bad, .bad, .bad, .bad, .bad, .bad, .bad, .bad, .bad, .bad, .bad, .bad, .bad, .bad, .bad, .bad, .bad, .bad, .bad, .bad, .bad, .bad, .bad, .bad, .bad, .bad, .bad, .bad, .bad, .bad, .bad, .bad, .bad, .bad, .bad, .bad, .bad, .bad, .bad, .bad, .bad, .bad], [HO.box [(U.f (F.int .i64 x)), (U.f (F.int .i64 y)), (U.f (F.int .i64 s)), (U.f (F.sl 4 (kidL (Tr.node x y s a b c d)))), (U.f (intsF []))], HO.box [(U.f (F.int .i64 0)), (U.f (F.int .i64 0)), (U.f (F.int .i64 0)), U.nils, U.nils], HO.arr 5 3 kg]⟩
def S40n_14z4 (x : Int) (y : Int) (s : Int) (a : Tr) (b : Tr) (c : Tr) (d : Tr) (id : Int) (most : Int) (kg : Nat → F) (lvb : Bool) (ag : Nat → F) : St := ⟨[.bad, (U.f (F.int .i64 id)), (U.f (F.int .i64 most)), (U.hp 0 0), .bad, .bad, (U.hp 1 0), .bad, .bad, (U.hs 2 4 0 4), (U.hs 3 0 0 0), (U.f (F.bool lvb)), (U.f (F.int .i64 4)), .bad, .bad, .bad, .bad, .bad, .bad, .bad, .bad, .bad, .bad, .bad, .bad, .bad, .bad, .bad, .bad, .bad, .bad, .bad, .bad, .bad, .bad, .bad, .bad, .bad, .bad, .bad, .bad, .bad, .bad, .bad, .bad, .bad, .bad, .bad, .bad, .bad, .bad, .bad, .bad, .bad, .bad, .bad, .bad, .bad, .bad, .bad, .bad, .bad, .bad, .bad, .bad, .bad, .bad, .bad, .bad, .bad, .bad, .bad, .bad, .bad, .bad, .bad, .bad, .bad, .bad, .bad, .bad, .bad, .bad, .bad, .bad, .bad, .bad, .bad, .bad, .bad, .bad, .bad, .bad, .bad, .bad, .bad, .bad, .bad], [HO.box [(U.f (F.int .i64 x)), (U.f (F.int .i64 y)), (U.f (F.int .i64 s)), (U.f (F.sl 4 (kidL (Tr.node x y s a b c d)))), (U.f (intsF []))], HO.box [(U.f (F.int .i64 0)), (U.f (F.int .i64 0)), (U.f (F.int .i64 0)), U.nils, U.nils], HO.arr 5 4 kg, HO.arr 1 0 ag]⟩
def S40n_14d4 (x : Int) (y : Int) (s : Int) (a : Tr) (b : Tr) (c : Tr) (d : Tr) (id : Int) (most : Int) (kg : Nat → F) (lvb : Bool) (al : List Int) : St := ⟨[.bad, (U.f (F.int .i64 id)), (U.f (F.int .i64 most)), (U.hp 0 0), .bad, .bad, (U.hp 1 0), .bad, .bad, (U.hs 2 4 0 4), (U.f (intsF al)), (U.f (F.bool lvb)), (U.f (F.int .i64 4)), .bad, .bad, .bad, .bad, .bad, .bad, .bad, .bad, .bad, .bad, .bad, .bad, .bad, .bad, .bad, .bad, .bad, .bad, .bad, .bad, .bad, .bad, .bad, .bad, .bad, .bad, .bad, .bad, .bad, .bad, .bad, .bad, .bad, .bad, .bad, .bad, .bad, .bad, .bad, .bad, .bad, .bad, .bad, .bad, .bad, .bad, .bad, .bad, .bad, .bad, .bad, .bad, .bad, .bad, .bad, .bad, .bad, .bad, .bad, .bad, .bad, .bad, .bad, .bad, .bad, .bad, .bad, .bad, .bad, .bad, .bad, .bad, .bad, .bad, .bad, .bad, .bad, .bad, .bad, .bad, .bad, .bad, .bad, .bad, .bad], [HO.box [(U.f (F.int .i64 x)), (U.f (F.int .i64 y)), (U.f (F.int .i64 s)), (U.f (F.sl 4 (kidL (Tr.node x y s a b c d)))), (U.f (intsF []))], HO.box [(U.f (F.int .i64 0)), (U.f (F.int .i64 0)), (U.f (F.int .i64 0)), U.nils, U.nils], HO.arr 5 4 kg]⟩
def S40n_20z0 (x : Int) (y : Int) (s : Int) (a : Tr) (b : Tr) (c : Tr) (d : Tr) (id : Int) (most : Int) (kg : Nat → F) (lvb : Bool) (ag : Nat → F) (kt : Tr) (i : Int) : St := ⟨[.bad, (U.f (F.int .i64 id)), (U.f (F.int .i64 most)), (U.hp 0 0), .bad, .bad, (U.hp 1 0), .bad, .bad, (U.hs 2 1 0 1), (U.hs 3 0 0 0), (U.f (F.bool lvb)), (U.f (F.int .i64 0)), (U.hp 4 0), (U.f (F.int .i64 i)), .bad, .bad, .bad, .bad, .bad, .bad, .bad, .bad, .bad, .bad, .bad, .bad, .bad, .bad, .bad, .bad, .bad, .bad, .bad, .bad, .bad, .bad, .bad, .bad, .bad, .bad, .bad, .bad, .bad, .bad, .bad, .bad, .bad, .bad, .bad, .bad, .bad, .bad, .bad, .bad, .bad, .bad, .bad, .bad, .bad, .bad, .bad, .bad, .bad, .bad, .bad, .bad, .bad, .bad, .bad, .bad, .bad, .bad, .bad, .bad, .bad, .bad, .bad, .bad, .bad, .bad, .bad, .bad, .bad, .bad, .bad, .bad, .bad, .bad, .bad, .bad, .bad, .bad, .bad, .bad, .bad, .bad, .bad], [HO.box [(U.f (F.int .i64 x)), (U.f (F.int .i64 y)), (U.f (F.int .i64 s)), (U.f (F.sl 4 (kidL (Tr.node x y s a b c d)))), (U.f (intsF []))], HO.box [(U.f (F.int .i64 0)), (U.f (F.int .i64 0)), (U.f (F.int .i64 0)), U.nils, U.nils], HO.arr 5 1 kg, HO.arr 1 0 ag, HO.box [(U.f (F.int .i64 kt.x)), (U.f (F.int .i64 kt.y)), (U.f (F.int .i64 kt.size)), (U.f (F.sl kt.kn (kidL kt))), (U.f (intsF kt.ids))]]⟩
def S40n_20d0 (x : Int) (y : Int) (s : Int) (a : Tr) (b : Tr) (c : Tr) (d : Tr) (id : Int) (most : Int) (kg : Nat → F) (lvb : Bool) (al : List Int) (kt : Tr) (i : Int) : St := ⟨[.bad, (U.f (F.int .i64 id)), (U.f (F.int .i64 most)), (U.hp 0 0), .bad, .bad, (U.hp 1 0), .bad, .bad, (U.hs 2 1 0 1), (U.f (intsF al)), (U.f (F.bool lvb)), (U.f (F.int .i64 0)), (U.hp 3 0), (U.f (F.int .i64 i)), .bad, .bad, .bad, .bad, .bad, .bad, .bad, .bad, .bad, .bad, .bad, .bad, .bad, .bad, .bad, .bad, .bad, .bad, .bad, .bad, .bad, .bad, .bad, .bad, .bad, .bad, .bad, .bad, .bad, .bad, .bad, .bad, .bad, .bad, .bad, .bad, .bad, .bad, .bad, .bad, .bad, .bad, .bad, .bad, .bad, .bad, .bad, .bad, .bad, .bad, .bad, .bad, .bad, .bad, .bad, .bad, .bad, .bad, .bad, .bad, .bad, .bad, .bad, .bad, .bad, .bad, .bad, .bad, .bad, .bad, .bad, .bad, .bad, .bad, .bad, .bad, .bad, .bad, .bad, .bad, .bad, .bad, .bad], [HO.box [(U.f (F.int .i64 x)), (U.f (F.int .i64 y)), (U.f (F.int .i64 s)), (U.f (F.sl 4 (kidL (Tr.node x y s a b c d)))), (U.f (intsF []))], HO.box [(U.f (F.int .i64 0)), (U.f (F.int .i64 0)), (U.f (F.int .i64 0)), U.nils, U.nils], HO.arr 5 1 kg, HO.box [(U.f (F.int .i64 kt.x)), (U.f (F.int .i64 kt.y)), (U.f (F.int .i64 kt.size)), (U.f (F.sl kt.kn (kidL kt))), (U.f (intsF kt.ids))]]⟩
def S40n_20z1 (x : Int) (y : Int) (s : Int) (a : Tr) (b : Tr) (c : Tr) (d : Tr) (id : Int) (most : Int) (kg : Nat → F) (lvb : Bool) (ag : Nat → F) (kt : Tr) (i : Int) : St := ⟨[.bad, (U.f (F.int .i64 id)), (U.f (F.int .i64 most)), (U.hp 0 0), .bad, .bad, (U.hp 1 0), .bad, .bad, (U.hs 2 2 0 2), (U.hs 3 0 0 0), (U.f (F.bool lvb)), (U.f (F.int .i64 1)), (U.hp 4 0), (U.f (F.int .i64 i)), .bad, .bad, .bad, .bad, .bad, .bad, .bad, .bad, .bad, .bad, .bad, .bad, .bad, .bad, .bad, .bad, .bad, .bad, .bad, .bad, .bad, .bad, .bad, .bad, .bad, .bad, .bad, .bad, .bad, .bad, .bad, .bad, .bad, .bad, .bad, .bad, .bad, .bad, .bad, .bad, .bad, .bad, .bad, .bad, .bad, .bad, .bad, .bad, .bad, .bad, .bad, .bad, .bad, .bad, .bad, .bad, .bad, .bad, .bad, .bad, .bad, .bad, .bad, .bad, .bad, .bad, .bad, .bad, .bad, .bad, .bad, .bad, .bad, .bad, .bad, .bad, .bad, .bad, .bad, .bad, .bad, .bad, .bad], [HO.box [(U.f (F.int .i64 x)), (U.f (F.int .i64 y)), (U.f (F.int .i64 s)), (U.f (F.sl 4 (kidL (Tr.node x y s a b c d)))), (U.f (intsF []))], HO.box [(U.f (F.int .i64 0)), (U.f (F.int .i64 0)), (U.f (F.int .i64 0)), U.nils, U.nils], HO.arr 5 2 kg, HO.arr 1 0 ag, HO.box [(U.f (F.int .i64 kt.x)), (U.f (F.int .i64 kt.y)), (U.f (F.int .i64 kt.size)), (U.f (F.sl kt.kn (kidL kt))), (U.f (intsF kt.ids))]]⟩
def S40n_20d1 (x : Int) (y : Int) (s : Int) (a : Tr) (b : Tr) (c : Tr) (d : Tr) (id : Int) (most : Int) (kg : Nat → F) (lvb : Bool) (al : List Int) (kt : Tr) (i : Int) : St := ⟨[.bad, (U.f (F.int .i64 id)), (U.f (F.int .i64 most)), (U.hp 0 0), .bad, .bad, (U.hp 1 0), .bad, .bad, (U.hs 2 2 0 2), (U.f (intsF al)), (U.f (F.bool lvb)), (U.f (F.int .i64 1)), (U.hp 3 0), (U.f (F.int .i64 i)), .bad, .bad, .bad, .bad, .bad, .bad, .bad, .bad, .bad, .bad, .bad, .bad, .bad, .bad, .bad, .bad, .bad, .bad, .bad, .bad, .bad, .bad, .bad, .bad, .bad, .bad, .bad, .bad, .bad, .bad, .bad, .bad, .bad, .bad, .bad, .bad, .bad, .bad, .bad, .bad, .bad, .bad, .bad, .bad, .bad, .bad, .bad, .bad, .bad, .bad, .bad, .bad, .bad, .bad, .bad, .bad, .bad, .bad, .bad, .bad, .bad, .bad, .bad, .bad, .bad, .bad, .bad, .bad, .bad, .bad, .bad, .bad, .bad, .bad, .bad, .bad, .bad, .bad, .bad, .bad, .bad, .bad, .bad], [HO.box [(U.f (F.int .i64 x)), (U.f (F.int .i64 y)), (U.f (F.int .i64 s)), (U.f (F.sl 4 (kidL (Tr.node x y s a b c d)))), (U.f (intsF []))], HO.box [(U.f (F.int .i64 0)), (U.f (F.int .i64 0)), (U.f (F.int .i64 0)), U.nils, U.nils], HO.arr 5 2 kg, HO.box [(U.f (F.int .i64 kt.x)), (U.f (F.int .i64 kt.y)), (U.f (F.int .i64 kt.size)), (U.f (F.sl kt.kn (kidL kt))), (U.f (intsF kt.ids))]]⟩
def S40n_20z2 (x : Int) (y : Int) (s : Int) (a : Tr) (b : Tr) (c : Tr) (d : Tr) (id : Int) (most : Int) (kg : Nat → F) (lvb : Bool) (ag : Nat → F) (kt : Tr) (i : Int) : St := ⟨[.bad, (U.f (F.int .i64 id)), (U.f (F.int .i64 most)), (U.hp 0 0), .bad, .bad, (U.hp 1 0), .bad, .bad, (U.hs 2 3 0 3), (U.hs 3 0 0 0), (U.f (F.bool lvb)), (U.f (F.int .i64 2)), (U.hp 4 0), (U.f (F.int .i64 i)), .bad, .bad, .bad, .bad, .bad, .bad, .bad, .bad, .bad, .bad, .bad, .bad, .bad, .bad, .bad, .bad, .bad, .bad, .bad, .bad, .bad, .bad, .bad, .bad, .bad, .bad, .bad, .bad, .bad, .bad, .bad, .bad, .bad, .bad, .bad, .bad, .bad, .bad, .bad, .bad, .bad, .bad, .bad, .bad, .bad, .bad, .bad, .bad, .bad, .bad, .bad, .bad, .bad, .bad, .bad, .bad, .bad, .bad, .bad, .bad, .bad, .bad, .bad, .bad, .bad, .bad, .bad, .bad, .bad, .bad, .bad, .bad, .bad, .bad, .bad, .bad, .bad, .bad, .bad, .bad, .bad, .bad, .bad], [HO.box [(U.f (F.int .i64 x)), (U.f (F.int .i64 y)), (U.f (F.int .i64 s)), (U.f (F.sl 4 (kidL (Tr.node x y s a b c d)))), (U.f (intsF []))], HO.box [(U.f (F.int .i64 0)), (U.f (F.int .i64 0)), (U.f (F.int .i64 0)), U.nils, U.nils], HO.arr 5 3 kg, HO.arr 1 0 ag, HO.box [(U.f (F.int .i64 kt.x)), (U.f (F.int .i64 kt.y)), (U.f (F.int .i64 kt.size)), (U.f (F.sl kt.kn (kidL kt))), (U.f (intsF kt.ids))]]⟩
def S40n_20d2 (x : Int) (y : Int) (s : Int) (a : Tr) (b : Tr) (c : Tr) (d : Tr) (id : Int) (most : Int) (kg : Nat → F) (lvb : Bool) (al : List Int) (kt : Tr) (i : Int) : St := ⟨[.bad, (U.f (F.int .i64 id)), (U.f (F.int .i64 most)), (U.hp 0 0), .bad, .bad, (U.hp 1 0), .bad, .bad, (U.hs 2 3 0 3), (U.f (intsF al)), (U.f (F.bool lvb)), (U.f (F.int .i64 2)), (U.hp 3 0), (U.f (F.int .i64 i)), .bad, .bad, .bad, .bad, .bad, .bad, .bad, .bad, .bad, .bad, .bad, .bad, .bad, .bad, .bad, .bad, .bad, .bad, .bad, .bad, .bad, .bad, .bad, .bad, .bad, .bad, .bad, .bad, .bad, .bad, .bad, .bad, .bad, .bad, .bad, .bad, .bad, .bad, .bad, .bad, .bad, .bad, .bad, .bad, .bad, .bad, .bad, .bad, .bad, .bad, .bad, .bad, .bad, .bad, .bad, .bad, .bad, .bad, .bad, .bad, .bad, .bad, .bad, .bad, .bad, .bad, .bad, .bad, .bad, .bad, .bad, .bad, .bad, .bad, .bad, .bad, .bad, .bad, .bad, .bad, .bad, .bad, .bad], [HO.box [(U.f (F.int .i64 x)), (U.f (F.int .i64 y)), (U.f (F.int .i64 s)), (U.f (F.sl 4 (kidL (Tr.node x y s a b c d)))), (U.f (intsF []))], HO.box [(U.f (F.int .i64 0)), (U.f (F.int .i64 0)), (U.f (F.int .i64 0)), U.nils, U.nils], HO.arr 5 3 kg, HO.box [(U.f (F.int .i64 kt.x)), (U.f (F.int .i64 kt.y)), (U.f (F.int .i64 kt.size)), (U.f (F.sl kt.kn (kidL kt))), (U.f (intsF kt.ids))]]⟩
def S40n_20z3 (x : Int) (y : Int) (s : Int) (a : Tr) (b : Tr) (c : Tr) (d : Tr) (id : Int) (most : Int) (kg : Nat → F) (lvb : Bool) (ag : Nat → F) (kt : Tr) (i : Int) : St := ⟨[.bad, (U.f (F.int .i64 id)), (U.f (F.int .i64 most)), (U.hp 0 0), .bad, .bad, (U.hp 1 0), .bad, .bad, (U.hs 2 4 0 4), (U.hs 3 0 0 0), (U.f (F.bool lvb)), (U.f (F.int .i64 3)), (U.hp 4 0), (U.f (F.int .i64 i)), .bad, .bad, .bad, .bad, .bad, .bad, .bad, .bad, .bad, .bad, .bad, .bad, .bad, .bad, .bad, .bad, .bad, .bad, .bad, .bad, .bad, .bad, .bad, .bad, .bad, .bad, .bad, .bad, .bad, .bad, .bad, .bad, .bad, .bad, .bad, .bad, .bad, .bad, .bad, .bad, .bad, .bad, .bad, .bad, .bad, .bad, .bad, .bad, .bad, .bad, .bad, .bad, .bad, .bad, .bad, .bad, .bad, .bad, .bad, .bad, .bad, .bad, .bad, .bad, .bad, .bad, .bad, .bad, .bad, .bad, .bad, .bad, .bad, .bad, .bad, .bad, .bad, .bad, .bad, .bad, .bad, .bad, .bad], [HO.box [(U.f (F.int .i64 x)), (U.f (F.int .i64 y)), (U.f (F.int .i64 s)), (U.f (F.sl 4 (kidL (Tr.node x y s a b c d)))), (U.f (intsF []))], HO.box [(U.f (F.int .i64 0)), (U.f (F.int .i64 0)), (U.f (F.int .i64 0)), U.nils, U.nils], HO.arr 5 4 kg, HO.arr 1 0 ag, HO.box [(U.f (F.int .i64 kt.x)), (U.f (F.int .i64 kt.y)), (U.f (F.int .i64 kt.size)), (U.f (F.sl kt.kn (kidL kt))), (U.f (intsF kt.ids))]]⟩
def S40n_20d3 (x : Int) (y : Int) (s : Int) (a : Tr) (b : Tr) (c : Tr) (d : Tr) (id : Int) (most : Int) (kg : Nat → F) (lvb : Bool) (al : List Int) (kt : Tr) (i : Int) : St := ⟨[.bad, (U.f (F.int .i64 id)), (U.f (F.int .i64 most)), (U.hp 0 0), .bad, .bad, (U.hp 1 0), .bad, .bad, (U.hs 2 4 0 4), (U.f (intsF al)), (U.f (F.bool lvb)), (U.f (F.int .i64 3)), (U.hp 3 0), (U.f (F.int .i64 i)), .bad, .bad, .bad, .bad, .bad, .bad, .bad, .bad, .bad, .bad, .bad, .bad, .bad, .bad, .bad, .bad, .bad, .bad, .bad, .bad, .bad, .bad, .bad, .bad, .bad, .bad, .bad, .bad, .bad, .bad, .bad, .bad, .bad, .bad, .bad, .bad, .bad, .bad, .bad, .bad, .bad, .bad, .bad, .bad, .bad, .bad, .bad, .bad, .bad, .bad, .bad, .bad, .bad, .bad, .bad, .bad, .bad, .bad, .bad, .bad, .bad, .bad, .bad, .bad, .bad, .bad, .bad, .bad, .bad, .bad, .bad, .bad, .bad, .bad, .bad, .bad, .bad, .bad, .bad, .bad, .bad, .bad, .bad], [HO.box [(U.f (F.int .i64 x)), (U.f (F.int .i64 y)), (U.f (F.int .i64 s)), (U.f (F.sl 4 (kidL (Tr.node x y s a b c d)))), (U.f (intsF []))], HO.box [(U.f (F.int .i64 0)), (U.f (F.int .i64 0)), (U.f (F.int .i64 0)), U.nils, U.nils], HO.arr 5 4 kg, HO.box [(U.f (F.int .i64 kt.x)), (U.f (F.int .i64 kt.y)), (U.f (F.int .i64 kt.size)), (U.f (F.sl kt.kn (kidL kt))), (U.f (intsF kt.ids))]]⟩
def S40n_4  : St := ⟨[.bad, .bad, .bad, .bad, .bad, .bad, .bad, .bad, .bad, .bad, .bad, .bad, .bad, .bad, .bad, .bad, .bad, .bad, .bad, .bad, .bad, .bad, .bad, .bad, .bad, .bad, .bad, .bad, .bad, .bad, .bad, .bad, .bad, .bad, .bad, .bad, .bad, .bad, .bad, .bad, .bad, .bad, .bad, .bad, .bad, .bad, .bad, .bad, .bad, .bad, .bad, .bad, .bad, .bad, .bad, .bad, .bad, .bad, .bad, .bad, .bad, .bad, .bad, .bad, .bad, .bad, .bad, .bad, .bad, .bad, .bad, .bad, .bad, .bad, .bad, .bad, .bad, .bad, .bad, .bad, .bad, .bad, .bad, .bad, .bad, .bad, .bad, .bad, .bad, .bad, .bad, .bad, .bad, .bad, .bad, .bad, .bad, .bad], []⟩
abbrev KJ71 (ρ : Type) := (Int) → (Int) → (Int) → (Tr) → (Tr) → (Tr) → (Tr) → (Int) → (Int) → (Nat → F) → (Bool) → (List Int) → Option ρ
abbrev KJ72 (ρ : Type) := (Int) → (Int) → (Int) → (Tr) → (Tr) → (Tr) → (Tr) → (Int) → (Int) → (Nat → F) → (Bool) → (Nat → F) → Option ρ
abbrev KJ73 (ρ : Type) := (Int) → (Int) → (Int) → (Tr) → (Tr) → (Tr) → (Tr) → (Int) → (Int) → (Nat → F) → (Bool) → (List Int) → (Tr) → (Int) → Option ρ
abbrev KJ74 (ρ : Type) := (Int) → (Int) → (Int) → (Tr) → (Tr) → (Tr) → (Tr) → (Int) → (Int) → (Nat → F) → (Bool) → (Nat → F) → (Tr) → (Int) → Option ρ
abbrev KJ75 (ρ : Type) := (F) → Option ρ
def T40n_14z0 {ρ : Type} (D : Nat) (ret : KJ75 ρ) (c14z0 : KJ72 ρ) (c14d0 : KJ71 ρ) (c14z1 : KJ72 ρ) (c14d1 : KJ71 ρ) (c14z2 : KJ72 ρ) (c14d2 : KJ71 ρ) (c14z3 : KJ72 ρ) (c14d3 : KJ71 ρ) (c14z4 : KJ72 ρ) (c14d4 : KJ71 ρ) (c20z0 : KJ74 ρ) (c20d0 : KJ73 ρ) (c20z1 : KJ74 ρ) (c20d1 : KJ73 ρ) (c20z2 : KJ74 ρ) (c20d2 : KJ73 ρ) (c20z3 : KJ74 ρ) (c20d3 : KJ73 ρ) (c4 : Option ρ) (x : Int) (y : Int) (s : Int) (a : Tr) (b : Tr) (c : Tr) (d : Tr) (id : Int) (most : Int) (kg : Nat → F) (lvb : Bool) (ag : Nat → F) : Option ρ :=
 (bsel (isTrA (trL a) && ctOk D most (unTrA (trL a)))
 (bsel (decide ((↑(0 + 1) : Int) * (((72 : Nat) : Int) + 1) ≤ (↑limit : Int)))
 (bsel (lvb == true)
 (c20z0 (x) (y) (s) (a) (b) (c) (d) (id) (most) (fun j ↦ trL (cutV id most (unTrA (trL a)))) ((↑(cutV id most (unTrA (trL a))).kn : Int) == 0) (ag) (cutV id most (unTrA (trL a))) (0))
 (c20z0 (x) (y) (s) (a) (b) (c) (d) (id) (most) (fun j ↦ trL (cutV id most (unTrA (trL a)))) (false) (ag) (cutV id most (unTrA (trL a))) (0)))
 none)
 none)
def T40n_14d0 {ρ : Type} (D : Nat) (ret : KJ75 ρ) (c14z0 : KJ72 ρ) (c14d0 : KJ71 ρ) (c14z1 : KJ72 ρ) (c14d1 : KJ71 ρ) (c14z2 : KJ72 ρ) (c14d2 : KJ71 ρ) (c14z3 : KJ72 ρ) (c14d3 : KJ71 ρ) (c14z4 : KJ72 ρ) (c14d4 : KJ71 ρ) (c20z0 : KJ74 ρ) (c20d0 : KJ73 ρ) (c20z1 : KJ74 ρ) (c20d1 : KJ73 ρ) (c20z2 : KJ74 ρ) (c20d2 : KJ73 ρ) (c20z3 : KJ74 ρ) (c20d3 : KJ73 ρ) (c4 : Option ρ) (x : Int) (y : Int) (s : Int) (a : Tr) (b : Tr) (c : Tr) (d : Tr) (id : Int) (most : Int) (kg : Nat → F) (lvb : Bool) (al : List Int) : Option ρ :=
 (bsel (isTrA (trL a) && ctOk D most (unTrA (trL a)))
 (bsel (decide ((↑(0 + 1) : Int) * (((72 : Nat) : Int) + 1) ≤ (↑limit : Int)))
 (bsel (lvb == true)
 (c20d0 (x) (y) (s) (a) (b) (c) (d) (id) (most) (fun j ↦ trL (cutV id most (unTrA (trL a)))) ((↑(cutV id most (unTrA (trL a))).kn : Int) == 0) (al) (cutV id most (unTrA (trL a))) (0))
 (c20d0 (x) (y) (s) (a) (b) (c) (d) (id) (most) (fun j ↦ trL (cutV id most (unTrA (trL a)))) (false) (al) (cutV id most (unTrA (trL a))) (0)))
 none)
 none)
def T40n_14z1 {ρ : Type} (D : Nat) (ret : KJ75 ρ) (c14z0 : KJ72 ρ) (c14d0 : KJ71 ρ) (c14z1 : KJ72 ρ) (c14d1 : KJ71 ρ) (c14z2 : KJ72 ρ) (c14d2 : KJ71 ρ) (c14z3 : KJ72 ρ) (c14d3 : KJ71 ρ) (c14z4 : KJ72 ρ) (c14d4 : KJ71 ρ) (c20z0 : KJ74 ρ) (c20d0 : KJ73 ρ) (c20z1 : KJ74 ρ) (c20d1 : KJ73 ρ) (c20z2 : KJ74 ρ) (c20d2 : KJ73 ρ) (c20z3 : KJ74 ρ) (c20d3 : KJ73 ρ) (c4 : Option ρ) (x : Int) (y : Int) (s : Int) (a : Tr) (b : Tr) (c : Tr) (d : Tr) (id : Int) (most : Int) (kg : Nat → F) (lvb : Bool) (ag : Nat → F) : Option ρ :=
 (bsel (isTrA (trL b) && ctOk D most (unTrA (trL b)))
 (bsel (decide ((↑(1 + 1) : Int) * (((72 : Nat) : Int) + 1) ≤ (↑limit : Int)))
 (bsel (lvb == true)
 (c20z1 (x) (y) (s) (a) (b) (c) (d) (id) (most) (fun j ↦ if j < 1 then kg j else trL (cutV id most (unTrA (trL b)))) ((↑(cutV id most (unTrA (trL b))).kn : Int) == 0) (ag) (cutV id most (unTrA (trL b))) (0))
 (c20z1 (x) (y) (s) (a) (b) (c) (d) (id) (most) (fun j ↦ if j < 1 then kg j else trL (cutV id most (unTrA (trL b)))) (false) (ag) (cutV id most (unTrA (trL b))) (0)))
 none)
 none)
def T40n_14d1 {ρ : Type} (D : Nat) (ret : KJ75 ρ) (c14z0 : KJ72 ρ) (c14d0 : KJ71 ρ) (c14z1 : KJ72 ρ) (c14d1 : KJ71 ρ) (c14z2 : KJ72 ρ) (c14d2 : KJ71 ρ) (c14z3 : KJ72 ρ) (c14d3 : KJ71 ρ) (c14z4 : KJ72 ρ) (c14d4 : KJ71 ρ) (c20z0 : KJ74 ρ) (c20d0 : KJ73 ρ) (c20z1 : KJ74 ρ) (c20d1 : KJ73 ρ) (c20z2 : KJ74 ρ) (c20d2 : KJ73 ρ) (c20z3 : KJ74 ρ) (c20d3 : KJ73 ρ) (c4 : Option ρ) (x : Int) (y : Int) (s : Int) (a : Tr) (b : Tr) (c : Tr) (d : Tr) (id : Int) (most : Int) (kg : Nat → F) (lvb : Bool) (al : List Int) : Option ρ :=
 (bsel (isTrA (trL b) && ctOk D most (unTrA (trL b)))
 (bsel (decide ((↑(1 + 1) : Int) * (((72 : Nat) : Int) + 1) ≤ (↑limit : Int)))
 (bsel (lvb == true)
 (c20d1 (x) (y) (s) (a) (b) (c) (d) (id) (most) (fun j ↦ if j < 1 then kg j else trL (cutV id most (unTrA (trL b)))) ((↑(cutV id most (unTrA (trL b))).kn : Int) == 0) (al) (cutV id most (unTrA (trL b))) (0))
 (c20d1 (x) (y) (s) (a) (b) (c) (d) (id) (most) (fun j ↦ if j < 1 then kg j else trL (cutV id most (unTrA (trL b)))) (false) (al) (cutV id most (unTrA (trL b))) (0)))
 none)
 none)
def T40n_14z2 {ρ : Type} (D : Nat) (ret : KJ75 ρ) (c14z0 : KJ72 ρ) (c14d0 : KJ71 ρ) (c14z1 : KJ72 ρ) (c14d1 : KJ71 ρ) (c14z2 : KJ72 ρ) (c14d2 : KJ71 ρ) (c14z3 : KJ72 ρ) (c14d3 : KJ71 ρ) (c14z4 : KJ72 ρ) (c14d4 : KJ71 ρ) (c20z0 : KJ74 ρ) (c20d0 : KJ73 ρ) (c20z1 : KJ74 ρ) (c20d1 : KJ73 ρ) (c20z2 : KJ74 ρ) (c20d2 : KJ73 ρ) (c20z3 : KJ74 ρ) (c20d3 : KJ73 ρ) (c4 : Option ρ) (x : Int) (y : Int) (s : Int) (a : Tr) (b : Tr) (c : Tr) (d : Tr) (id : Int) (most : Int) (kg : Nat → F) (lvb : Bool) (ag : Nat → F) : Option ρ :=
 (bsel (isTrA (trL c) && ctOk D most (unTrA (trL c)))
 (bsel (decide ((↑(2 + 1) : Int) * (((72 : Nat) : Int) + 1) ≤ (↑limit : Int)))
 (bsel (lvb == true)
 (c20z2 (x) (y) (s) (a) (b) (c) (d) (id) (most) (fun j ↦ if j < 2 then kg j else trL (cutV id most (unTrA (trL c)))) ((↑(cutV id most (unTrA (trL c))).kn : Int) == 0) (ag) (cutV id most (unTrA (trL c))) (0))
 (c20z2 (x) (y) (s) (a) (b) (c) (d) (id) (most) (fun j ↦ if j < 2 then kg j else trL (cutV id most (unTrA (trL c)))) (false) (ag) (cutV id most (unTrA (trL c))) (0)))
 none)
 none)
def T40n_14d2 {ρ : Type} (D : Nat) (ret : KJ75 ρ) (c14z0 : KJ72 ρ) (c14d0 : KJ71 ρ) (c14z1 : KJ72 ρ) (c14d1 : KJ71 ρ) (c14z2 : KJ72 ρ) (c14d2 : KJ71 ρ) (c14z3 : KJ72 ρ) (c14d3 : KJ71 ρ) (c14z4 : KJ72 ρ) (c14d4 : KJ71 ρ) (c20z0 : KJ74 ρ) (c20d0 : KJ73 ρ) (c20z1 : KJ74 ρ) (c20d1 : KJ73 ρ) (c20z2 : KJ74 ρ) (c20d2 : KJ73 ρ) (c20z3 : KJ74 ρ) (c20d3 : KJ73 ρ) (c4 : Option ρ) (x : Int) (y : Int) (s : Int) (a : Tr) (b : Tr) (c : Tr) (d : Tr) (id : Int) (most : Int) (kg : Nat → F) (lvb : Bool) (al : List Int) : Option ρ :=
 (bsel (isTrA (trL c) && ctOk D most (unTrA (trL c)))
 (bsel (decide ((↑(2 + 1) : Int) * (((72 : Nat) : Int) + 1) ≤ (↑limit : Int)))
 (bsel (lvb == true)
 (c20d2 (x) (y) (s) (a) (b) (c) (d) (id) (most) (fun j ↦ if j < 2 then kg j else trL (cutV id most (unTrA (trL c)))) ((↑(cutV id most (unTrA (trL c))).kn : Int) == 0) (al) (cutV id most (unTrA (trL c))) (0))
 (c20d2 (x) (y) (s) (a) (b) (c) (d) (id) (most) (fun j ↦ if j < 2 then kg j else trL (cutV id most (unTrA (trL c)))) (false) (al) (cutV id most (unTrA (trL c))) (0)))
 none)
 none)
def T40n_14z3 {ρ : Type} (D : Nat) (ret : KJ75 ρ) (c14z0 : KJ72 ρ) (c14d0 : KJ71 ρ) (c14z1 : KJ72 ρ) (c14d1 : KJ71 ρ) (c14z2 : KJ72 ρ) (c14d2 : KJ71 ρ) (c14z3 : KJ72 ρ) (c14d3 : KJ71 ρ) (c14z4 : KJ72 ρ) (c14d4 : KJ71 ρ) (c20z0 : KJ74 ρ) (c20d0 : KJ73 ρ) (c20z1 : KJ74 ρ) (c20d1 : KJ73 ρ) (c20z2 : KJ74 ρ) (c20d2 : KJ73 ρ) (c20z3 : KJ74 ρ) (c20d3 : KJ73 ρ) (c4 : Option ρ) (x : Int) (y : Int) (s : Int) (a : Tr) (b : Tr) (c : Tr) (d : Tr) (id : Int) (most : Int) (kg : Nat → F) (lvb : Bool) (ag : Nat → F) : Option ρ :=
 (bsel (isTrA (trL d) && ctOk D most (unTrA (trL d)))
 (bsel (decide ((↑(3 + 1) : Int) * (((72 : Nat) : Int) + 1) ≤ (↑limit : Int)))
 (bsel (lvb == true)
 (c20z3 (x) (y) (s) (a) (b) (c) (d) (id) (most) (fun j ↦ if j < 3 then kg j else trL (cutV id most (unTrA (trL d)))) ((↑(cutV id most (unTrA (trL d))).kn : Int) == 0) (ag) (cutV id most (unTrA (trL d))) (0))
 (c20z3 (x) (y) (s) (a) (b) (c) (d) (id) (most) (fun j ↦ if j < 3 then kg j else trL (cutV id most (unTrA (trL d)))) (false) (ag) (cutV id most (unTrA (trL d))) (0)))
 none)
 none)
def T40n_14d3 {ρ : Type} (D : Nat) (ret : KJ75 ρ) (c14z0 : KJ72 ρ) (c14d0 : KJ71 ρ) (c14z1 : KJ72 ρ) (c14d1 : KJ71 ρ) (c14z2 : KJ72 ρ) (c14d2 : KJ71 ρ) (c14z3 : KJ72 ρ) (c14d3 : KJ71 ρ) (c14z4 : KJ72 ρ) (c14d4 : KJ71 ρ) (c20z0 : KJ74 ρ) (c20d0 : KJ73 ρ) (c20z1 : KJ74 ρ) (c20d1 : KJ73 ρ) (c20z2 : KJ74 ρ) (c20d2 : KJ73 ρ) (c20z3 : KJ74 ρ) (c20d3 : KJ73 ρ) (c4 : Option ρ) (x : Int) (y : Int) (s : Int) (a : Tr) (b : Tr) (c : Tr) (d : Tr) (id : Int) (most : Int) (kg : Nat → F) (lvb : Bool) (al : List Int) : Option ρ :=
 (bsel (isTrA (trL d) && ctOk D most (unTrA (trL d)))
 (bsel (decide ((↑(3 + 1) : Int) * (((72 : Nat) : Int) + 1) ≤ (↑limit : Int)))
 (bsel (lvb == true)
 (c20d3 (x) (y) (s) (a) (b) (c) (d) (id) (most) (fun j ↦ if j < 3 then kg j else trL (cutV id most (unTrA (trL d)))) ((↑(cutV id most (unTrA (trL d))).kn : Int) == 0) (al) (cutV id most (unTrA (trL d))) (0))
 (c20d3 (x) (y) (s) (a) (b) (c) (d) (id) (most) (fun j ↦ if j < 3 then kg j else trL (cutV id most (unTrA (trL d)))) (false) (al) (cutV id most (unTrA (trL d))) (0)))
 none)
 none)
def T40n_14z4 {ρ : Type} (D : Nat) (ret : KJ75 ρ) (c14z0 : KJ72 ρ) (c14d0 : KJ71 ρ) (c14z1 : KJ72 ρ) (c14d1 : KJ71 ρ) (c14z2 : KJ72 ρ) (c14d2 : KJ71 ρ) (c14z3 : KJ72 ρ) (c14d3 : KJ71 ρ) (c14z4 : KJ72 ρ) (c14d4 : KJ71 ρ) (c20z0 : KJ74 ρ) (c20d0 : KJ73 ρ) (c20z1 : KJ74 ρ) (c20d1 : KJ73 ρ) (c20z2 : KJ74 ρ) (c20d2 : KJ73 ρ) (c20z3 : KJ74 ρ) (c20d3 : KJ73 ρ) (c4 : Option ρ) (x : Int) (y : Int) (s : Int) (a : Tr) (b : Tr) (c : Tr) (d : Tr) (id : Int) (most : Int) (kg : Nat → F) (lvb : Bool) (ag : Nat → F) : Option ρ :=
 (bsel (lvb == true)
 (bsel (decide (((0 : Nat) : Int) ≤ most))
 (ret (F.agg [F.int .i64 x, F.int .i64 y, F.int .i64 s, F.sl 0 fun x ↦ F.bool false, F.sl 0 ag]))
 (ret (F.agg [F.int .i64 x, F.int .i64 y, F.int .i64 s, F.sl 4 kg, intsF []])))
 (ret (F.agg [F.int .i64 x, F.int .i64 y, F.int .i64 s, F.sl 4 kg, intsF []])))
def T40n_14d4 {ρ : Type} (D : Nat) (ret : KJ75 ρ) (c14z0 : KJ72 ρ) (c14d0 : KJ71 ρ) (c14z1 : KJ72 ρ) (c14d1 : KJ71 ρ) (c14z2 : KJ72 ρ) (c14d2 : KJ71 ρ) (c14z3 : KJ72 ρ) (c14d3 : KJ71 ρ) (c14z4 : KJ72 ρ) (c14d4 : KJ71 ρ) (c20z0 : KJ74 ρ) (c20d0 : KJ73 ρ) (c20z1 : KJ74 ρ) (c20d1 : KJ73 ρ) (c20z2 : KJ74 ρ) (c20d2 : KJ73 ρ) (c20z3 : KJ74 ρ) (c20d3 : KJ73 ρ) (c4 : Option ρ) (x : Int) (y : Int) (s : Int) (a : Tr) (b : Tr) (c : Tr) (d : Tr) (id : Int) (most : Int) (kg : Nat → F) (lvb : Bool) (al : List Int) : Option ρ :=
 (bsel (lvb == true)
 (bsel (decide ((↑al.length : Int) ≤ most))
 (ret (F.agg [F.int .i64 x, F.int .i64 y, F.int .i64 s, F.sl 0 fun x ↦ F.bool false, intsF al]))
 (ret (F.agg [F.int .i64 x, F.int .i64 y, F.int .i64 s, F.sl 4 kg, intsF []])))
 (ret (F.agg [F.int .i64 x, F.int .i64 y, F.int .i64 s, F.sl 4 kg, intsF []])))
def T40n_20z0 {ρ : Type} (D : Nat) (ret : KJ75 ρ) (c14z0 : KJ72 ρ) (c14d0 : KJ71 ρ) (c14z1 : KJ72 ρ) (c14d1 : KJ71 ρ) (c14z2 : KJ72 ρ) (c14d2 : KJ71 ρ) (c14z3 : KJ72 ρ) (c14d3 : KJ71 ρ) (c14z4 : KJ72 ρ) (c14d4 : KJ71 ρ) (c20z0 : KJ74 ρ) (c20d0 : KJ73 ρ) (c20z1 : KJ74 ρ) (c20d1 : KJ73 ρ) (c20z2 : KJ74 ρ) (c20d2 : KJ73 ρ) (c20z3 : KJ74 ρ) (c20d3 : KJ73 ρ) (c4 : Option ρ) (x : Int) (y : Int) (s : Int) (a : Tr) (b : Tr) (c : Tr) (d : Tr) (id : Int) (most : Int) (kg : Nat → F) (lvb : Bool) (ag : Nat → F) (kt : Tr) (i : Int) : Option ρ :=
 (bsel (decide (i < (↑kt.ids.length : Int)))
 (bsel (decide (0 ≤ i))
 (bsel (decide (i < (↑kt.ids.length : Int)))
 (c20d0 (x) (y) (s) (a) (b) (c) (d) (id) (most) (kg) (lvb) (withV (unInts (F.sl 0 (offF 0 ag))) (kt.ids.getD i.toNat 0)) (kt) (IntKind.i64.wrap (i + 1)))
 none)
 none)
 (c14z1 (x) (y) (s) (a) (b) (c) (d) (id) (most) (kg) (lvb) (ag)))
def T40n_20d0 {ρ : Type} (D : Nat) (ret : KJ75 ρ) (c14z0 : KJ72 ρ) (c14d0 : KJ71 ρ) (c14z1 : KJ72 ρ) (c14d1 : KJ71 ρ) (c14z2 : KJ72 ρ) (c14d2 : KJ71 ρ) (c14z3 : KJ72 ρ) (c14d3 : KJ71 ρ) (c14z4 : KJ72 ρ) (c14d4 : KJ71 ρ) (c20z0 : KJ74 ρ) (c20d0 : KJ73 ρ) (c20z1 : KJ74 ρ) (c20d1 : KJ73 ρ) (c20z2 : KJ74 ρ) (c20d2 : KJ73 ρ) (c20z3 : KJ74 ρ) (c20d3 : KJ73 ρ) (c4 : Option ρ) (x : Int) (y : Int) (s : Int) (a : Tr) (b : Tr) (c : Tr) (d : Tr) (id : Int) (most : Int) (kg : Nat → F) (lvb : Bool) (al : List Int) (kt : Tr) (i : Int) : Option ρ :=
 (bsel (decide (i < (↑kt.ids.length : Int)))
 (bsel (decide (0 ≤ i))
 (bsel (decide (i < (↑kt.ids.length : Int)))
 (bsel (isInts (intsF al) && fewIntsV (unInts (intsF al)))
 (c20d0 (x) (y) (s) (a) (b) (c) (d) (id) (most) (kg) (lvb) (withV (unInts (intsF al)) (kt.ids.getD i.toNat 0)) (kt) (IntKind.i64.wrap (i + 1)))
 none)
 none)
 none)
 (c14d1 (x) (y) (s) (a) (b) (c) (d) (id) (most) (kg) (lvb) (al)))
def T40n_20z1 {ρ : Type} (D : Nat) (ret : KJ75 ρ) (c14z0 : KJ72 ρ) (c14d0 : KJ71 ρ) (c14z1 : KJ72 ρ) (c14d1 : KJ71 ρ) (c14z2 : KJ72 ρ) (c14d2 : KJ71 ρ) (c14z3 : KJ72 ρ) (c14d3 : KJ71 ρ) (c14z4 : KJ72 ρ) (c14d4 : KJ71 ρ) (c20z0 : KJ74 ρ) (c20d0 : KJ73 ρ) (c20z1 : KJ74 ρ) (c20d1 : KJ73 ρ) (c20z2 : KJ74 ρ) (c20d2 : KJ73 ρ) (c20z3 : KJ74 ρ) (c20d3 : KJ73 ρ) (c4 : Option ρ) (x : Int) (y : Int) (s : Int) (a : Tr) (b : Tr) (c : Tr) (d : Tr) (id : Int) (most : Int) (kg : Nat → F) (lvb : Bool) (ag : Nat → F) (kt : Tr) (i : Int) : Option ρ :=
 (bsel (decide (i < (↑kt.ids.length : Int)))
 (bsel (decide (0 ≤ i))
 (bsel (decide (i < (↑kt.ids.length : Int)))
 (c20d1 (x) (y) (s) (a) (b) (c) (d) (id) (most) (kg) (lvb) (withV (unInts (F.sl 0 (offF 0 ag))) (kt.ids.getD i.toNat 0)) (kt) (IntKind.i64.wrap (i + 1)))
 none)
 none)
 (c14z2 (x) (y) (s) (a) (b) (c) (d) (id) (most) (kg) (lvb) (ag)))
def T40n_20d1 {ρ : Type} (D : Nat) (ret : KJ75 ρ) (c14z0 : KJ72 ρ) (c14d0 : KJ71 ρ) (c14z1 : KJ72 ρ) (c14d1 : KJ71 ρ) (c14z2 : KJ72 ρ) (c14d2 : KJ71 ρ) (c14z3 : KJ72 ρ) (c14d3 : KJ71 ρ) (c14z4 : KJ72 ρ) (c14d4 : KJ71 ρ) (c20z0 : KJ74 ρ) (c20d0 : KJ73 ρ) (c20z1 : KJ74 ρ) (c20d1 : KJ73 ρ) (c20z2 : KJ74 ρ) (c20d2 : KJ73 ρ) (c20z3 : KJ74 ρ) (c20d3 : KJ73 ρ) (c4 : Option ρ) (x : Int) (y : Int) (s : Int) (a : Tr) (b : Tr) (c : Tr) (d : Tr) (id : Int) (most : Int) (kg : Nat → F) (lvb : Bool) (al : List Int) (kt : Tr) (i : Int) : Option ρ :=
 (bsel (decide (i < (↑kt.ids.length : Int)))
 (bsel (decide (0 ≤ i))
 (bsel (decide (i < (↑kt.ids.length : Int)))
 (bsel (isInts (intsF al) && fewIntsV (unInts (intsF al)))
 (c20d1 (x) (y) (s) (a) (b) (c) (d) (id) (most) (kg) (lvb) (withV (unInts (intsF al)) (kt.ids.getD i.toNat 0)) (kt) (IntKind.i64.wrap (i + 1)))
 none)
 none)
 none)
 (c14d2 (x) (y) (s) (a) (b) (c) (d) (id) (most) (kg) (lvb) (al)))
def T40n_20z2 {ρ : Type} (D : Nat) (ret : KJ75 ρ) (c14z0 : KJ72 ρ) (c14d0 : KJ71 ρ) (c14z1 : KJ72 ρ) (c14d1 : KJ71 ρ) (c14z2 : KJ72 ρ) (c14d2 : KJ71 ρ) (c14z3 : KJ72 ρ) (c14d3 : KJ71 ρ) (c14z4 : KJ72 ρ) (c14d4 : KJ71 ρ) (c20z0 : KJ74 ρ) (c20d0 : KJ73 ρ) (c20z1 : KJ74 ρ) (c20d1 : KJ73 ρ) (c20z2 : KJ74 ρ) (c20d2 : KJ73 ρ) (c20z3 : KJ74 ρ) (c20d3 : KJ73 ρ) (c4 : Option ρ) (x : Int) (y : Int) (s : Int) (a : Tr) (b : Tr) (c : Tr) (d : Tr) (id : Int) (most : Int) (kg : Nat → F) (lvb : Bool) (ag : Nat → F) (kt : Tr) (i : Int) : Option ρ :=
 (bsel (decide (i < (↑kt.ids.length : Int)))
 (bsel (decide (0 ≤ i))
 (bsel (decide (i < (↑kt.ids.length : Int)))
 (c20d2 (x) (y) (s) (a) (b) (c) (d) (id) (most) (kg) (lvb) (withV (unInts (F.sl 0 (offF 0 ag))) (kt.ids.getD i.toNat 0)) (kt) (IntKind.i64.wrap (i + 1)))
 none)
 none)
 (c14z3 (x) (y) (s) (a) (b) (c) (d) (id) (most) (kg) (lvb) (ag)))
def T40n_20d2 {ρ : Type} (D : Nat) (ret : KJ75 ρ) (c14z0 : KJ72 ρ) (c14d0 : KJ71 ρ) (c14z1 : KJ72 ρ) (c14d1 : KJ71 ρ) (c14z2 : KJ72 ρ) (c14d2 : KJ71 ρ) (c14z3 : KJ72 ρ) (c14d3 : KJ71 ρ) (c14z4 : KJ72 ρ) (c14d4 : KJ71 ρ) (c20z0 : KJ74 ρ) (c20d0 : KJ73 ρ) (c20z1 : KJ74 ρ) (c20d1 : KJ73 ρ) (c20z2 : KJ74 ρ) (c20d2 : KJ73 ρ) (c20z3 : KJ74 ρ) (c20d3 : KJ73 ρ) (c4 : Option ρ) (x : Int) (y : Int) (s : Int) (a : Tr) (b : Tr) (c : Tr) (d : Tr) (id : Int) (most : Int) (kg : Nat → F) (lvb : Bool) (al : List Int) (kt : Tr) (i : Int) : Option ρ :=
 (bsel (decide (i < (↑kt.ids.length : Int)))
 (bsel (decide (0 ≤ i))
 (bsel (decide (i < (↑kt.ids.length : Int)))
 (bsel (isInts (intsF al) && fewIntsV (unInts (intsF al)))
 (c20d2 (x) (y) (s) (a) (b) (c) (d) (id) (most) (kg) (lvb) (withV (unInts (intsF al)) (kt.ids.getD i.toNat 0)) (kt) (IntKind.i64.wrap (i + 1)))
 none)
 none)
 none)
 (c14d3 (x) (y) (s) (a) (b) (c) (d) (id) (most) (kg) (lvb) (al)))
def T40n_20z3 {ρ : Type} (D : Nat) (ret : KJ75 ρ) (c14z0 : KJ72 ρ) (c14d0 : KJ71 ρ) (c14z1 : KJ72 ρ) (c14d1 : KJ71 ρ) (c14z2 : KJ72 ρ) (c14d2 : KJ71 ρ) (c14z3 : KJ72 ρ) (c14d3 : KJ71 ρ) (c14z4 : KJ72 ρ) (c14d4 : KJ71 ρ) (c20z0 : KJ74 ρ) (c20d0 : KJ73 ρ) (c20z1 : KJ74 ρ) (c20d1 : KJ73 ρ) (c20z2 : KJ74 ρ) (c20d2 : KJ73 ρ) (c20z3 : KJ74 ρ) (c20d3 : KJ73 ρ) (c4 : Option ρ) (x : Int) (y : Int) (s : Int) (a : Tr) (b : Tr) (c : Tr) (d : Tr) (id : Int) (most : Int) (kg : Nat → F) (lvb : Bool) (ag : Nat → F) (kt : Tr) (i : Int) : Option ρ :=
 (bsel (decide (i < (↑kt.ids.length : Int)))
 (bsel (decide (0 ≤ i))
 (bsel (decide (i < (↑kt.ids.length : Int)))
 (c20d3 (x) (y) (s) (a) (b) (c) (d) (id) (most) (kg) (lvb) (withV (unInts (F.sl 0 (offF 0 ag))) (kt.ids.getD i.toNat 0)) (kt) (IntKind.i64.wrap (i + 1)))
 none)
 none)
 (c14z4 (x) (y) (s) (a) (b) (c) (d) (id) (most) (kg) (lvb) (ag)))
def T40n_20d3 {ρ : Type} (D : Nat) (ret : KJ75 ρ) (c14z0 : KJ72 ρ) (c14d0 : KJ71 ρ) (c14z1 : KJ72 ρ) (c14d1 : KJ71 ρ) (c14z2 : KJ72 ρ) (c14d2 : KJ71 ρ) (c14z3 : KJ72 ρ) (c14d3 : KJ71 ρ) (c14z4 : KJ72 ρ) (c14d4 : KJ71 ρ) (c20z0 : KJ74 ρ) (c20d0 : KJ73 ρ) (c20z1 : KJ74 ρ) (c20d1 : KJ73 ρ) (c20z2 : KJ74 ρ) (c20d2 : KJ73 ρ) (c20z3 : KJ74 ρ) (c20d3 : KJ73 ρ) (c4 : Option ρ) (x : Int) (y : Int) (s : Int) (a : Tr) (b : Tr) (c : Tr) (d : Tr) (id : Int) (most : Int) (kg : Nat → F) (lvb : Bool) (al : List Int) (kt : Tr) (i : Int) : Option ρ :=
 (bsel (decide (i < (↑kt.ids.length : Int)))
 (bsel (decide (0 ≤ i))
 (bsel (decide (i < (↑kt.ids.length : Int)))
 (bsel (isInts (intsF al) && fewIntsV (unInts (intsF al)))
 (c20d3 (x) (y) (s) (a) (b) (c) (d) (id) (most) (kg) (lvb) (withV (unInts (intsF al)) (kt.ids.getD i.toNat 0)) (kt) (IntKind.i64.wrap (i + 1)))
 none)
 none)
 none)
 (c14d4 (x) (y) (s) (a) (b) (c) (d) (id) (most) (kg) (lvb) (al)))
def T40n_4 {ρ : Type} (D : Nat) (ret : KJ75 ρ) (c14z0 : KJ72 ρ) (c14d0 : KJ71 ρ) (c14z1 : KJ72 ρ) (c14d1 : KJ71 ρ) (c14z2 : KJ72 ρ) (c14d2 : KJ71 ρ) (c14z3 : KJ72 ρ) (c14d3 : KJ71 ρ) (c14z4 : KJ72 ρ) (c14d4 : KJ71 ρ) (c20z0 : KJ74 ρ) (c20d0 : KJ73 ρ) (c20z1 : KJ74 ρ) (c20d1 : KJ73 ρ) (c20z2 : KJ74 ρ) (c20d2 : KJ73 ρ) (c20z3 : KJ74 ρ) (c20d3 : KJ73 ρ) (c4 : Option ρ)  : Option ρ :=
 none
mutual
def L40n_14z0 (D : Nat) : Nat → (Int) → (Int) → (Int) → (Tr) → (Tr) → (Tr) → (Tr) → (Int) → (Int) → (Nat → F) → (Bool) → (Nat → F) → Option (F)
  | 0, _, _, _, _, _, _, _, _, _, _, _, _ => none
  | k + 1, x, y, s, a, b, c, d, id, most, kg, lvb, ag => T40n_14z0 D some (L40n_14z0 D k) (L40n_14d0 D k) (L40n_14z1 D k) (L40n_14d1 D k) (L40n_14z2 D k) (L40n_14d2 D k) (L40n_14z3 D k) (L40n_14d3 D k) (L40n_14z4 D k) (L40n_14d4 D k) (L40n_20z0 D k) (L40n_20d0 D k) (L40n_20z1 D k) (L40n_20d1 D k) (L40n_20z2 D k) (L40n_20d2 D k) (L40n_20z3 D k) (L40n_20d3 D k) (L40n_4 D k) x y s a b c d id most kg lvb ag
  termination_by structural k => k
def L40n_14d0 (D : Nat) : Nat → (Int) → (Int) → (Int) → (Tr) → (Tr) → (Tr) → (Tr) → (Int) → (Int) → (Nat → F) → (Bool) → (List Int) → Option (F)
  | 0, _, _, _, _, _, _, _, _, _, _, _, _ => none
  | k + 1, x, y, s, a, b, c, d, id, most, kg, lvb, al => T40n_14d0 D some (L40n_14z0 D k) (L40n_14d0 D k) (L40n_14z1 D k) (L40n_14d1 D k) (L40n_14z2 D k) (L40n_14d2 D k) (L40n_14z3 D k) (L40n_14d3 D k) (L40n_14z4 D k) (L40n_14d4 D k) (L40n_20z0 D k) (L40n_20d0 D k) (L40n_20z1 D k) (L40n_20d1 D k) (L40n_20z2 D k) (L40n_20d2 D k) (L40n_20z3 D k) (L40n_20d3 D k) (L40n_4 D k) x y s a b c d id most kg lvb al
  termination_by structural k => k
def L40n_14z1 (D : Nat) : Nat → (Int) → (Int) → (Int) → (Tr) → (Tr) → (Tr) → (Tr) → (Int) → (Int) → (Nat → F) → (Bool) → (Nat → F) → Option (F)
  | 0, _, _, _, _, _, _, _, _, _, _, _, _ => none
  | k + 1, x, y, s, a, b, c, d, id, most, kg, lvb, ag => T40n_14z1 D some (L40n_14z0 D k) (L40n_14d0 D k) (L40n_14z1 D k) (L40n_14d1 D k) (L40n_14z2 D k) (L40n_14d2 D k) (L40n_14z3 D k) (L40n_14d3 D k) (L40n_14z4 D k) (L40n_14d4 D k) (L40n_20z0 D k) (L40n_20d0 D k) (L40n_20z1 D k) (L40n_20d1 D k) (L40n_20z2 D k) (L40n_20d2 D k) (L40n_20z3 D k) (L40n_20d3 D k) (L40n_4 D k) x y s a b c d id most kg lvb ag
  termination_by structural k => k
def L40n_14d1 (D : Nat) : Nat → (Int) → (Int) → (Int) → (Tr) → (Tr) → (Tr) → (Tr) → (Int) → (Int) → (Nat → F) → (Bool) → (List Int) → Option (F)
  | 0, _, _, _, _, _, _, _, _, _, _, _, _ => none
  | k + 1, x, y, s, a, b, c, d, id, most, kg, lvb, al => T40n_14d1 D some (L40n_14z0 D k) (L40n_14d0 D k) (L40n_14z1 D k) (L40n_14d1 D k) (L40n_14z2 D k) (L40n_14d2 D k) (L40n_14z3 D k) (L40n_14d3 D k) (L40n_14z4 D k) (L40n_14d4 D k) (L40n_20z0 D k) (L40n_20d0 D k) (L40n_20z1 D k) (L40n_20d1 D k) (L40n_20z2 D k) (L40n_20d2 D k) (L40n_20z3 D k) (L40n_20d3 D k) (L40n_4 D k) x y s a b c d id most kg lvb al
  termination_by structural k => k
def L40n_14z2 (D : Nat) : Nat → (Int) → (Int) → (Int) → (Tr) → (Tr) → (Tr) → (Tr) → (Int) → (Int) → (Nat → F) → (Bool) → (Nat → F) → Option (F)
  | 0, _, _, _, _, _, _, _, _, _, _, _, _ => none
  | k + 1, x, y, s, a, b, c, d, id, most, kg, lvb, ag => T40n_14z2 D some (L40n_14z0 D k) (L40n_14d0 D k) (L40n_14z1 D k) (L40n_14d1 D k) (L40n_14z2 D k) (L40n_14d2 D k) (L40n_14z3 D k) (L40n_14d3 D k) (L40n_14z4 D k) (L40n_14d4 D k) (L40n_20z0 D k) (L40n_20d0 D k) (L40n_20z1 D k) (L40n_20d1 D k) (L40n_20z2 D k) (L40n_20d2 D k) (L40n_20z3 D k) (L40n_20d3 D k) (L40n_4 D k) x y s a b c d id most kg lvb ag
  termination_by structural k => k
def L40n_14d2 (D : Nat) : Nat → (Int) → (Int) → (Int) → (Tr) → (Tr) → (Tr) → (Tr) → (Int) → (Int) → (Nat → F) → (Bool) → (List Int) → Option (F)
  | 0, _, _, _, _, _, _, _, _, _, _, _, _ => none
  | k + 1, x, y, s, a, b, c, d, id, most, kg, lvb, al => T40n_14d2 D some (L40n_14z0 D k) (L40n_14d0 D k) (L40n_14z1 D k) (L40n_14d1 D k) (L40n_14z2 D k) (L40n_14d2 D k) (L40n_14z3 D k) (L40n_14d3 D k) (L40n_14z4 D k) (L40n_14d4 D k) (L40n_20z0 D k) (L40n_20d0 D k) (L40n_20z1 D k) (L40n_20d1 D k) (L40n_20z2 D k) (L40n_20d2 D k) (L40n_20z3 D k) (L40n_20d3 D k) (L40n_4 D k) x y s a b c d id most kg lvb al
  termination_by structural k => k
def L40n_14z3 (D : Nat) : Nat → (Int) → (Int) → (Int) → (Tr) → (Tr) → (Tr) → (Tr) → (Int) → (Int) → (Nat → F) → (Bool) → (Nat → F) → Option (F)
  | 0, _, _, _, _, _, _, _, _, _, _, _, _ => none
  | k + 1, x, y, s, a, b, c, d, id, most, kg, lvb, ag => T40n_14z3 D some (L40n_14z0 D k) (L40n_14d0 D k) (L40n_14z1 D k) (L40n_14d1 D k) (L40n_14z2 D k) (L40n_14d2 D k) (L40n_14z3 D k) (L40n_14d3 D k) (L40n_14z4 D k) (L40n_14d4 D k) (L40n_20z0 D k) (L40n_20d0 D k) (L40n_20z1 D k) (L40n_20d1 D k) (L40n_20z2 D k) (L40n_20d2 D k) (L40n_20z3 D k) (L40n_20d3 D k) (L40n_4 D k) x y s a b c d id most kg lvb ag
  termination_by structural k => k
def L40n_14d3 (D : Nat) : Nat → (Int) → (Int) → (Int) → (Tr) → (Tr) → (Tr) → (Tr) → (Int) → (Int) → (Nat → F) → (Bool) → (List Int) → Option (F)
  | 0, _, _, _, _, _, _, _, _, _, _, _, _ => none
  | k + 1, x, y, s, a, b, c, d, id, most, kg, lvb, al => T40n_14d3 D some (L40n_14z0 D k) (L40n_14d0 D k) (L40n_14z1 D k) (L40n_14d1 D k) (L40n_14z2 D k) (L40n_14d2 D k) (L40n_14z3 D k) (L40n_14d3 D k) (L40n_14z4 D k) (L40n_14d4 D k) (L40n_20z0 D k) (L40n_20d0 D k) (L40n_20z1 D k) (L40n_20d1 D k) (L40n_20z2 D k) (L40n_20d2 D k) (L40n_20z3 D k) (L40n_20d3 D k) (L40n_4 D k) x y s a b c d id most kg lvb al
  termination_by structural k => k
def L40n_14z4 (D : Nat) : Nat → (Int) → (Int) → (Int) → (Tr) → (Tr) → (Tr) → (Tr) → (Int) → (Int) → (Nat → F) → (Bool) → (Nat → F) → Option (F)
  | 0, _, _, _, _, _, _, _, _, _, _, _, _ => none
  | k + 1, x, y, s, a, b, c, d, id, most, kg, lvb, ag => T40n_14z4 D some (L40n_14z0 D k) (L40n_14d0 D k) (L40n_14z1 D k) (L40n_14d1 D k) (L40n_14z2 D k) (L40n_14d2 D k) (L40n_14z3 D k) (L40n_14d3 D k) (L40n_14z4 D k) (L40n_14d4 D k) (L40n_20z0 D k) (L40n_20d0 D k) (L40n_20z1 D k) (L40n_20d1 D k) (L40n_20z2 D k) (L40n_20d2 D k) (L40n_20z3 D k) (L40n_20d3 D k) (L40n_4 D k) x y s a b c d id most kg lvb ag
  termination_by structural k => k
def L40n_14d4 (D : Nat) : Nat → (Int) → (Int) → (Int) → (Tr) → (Tr) → (Tr) → (Tr) → (Int) → (Int) → (Nat → F) → (Bool) → (List Int) → Option (F)
  | 0, _, _, _, _, _, _, _, _, _, _, _, _ => none
  | k + 1, x, y, s, a, b, c, d, id, most, kg, lvb, al => T40n_14d4 D some (L40n_14z0 D k) (L40n_14d0 D k) (L40n_14z1 D k) (L40n_14d1 D k) (L40n_14z2 D k) (L40n_14d2 D k) (L40n_14z3 D k) (L40n_14d3 D k) (L40n_14z4 D k) (L40n_14d4 D k) (L40n_20z0 D k) (L40n_20d0 D k) (L40n_20z1 D k) (L40n_20d1 D k) (L40n_20z2 D k) (L40n_20d2 D k) (L40n_20z3 D k) (L40n_20d3 D k) (L40n_4 D k) x y s a b c d id most kg lvb al
  termination_by structural k => k
def L40n_20z0 (D : Nat) : Nat → (Int) → (Int) → (Int) → (Tr) → (Tr) → (Tr) → (Tr) → (Int) → (Int) → (Nat → F) → (Bool) → (Nat → F) → (Tr) → (Int) → Option (F)
  | 0, _, _, _, _, _, _, _, _, _, _, _, _, _, _ => none
  | k + 1, x, y, s, a, b, c, d, id, most, kg, lvb, ag, kt, i => T40n_20z0 D some (L40n_14z0 D k) (L40n_14d0 D k) (L40n_14z1 D k) (L40n_14d1 D k) (L40n_14z2 D k) (L40n_14d2 D k) (L40n_14z3 D k) (L40n_14d3 D k) (L40n_14z4 D k) (L40n_14d4 D k) (L40n_20z0 D k) (L40n_20d0 D k) (L40n_20z1 D k) (L40n_20d1 D k) (L40n_20z2 D k) (L40n_20d2 D k) (L40n_20z3 D k) (L40n_20d3 D k) (L40n_4 D k) x y s a b c d id most kg lvb ag kt i
  termination_by structural k => k
def L40n_20d0 (D : Nat) : Nat → (Int) → (Int) → (Int) → (Tr) → (Tr) → (Tr) → (Tr) → (Int) → (Int) → (Nat → F) → (Bool) → (List Int) → (Tr) → (Int) → Option (F)
  | 0, _, _, _, _, _, _, _, _, _, _, _, _, _, _ => none
  | k + 1, x, y, s, a, b, c, d, id, most, kg, lvb, al, kt, i => T40n_20d0 D some (L40n_14z0 D k) (L40n_14d0 D k) (L40n_14z1 D k) (L40n_14d1 D k) (L40n_14z2 D k) (L40n_14d2 D k) (L40n_14z3 D k) (L40n_14d3 D k) (L40n_14z4 D k) (L40n_14d4 D k) (L40n_20z0 D k) (L40n_20d0 D k) (L40n_20z1 D k) (L40n_20d1 D k) (L40n_20z2 D k) (L40n_20d2 D k) (L40n_20z3 D k) (L40n_20d3 D k) (L40n_4 D k) x y s a b c d id most kg lvb al kt i
  termination_by structural k => k
def L40n_20z1 (D : Nat) : Nat → (Int) → (Int) → (Int) → (Tr) → (Tr) → (Tr) → (Tr) → (Int) → (Int) → (Nat → F) → (Bool) → (Nat → F) → (Tr) → (Int) → Option (F)
  | 0, _, _, _, _, _, _, _, _, _, _, _, _, _, _ => none
  | k + 1, x, y, s, a, b, c, d, id, most, kg, lvb, ag, kt, i => T40n_20z1 D some (L40n_14z0 D k) (L40n_14d0 D k) (L40n_14z1 D k) (L40n_14d1 D k) (L40n_14z2 D k) (L40n_14d2 D k) (L40n_14z3 D k) (L40n_14d3 D k) (L40n_14z4 D k) (L40n_14d4 D k) (L40n_20z0 D k) (L40n_20d0 D k) (L40n_20z1 D k) (L40n_20d1 D k) (L40n_20z2 D k) (L40n_20d2 D k) (L40n_20z3 D k) (L40n_20d3 D k) (L40n_4 D k) x y s a b c d id most kg lvb ag kt i
  termination_by structural k => k
def L40n_20d1 (D : Nat) : Nat → (Int) → (Int) → (Int) → (Tr) → (Tr) → (Tr) → (Tr) → (Int) → (Int) → (Nat → F) → (Bool) → (List Int) → (Tr) → (Int) → Option (F)
  | 0, _, _, _, _, _, _, _, _, _, _, _, _, _, _ => none
  | k + 1, x, y, s, a, b, c, d, id, most, kg, lvb, al, kt, i => T40n_20d1 D some (L40n_14z0 D k) (L40n_14d0 D k) (L40n_14z1 D k) (L40n_14d1 D k) (L40n_14z2 D k) (L40n_14d2 D k) (L40n_14z3 D k) (L40n_14d3 D k) (L40n_14z4 D k) (L40n_14d4 D k) (L40n_20z0 D k) (L40n_20d0 D k) (L40n_20z1 D k) (L40n_20d1 D k) (L40n_20z2 D k) (L40n_20d2 D k) (L40n_20z3 D k) (L40n_20d3 D k) (L40n_4 D k) x y s a b c d id most kg lvb al kt i
  termination_by structural k => k
def L40n_20z2 (D : Nat) : Nat → (Int) → (Int) → (Int) → (Tr) → (Tr) → (Tr) → (Tr) → (Int) → (Int) → (Nat → F) → (Bool) → (Nat → F) → (Tr) → (Int) → Option (F)
  | 0, _, _, _, _, _, _, _, _, _, _, _, _, _, _ => none
  | k + 1, x, y, s, a, b, c, d, id, most, kg, lvb, ag, kt, i => T40n_20z2 D some (L40n_14z0 D k) (L40n_14d0 D k) (L40n_14z1 D k) (L40n_14d1 D k) (L40n_14z2 D k) (L40n_14d2 D k) (L40n_14z3 D k) (L40n_14d3 D k) (L40n_14z4 D k) (L40n_14d4 D k) (L40n_20z0 D k) (L40n_20d0 D k) (L40n_20z1 D k) (L40n_20d1 D k) (L40n_20z2 D k) (L40n_20d2 D k) (L40n_20z3 D k) (L40n_20d3 D k) (L40n_4 D k) x y s a b c d id most kg lvb ag kt i
  termination_by structural k => k
def L40n_20d2 (D : Nat) : Nat → (Int) → (Int) → (Int) → (Tr) → (Tr) → (Tr) → (Tr) → (Int) → (Int) → (Nat → F) → (Bool) → (List Int) → (Tr) → (Int) → Option (F)
  | 0, _, _, _, _, _, _, _, _, _, _, _, _, _, _ => none
  | k + 1, x, y, s, a, b, c, d, id, most, kg, lvb, al, kt, i => T40n_20d2 D some (L40n_14z0 D k) (L40n_14d0 D k) (L40n_14z1 D k) (L40n_14d1 D k) (L40n_14z2 D k) (L40n_14d2 D k) (L40n_14z3 D k) (L40n_14d3 D k) (L40n_14z4 D k) (L40n_14d4 D k) (L40n_20z0 D k) (L40n_20d0 D k) (L40n_20z1 D k) (L40n_20d1 D k) (L40n_20z2 D k) (L40n_20d2 D k) (L40n_20z3 D k) (L40n_20d3 D k) (L40n_4 D k) x y s a b c d id most kg lvb al kt i
  termination_by structural k => k
def L40n_20z3 (D : Nat) : Nat → (Int) → (Int) → (Int) → (Tr) → (Tr) → (Tr) → (Tr) → (Int) → (Int) → (Nat → F) → (Bool) → (Nat → F) → (Tr) → (Int) → Option (F)
  | 0, _, _, _, _, _, _, _, _, _, _, _, _, _, _ => none
  | k + 1, x, y, s, a, b, c, d, id, most, kg, lvb, ag, kt, i => T40n_20z3 D some (L40n_14z0 D k) (L40n_14d0 D k) (L40n_14z1 D k) (L40n_14d1 D k) (L40n_14z2 D k) (L40n_14d2 D k) (L40n_14z3 D k) (L40n_14d3 D k) (L40n_14z4 D k) (L40n_14d4 D k) (L40n_20z0 D k) (L40n_20d0 D k) (L40n_20z1 D k) (L40n_20d1 D k) (L40n_20z2 D k) (L40n_20d2 D k) (L40n_20z3 D k) (L40n_20d3 D k) (L40n_4 D k) x y s a b c d id most kg lvb ag kt i
  termination_by structural k => k
def L40n_20d3 (D : Nat) : Nat → (Int) → (Int) → (Int) → (Tr) → (Tr) → (Tr) → (Tr) → (Int) → (Int) → (Nat → F) → (Bool) → (List Int) → (Tr) → (Int) → Option (F)
  | 0, _, _, _, _, _, _, _, _, _, _, _, _, _, _ => none
  | k + 1, x, y, s, a, b, c, d, id, most, kg, lvb, al, kt, i => T40n_20d3 D some (L40n_14z0 D k) (L40n_14d0 D k) (L40n_14z1 D k) (L40n_14d1 D k) (L40n_14z2 D k) (L40n_14d2 D k) (L40n_14z3 D k) (L40n_14d3 D k) (L40n_14z4 D k) (L40n_14d4 D k) (L40n_20z0 D k) (L40n_20d0 D k) (L40n_20z1 D k) (L40n_20d1 D k) (L40n_20z2 D k) (L40n_20d2 D k) (L40n_20z3 D k) (L40n_20d3 D k) (L40n_4 D k) x y s a b c d id most kg lvb al kt i
  termination_by structural k => k
def L40n_4 (D : Nat) : Nat → Option (F)
  | 0 => none
  | k + 1 => T40n_4 D some (L40n_14z0 D k) (L40n_14d0 D k) (L40n_14z1 D k) (L40n_14d1 D k) (L40n_14z2 D k) (L40n_14d2 D k) (L40n_14z3 D k) (L40n_14d3 D k) (L40n_14z4 D k) (L40n_14d4 D k) (L40n_20z0 D k) (L40n_20d0 D k) (L40n_20z1 D k) (L40n_20d1 D k) (L40n_20z2 D k) (L40n_20d2 D k) (L40n_20z3 D k) (L40n_20d3 D k) (L40n_4 D k) 
  termination_by structural k => k
end
def T40n {ρ : Type} (D : Nat) (ret : KJ75 ρ) (c14z0 : KJ72 ρ) (c14d0 : KJ71 ρ) (c14z1 : KJ72 ρ) (c14d1 : KJ71 ρ) (c14z2 : KJ72 ρ) (c14d2 : KJ71 ρ) (c14z3 : KJ72 ρ) (c14d3 : KJ71 ρ) (c14z4 : KJ72 ρ) (c14d4 : KJ71 ρ) (c20z0 : KJ74 ρ) (c20d0 : KJ73 ρ) (c20z1 : KJ74 ρ) (c20d1 : KJ73 ρ) (c20z2 : KJ74 ρ) (c20d2 : KJ73 ρ) (c20z3 : KJ74 ρ) (c20d3 : KJ73 ρ) (c4 : Option ρ) (x : Int) (y : Int) (s : Int) (a : Tr) (b : Tr) (c : Tr) (d : Tr) (id : Int) (most : Int) : Option ρ :=
 (c14z0 ((Tr.node x y s a b c d).x) ((Tr.node x y s a b c d).y) ((Tr.node x y s a b c d).size) (a) (b) (c) (d) (id) (most) (lget []) (true) (lget []))
def G40n (D : Nat) (k : Nat) (x : Int) (y : Int) (s : Int) (a : Tr) (b : Tr) (c : Tr) (d : Tr) (id : Int) (most : Int) : Option (F) := T40n D some (L40n_14z0 D k) (L40n_14d0 D k) (L40n_14z1 D k) (L40n_14d1 D k) (L40n_14z2 D k) (L40n_14d2 D k) (L40n_14z3 D k) (L40n_14d3 D k) (L40n_14z4 D k) (L40n_14d4 D k) (L40n_20z0 D k) (L40n_20d0 D k) (L40n_20z1 D k) (L40n_20d1 D k) (L40n_20z2 D k) (L40n_20d2 D k) (L40n_20z3 D k) (L40n_20d3 D k) (L40n_4 D k) x y s a b c d id most
mutual
theorem t40n_14z0 (D : Nat) (hE : EnvOK Try.prog (envCt D)) : ∀ (k : Nat) (x : Int) (y : Int) (s : Int) (a : Tr) (b : Tr) (c : Tr) (d : Tr) (id : Int) (most : Int) (kg : Nat → F) (lvb : Bool) (ag : Nat → F) (rt : F), L40n_14z0 D k x y s a b c d id most kg lvb ag = some rt → Ends Try.prog Try.f40.results.toList (at_ Try.f40 14) (S40n_14z0 x y s a b c d id most kg lvb ag) (rt)
  | 0, _, _, _, _, _, _, _, _, _, _, _, _, _, h => nomatch h
  | k + 1, x, y, s, a, b, c, d, id, most, kg, lvb, ag, rt, h => by
    refine Ends.of_cut tyOK hE (T := [(14, [1, 2, 3, 6, 9, 10, 11, 12], 1000), (20, [1, 2, 3, 6, 9, 10, 11, 12, 13, 14], 1000), (4, [1, 3, 6, 7, 8], 1000)]) (n := 200) ?_
    have e : runCut Try.prog (tiOf Try.prog) (envCt D) [(14, [1, 2, 3, 6, 9, 10, 11, 12], 1000), (20, [1, 2, 3, 6, 9, 10, 11, 12, 13, 14], 1000), (4, [1, 3, 6, 7, 8], 1000)] 0 Try.f40.results.toList some 200 (at_ Try.f40 14) (S40n_14z0 x y s a b c d id most kg lvb ag) = T40n_14z0 D (fun rt => some (.ret (rt))) (fun x y s a b c d id most kg lvb ag => some (.cut (at_ Try.f40 14) (S40n_14z0 x y s a b c d id most kg lvb ag))) (fun x y s a b c d id most kg lvb al => some (.cut (at_ Try.f40 14) (S40n_14d0 x y s a b c d id most kg lvb al))) (fun x y s a b c d id most kg lvb ag => some (.cut (at_ Try.f40 14) (S40n_14z1 x y s a b c d id most kg lvb ag))) (fun x y s a b c d id most kg lvb al => some (.cut (at_ Try.f40 14) (S40n_14d1 x y s a b c d id most kg lvb al))) (fun x y s a b c d id most kg lvb ag => some (.cut (at_ Try.f40 14) (S40n_14z2 x y s a b c d id most kg lvb ag))) (fun x y s a b c d id most kg lvb al => some (.cut (at_ Try.f40 14) (S40n_14d2 x y s a b c d id most kg lvb al))) (fun x y s a b c d id most kg lvb ag => some (.cut (at_ Try.f40 14) (S40n_14z3 x y s a b c d id most kg lvb ag))) (fun x y s a b c d id most kg lvb al => some (.cut (at_ Try.f40 14) (S40n_14d3 x y s a b c d id most kg lvb al))) (fun x y s a b c d id most kg lvb ag => some (.cut (at_ Try.f40 14) (S40n_14z4 x y s a b c d id most kg lvb ag))) (fun x y s a b c d id most kg lvb al => some (.cut (at_ Try.f40 14) (S40n_14d4 x y s a b c d id most kg lvb al))) (fun x y s a b c d id most kg lvb ag kt i => some (.cut (at_ Try.f40 20) (S40n_20z0 x y s a b c d id most kg lvb ag kt i))) (fun x y s a b c d id most kg lvb al kt i => some (.cut (at_ Try.f40 20) (S40n_20d0 x y s a b c d id most kg lvb al kt i))) (fun x y s a b c d id most kg lvb ag kt i => some (.cut (at_ Try.f40 20) (S40n_20z1 x y s a b c d id most kg lvb ag kt i))) (fun x y s a b c d id most kg lvb al kt i => some (.cut (at_ Try.f40 20) (S40n_20d1 x y s a b c d id most kg lvb al kt i))) (fun x y s a b c d id most kg lvb ag kt i => some (.cut (at_ Try.f40 20) (S40n_20z2 x y s a b c d id most kg lvb ag kt i))) (fun x y s a b c d id most kg lvb al kt i => some (.cut (at_ Try.f40 20) (S40n_20d2 x y s a b c d id most kg lvb al kt i))) (fun x y s a b c d id most kg lvb ag kt i => some (.cut (at_ Try.f40 20) (S40n_20z3 x y s a b c d id most kg lvb ag kt i))) (fun x y s a b c d id most kg lvb al kt i => some (.cut (at_ Try.f40 20) (S40n_20d3 x y s a b c d id most kg lvb al kt i))) (some (.cut (at_ Try.f40 4) (S40n_4 ))) x y s a b c d id most kg lvb ag := by kernel_rfl
    rw [e]
    exact (good_sel h (fun _ h => (good_sel h (fun _ h => (good_sel h (fun _ h => good_cut (t40n_20z0 D hE k _ _ _ _ _ _ _ _ _ _ _ _ _ _ rt h)) (fun _ h => good_cut (t40n_20z0 D hE k _ _ _ _ _ _ _ _ _ _ _ _ _ _ rt h)))) (fun _ h => nomatch h))) (fun _ h => nomatch h))
theorem t40n_14d0 (D : Nat) (hE : EnvOK Try.prog (envCt D)) : ∀ (k : Nat) (x : Int) (y : Int) (s : Int) (a : Tr) (b : Tr) (c : Tr) (d : Tr) (id : Int) (most : Int) (kg : Nat → F) (lvb : Bool) (al : List Int) (rt : F), L40n_14d0 D k x y s a b c d id most kg lvb al = some rt → Ends Try.prog Try.f40.results.toList (at_ Try.f40 14) (S40n_14d0 x y s a b c d id most kg lvb al) (rt)
  | 0, _, _, _, _, _, _, _, _, _, _, _, _, _, h => nomatch h
  | k + 1, x, y, s, a, b, c, d, id, most, kg, lvb, al, rt, h => by
    refine Ends.of_cut tyOK hE (T := [(14, [1, 2, 3, 6, 9, 10, 11, 12], 1000), (20, [1, 2, 3, 6, 9, 10, 11, 12, 13, 14], 1000), (4, [1, 3, 6, 7, 8], 1000)]) (n := 200) ?_
    have e : runCut Try.prog (tiOf Try.prog) (envCt D) [(14, [1, 2, 3, 6, 9, 10, 11, 12], 1000), (20, [1, 2, 3, 6, 9, 10, 11, 12, 13, 14], 1000), (4, [1, 3, 6, 7, 8], 1000)] 0 Try.f40.results.toList some 200 (at_ Try.f40 14) (S40n_14d0 x y s a b c d id most kg lvb al) = T40n_14d0 D (fun rt => some (.ret (rt))) (fun x y s a b c d id most kg lvb ag => some (.cut (at_ Try.f40 14) (S40n_14z0 x y s a b c d id most kg lvb ag))) (fun x y s a b c d id most kg lvb al => some (.cut (at_ Try.f40 14) (S40n_14d0 x y s a b c d id most kg lvb al))) (fun x y s a b c d id most kg lvb ag => some (.cut (at_ Try.f40 14) (S40n_14z1 x y s a b c d id most kg lvb ag))) (fun x y s a b c d id most kg lvb al => some (.cut (at_ Try.f40 14) (S40n_14d1 x y s a b c d id most kg lvb al))) (fun x y s a b c d id most kg lvb ag => some (.cut (at_ Try.f40 14) (S40n_14z2 x y s a b c d id most kg lvb ag))) (fun x y s a b c d id most kg lvb al => some (.cut (at_ Try.f40 14) (S40n_14d2 x y s a b c d id most kg lvb al))) (fun x y s a b c d id most kg lvb ag => some (.cut (at_ Try.f40 14) (S40n_14z3 x y s a b c d id most kg lvb ag))) (fun x y s a b c d id most kg lvb al => some (.cut (at_ Try.f40 14) (S40n_14d3 x y s a b c d id most kg lvb al))) (fun x y s a b c d id most kg lvb ag => some (.cut (at_ Try.f40 14) (S40n_14z4 x y s a b c d id most kg lvb ag))) (fun x y s a b c d id most kg lvb al => some (.cut (at_ Try.f40 14) (S40n_14d4 x y s a b c d id most kg lvb al))) (fun x y s a b c d id most kg lvb ag kt i => some (.cut (at_ Try.f40 20) (S40n_20z0 x y s a b c d id most kg lvb ag kt i))) (fun x y s a b c d id most kg lvb al kt i => some (.cut (at_ Try.f40 20) (S40n_20d0 x y s a b c d id most kg lvb al kt i))) (fun x y s a b c d id most kg lvb ag kt i => some (.cut (at_ Try.f40 20) (S40n_20z1 x y s a b c d id most kg lvb ag kt i))) (fun x y s a b c d id most kg lvb al kt i => some (.cut (at_ Try.f40 20) (S40n_20d1 x y s a b c d id most kg lvb al kt i))) (fun x y s a b c d id most kg lvb ag kt i => some (.cut (at_ Try.f40 20) (S40n_20z2 x y s a b c d id most kg lvb ag kt i))) (fun x y s a b c d id most kg lvb al kt i => some (.cut (at_ Try.f40 20) (S40n_20d2 x y s a b c d id most kg lvb al kt i))) (fun x y s a b c d id most kg lvb ag kt i => some (.cut (at_ Try.f40 20) (S40n_20z3 x y s a b c d id most kg lvb ag kt i))) (fun x y s a b c d id most kg lvb al kt i => some (.cut (at_ Try.f40 20) (S40n_20d3 x y s a b c d id most kg lvb al kt i))) (some (.cut (at_ Try.f40 4) (S40n_4 ))) x y s a b c d id most kg lvb al := by kernel_rfl
    rw [e]
    exact (good_sel h (fun _ h => (good_sel h (fun _ h => (good_sel h (fun _ h => good_cut (t40n_20d0 D hE k _ _ _ _ _ _ _ _ _ _ _ _ _ _ rt h)) (fun _ h => good_cut (t40n_20d0 D hE k _ _ _ _ _ _ _ _ _ _ _ _ _ _ rt h)))) (fun _ h => nomatch h))) (fun _ h => nomatch h))
theorem t40n_14z1 (D : Nat) (hE : EnvOK Try.prog (envCt D)) : ∀ (k : Nat) (x : Int) (y : Int) (s : Int) (a : Tr) (b : Tr) (c : Tr) (d : Tr) (id : Int) (most : Int) (kg : Nat → F) (lvb : Bool) (ag : Nat → F) (rt : F), L40n_14z1 D k x y s a b c d id most kg lvb ag = some rt → Ends Try.prog Try.f40.results.toList (at_ Try.f40 14) (S40n_14z1 x y s a b c d id most kg lvb ag) (rt)
  | 0, _, _, _, _, _, _, _, _, _, _, _, _, _, h => nomatch h
  | k + 1, x, y, s, a, b, c, d, id, most, kg, lvb, ag, rt, h => by
    refine Ends.of_cut tyOK hE (T := [(14, [1, 2, 3, 6, 9, 10, 11, 12], 1000), (20, [1, 2, 3, 6, 9, 10, 11, 12, 13, 14], 1000), (4, [1, 3, 6, 7, 8], 1000)]) (n := 200) ?_
    have e : runCut Try.prog (tiOf Try.prog) (envCt D) [(14, [1, 2, 3, 6, 9, 10, 11, 12], 1000), (20, [1, 2, 3, 6, 9, 10, 11, 12, 13, 14], 1000), (4, [1, 3, 6, 7, 8], 1000)] 0 Try.f40.results.toList some 200 (at_ Try.f40 14) (S40n_14z1 x y s a b c d id most kg lvb ag) = T40n_14z1 D (fun rt => some (.ret (rt))) (fun x y s a b c d id most kg lvb ag => some (.cut (at_ Try.f40 14) (S40n_14z0 x y s a b c d id most kg lvb ag))) (fun x y s a b c d id most kg lvb al => some (.cut (at_ Try.f40 14) (S40n_14d0 x y s a b c d id most kg lvb al))) (fun x y s a b c d id most kg lvb ag => some (.cut (at_ Try.f40 14) (S40n_14z1 x y s a b c d id most kg lvb ag))) (fun x y s a b c d id most kg lvb al => some (.cut (at_ Try.f40 14) (S40n_14d1 x y s a b c d id most kg lvb al))) (fun x y s a b c d id most kg lvb ag => some (.cut (at_ Try.f40 14) (S40n_14z2 x y s a b c d id most kg lvb ag))) (fun x y s a b c d id most kg lvb al => some (.cut (at_ Try.f40 14) (S40n_14d2 x y s a b c d id most kg lvb al))) (fun x y s a b c d id most kg lvb ag => some (.cut (at_ Try.f40 14) (S40n_14z3 x y s a b c d id most kg lvb ag))) (fun x y s a b c d id most kg lvb al => some (.cut (at_ Try.f40 14) (S40n_14d3 x y s a b c d id most kg lvb al))) (fun x y s a b c d id most kg lvb ag => some (.cut (at_ Try.f40 14) (S40n_14z4 x y s a b c d id most kg lvb ag))) (fun x y s a b c d id most kg lvb al => some (.cut (at_ Try.f40 14) (S40n_14d4 x y s a b c d id most kg lvb al))) (fun x y s a b c d id most kg lvb ag kt i => some (.cut (at_ Try.f40 20) (S40n_20z0 x y s a b c d id most kg lvb ag kt i))) (fun x y s a b c d id most kg lvb al kt i => some (.cut (at_ Try.f40 20) (S40n_20d0 x y s a b c d id most kg lvb al kt i))) (fun x y s a b c d id most kg lvb ag kt i => some (.cut (at_ Try.f40 20) (S40n_20z1 x y s a b c d id most kg lvb ag kt i))) (fun x y s a b c d id most kg lvb al kt i => some (.cut (at_ Try.f40 20) (S40n_20d1 x y s a b c d id most kg lvb al kt i))) (fun x y s a b c d id most kg lvb ag kt i => some (.cut (at_ Try.f40 20) (S40n_20z2 x y s a b c d id most kg lvb ag kt i))) (fun x y s a b c d id most kg lvb al kt i => some (.cut (at_ Try.f40 20) (S40n_20d2 x y s a b c d id most kg lvb al kt i))) (fun x y s a b c d id most kg lvb ag kt i => some (.cut (at_ Try.f40 20) (S40n_20z3 x y s a b c d id most kg lvb ag kt i))) (fun x y s a b c d id most kg lvb al kt i => some (.cut (at_ Try.f40 20) (S40n_20d3 x y s a b c d id most kg lvb al kt i))) (some (.cut (at_ Try.f40 4) (S40n_4 ))) x y s a b c d id most kg lvb ag := by kernel_rfl
    rw [e]
    exact (good_sel h (fun _ h => (good_sel h (fun _ h => (good_sel h (fun _ h => good_cut (t40n_20z1 D hE k _ _ _ _ _ _ _ _ _ _ _ _ _ _ rt h)) (fun _ h => good_cut (t40n_20z1 D hE k _ _ _ _ _ _ _ _ _ _ _ _ _ _ rt h)))) (fun _ h => nomatch h))) (fun _ h => nomatch h))
theorem t40n_14d1 (D : Nat) (hE : EnvOK Try.prog (envCt D)) : ∀ (k : Nat) (x : Int) (y : Int) (s : Int) (a : Tr) (b : Tr) (c : Tr) (d : Tr) (id : Int) (most : Int) (kg : Nat → F) (lvb : Bool) (al : List Int) (rt : F), L40n_14d1 D k x y s a b c d id most kg lvb al = some rt → Ends Try.prog Try.f40.results.toList (at_ Try.f40 14) (S40n_14d1 x y s a b c d id most kg lvb al) (rt)
  | 0, _, _, _, _, _, _, _, _, _, _, _, _, _, h => nomatch h
  | k + 1, x, y, s, a, b, c, d, id, most, kg, lvb, al, rt, h => by
    refine Ends.of_cut tyOK hE (T := [(14, [1, 2, 3, 6, 9, 10, 11, 12], 1000), (20, [1, 2, 3, 6, 9, 10, 11, 12, 13, 14], 1000), (4, [1, 3, 6, 7, 8], 1000)]) (n := 200) ?_
    have e : runCut Try.prog (tiOf Try.prog) (envCt D) [(14, [1, 2, 3, 6, 9, 10, 11, 12], 1000), (20, [1, 2, 3, 6, 9, 10, 11, 12, 13, 14], 1000), (4, [1, 3, 6, 7, 8], 1000)] 0 Try.f40.results.toList some 200 (at_ Try.f40 14) (S40n_14d1 x y s a b c d id most kg lvb al) = T40n_14d1 D (fun rt => some (.ret (rt))) (fun x y s a b c d id most kg lvb ag => some (.cut (at_ Try.f40 14) (S40n_14z0 x y s a b c d id most kg lvb ag))) (fun x y s a b c d id most kg lvb al => some (.cut (at_ Try.f40 14) (S40n_14d0 x y s a b c d id most kg lvb al))) (fun x y s a b c d id most kg lvb ag => some (.cut (at_ Try.f40 14) (S40n_14z1 x y s a b c d id most kg lvb ag))) (fun x y s a b c d id most kg lvb al => some (.cut (at_ Try.f40 14) (S40n_14d1 x y s a b c d id most kg lvb al))) (fun x y s a b c d id most kg lvb ag => some (.cut (at_ Try.f40 14) (S40n_14z2 x y s a b c d id most kg lvb ag))) (fun x y s a b c d id most kg lvb al => some (.cut (at_ Try.f40 14) (S40n_14d2 x y s a b c d id most kg lvb al))) (fun x y s a b c d id most kg lvb ag => some (.cut (at_ Try.f40 14) (S40n_14z3 x y s a b c d id most kg lvb ag))) (fun x y s a b c d id most kg lvb al => some (.cut (at_ Try.f40 14) (S40n_14d3 x y s a b c d id most kg lvb al))) (fun x y s a b c d id most kg lvb ag => some (.cut (at_ Try.f40 14) (S40n_14z4 x y s a b c d id most kg lvb ag))) (fun x y s a b c d id most kg lvb al => some (.cut (at_ Try.f40 14) (S40n_14d4 x y s a b c d id most kg lvb al))) (fun x y s a b c d id most kg lvb ag kt i => some (.cut (at_ Try.f40 20) (S40n_20z0 x y s a b c d id most kg lvb ag kt i))) (fun x y s a b c d id most kg lvb al kt i => some (.cut (at_ Try.f40 20) (S40n_20d0 x y s a b c d id most kg lvb al kt i))) (fun x y s a b c d id most kg lvb ag kt i => some (.cut (at_ Try.f40 20) (S40n_20z1 x y s a b c d id most kg lvb ag kt i))) (fun x y s a b c d id most kg lvb al kt i => some (.cut (at_ Try.f40 20) (S40n_20d1 x y s a b c d id most kg lvb al kt i))) (fun x y s a b c d id most kg lvb ag kt i => some (.cut (at_ Try.f40 20) (S40n_20z2 x y s a b c d id most kg lvb ag kt i))) (fun x y s a b c d id most kg lvb al kt i => some (.cut (at_ Try.f40 20) (S40n_20d2 x y s a b c d id most kg lvb al kt i))) (fun x y s a b c d id most kg lvb ag kt i => some (.cut (at_ Try.f40 20) (S40n_20z3 x y s a b c d id most kg lvb ag kt i))) (fun x y s a b c d id most kg lvb al kt i => some (.cut (at_ Try.f40 20) (S40n_20d3 x y s a b c d id most kg lvb al kt i))) (some (.cut (at_ Try.f40 4) (S40n_4 ))) x y s a b c d id most kg lvb al := by kernel_rfl
    rw [e]
    exact (good_sel h (fun _ h => (good_sel h (fun _ h => (good_sel h (fun _ h => good_cut (t40n_20d1 D hE k _ _ _ _ _ _ _ _ _ _ _ _ _ _ rt h)) (fun _ h => good_cut (t40n_20d1 D hE k _ _ _ _ _ _ _ _ _ _ _ _ _ _ rt h)))) (fun _ h => nomatch h))) (fun _ h => nomatch h))
theorem t40n_14z2 (D : Nat) (hE : EnvOK Try.prog (envCt D)) : ∀ (k : Nat) (x : Int) (y : Int) (s : Int) (a : Tr) (b : Tr) (c : Tr) (d : Tr) (id : Int) (most : Int) (kg : Nat → F) (lvb : Bool) (ag : Nat → F) (rt : F), L40n_14z2 D k x y s a b c d id most kg lvb ag = some rt → Ends Try.prog Try.f40.results.toList (at_ Try.f40 14) (S40n_14z2 x y s a b c d id most kg lvb ag) (rt)
  | 0, _, _, _, _, _, _, _, _, _, _, _, _, _, h => nomatch h
  | k + 1, x, y, s, a, b, c, d, id, most, kg, lvb, ag, rt, h => by
    refine Ends.of_cut tyOK hE (T := [(14, [1, 2, 3, 6, 9, 10, 11, 12], 1000), (20, [1, 2, 3, 6, 9, 10, 11, 12, 13, 14], 1000), (4, [1, 3, 6, 7, 8], 1000)]) (n := 200) ?_
    have e : runCut Try.prog (tiOf Try.prog) (envCt D) [(14, [1, 2, 3, 6, 9, 10, 11, 12], 1000), (20, [1, 2, 3, 6, 9, 10, 11, 12, 13, 14], 1000), (4, [1, 3, 6, 7, 8], 1000)] 0 Try.f40.results.toList some 200 (at_ Try.f40 14) (S40n_14z2 x y s a b c d id most kg lvb ag) = T40n_14z2 D (fun rt => some (.ret (rt))) (fun x y s a b c d id most kg lvb ag => some (.cut (at_ Try.f40 14) (S40n_14z0 x y s a b c d id most kg lvb ag))) (fun x y s a b c d id most kg lvb al => some (.cut (at_ Try.f40 14) (S40n_14d0 x y s a b c d id most kg lvb al))) (fun x y s a b c d id most kg lvb ag => some (.cut (at_ Try.f40 14) (S40n_14z1 x y s a b c d id most kg lvb ag))) (fun x y s a b c d id most kg lvb al => some (.cut (at_ Try.f40 14) (S40n_14d1 x y s a b c d id most kg lvb al))) (fun x y s a b c d id most kg lvb ag => some (.cut (at_ Try.f40 14) (S40n_14z2 x y s a b c d id most kg lvb ag))) (fun x y s a b c d id most kg lvb al => some (.cut (at_ Try.f40 14) (S40n_14d2 x y s a b c d id most kg lvb al))) (fun x y s a b c d id most kg lvb ag => some (.cut (at_ Try.f40 14) (S40n_14z3 x y s a b c d id most kg lvb ag))) (fun x y s a b c d id most kg lvb al => some (.cut (at_ Try.f40 14) (S40n_14d3 x y s a b c d id most kg lvb al))) (fun x y s a b c d id most kg lvb ag => some (.cut (at_ Try.f40 14) (S40n_14z4 x y s a b c d id most kg lvb ag))) (fun x y s a b c d id most kg lvb al => some (.cut (at_ Try.f40 14) (S40n_14d4 x y s a b c d id most kg lvb al))) (fun x y s a b c d id most kg lvb ag kt i => some (.cut (at_ Try.f40 20) (S40n_20z0 x y s a b c d id most kg lvb ag kt i))) (fun x y s a b c d id most kg lvb al kt i => some (.cut (at_ Try.f40 20) (S40n_20d0 x y s a b c d id most kg lvb al kt i))) (fun x y s a b c d id most kg lvb ag kt i => some (.cut (at_ Try.f40 20) (S40n_20z1 x y s a b c d id most kg lvb ag kt i))) (fun x y s a b c d id most kg lvb al kt i => some (.cut (at_ Try.f40 20) (S40n_20d1 x y s a b c d id most kg lvb al kt i))) (fun x y s a b c d id most kg lvb ag kt i => some (.cut (at_ Try.f40 20) (S40n_20z2 x y s a b c d id most kg lvb ag kt i))) (fun x y s a b c d id most kg lvb al kt i => some (.cut (at_ Try.f40 20) (S40n_20d2 x y s a b c d id most kg lvb al kt i))) (fun x y s a b c d id most kg lvb ag kt i => some (.cut (at_ Try.f40 20) (S40n_20z3 x y s a b c d id most kg lvb ag kt i))) (fun x y s a b c d id most kg lvb al kt i => some (.cut (at_ Try.f40 20) (S40n_20d3 x y s a b c d id most kg lvb al kt i))) (some (.cut (at_ Try.f40 4) (S40n_4 ))) x y s a b c d id most kg lvb ag := by kernel_rfl
    rw [e]
    exact (good_sel h (fun _ h => (good_sel h (fun _ h => (good_sel h (fun _ h => good_cut (t40n_20z2 D hE k _ _ _ _ _ _ _ _ _ _ _ _ _ _ rt h)) (fun _ h => good_cut (t40n_20z2 D hE k _ _ _ _ _ _ _ _ _ _ _ _ _ _ rt h)))) (fun _ h => nomatch h))) (fun _ h => nomatch h))
theorem t40n_14d2 (D : Nat) (hE : EnvOK Try.prog (envCt D)) : ∀ (k : Nat) (x : Int) (y : Int) (s : Int) (a : Tr) (b : Tr) (c : Tr) (d : Tr) (id : Int) (most : Int) (kg : Nat → F) (lvb : Bool) (al : List Int) (rt : F), L40n_14d2 D k x y s a b c d id most kg lvb al = some rt → Ends Try.prog Try.f40.results.toList (at_ Try.f40 14) (S40n_14d2 x y s a b c d id most kg lvb al) (rt)
  | 0, _, _, _, _, _, _, _, _, _, _, _, _, _, h => nomatch h
  | k + 1, x, y, s, a, b, c, d, id, most, kg, lvb, al, rt, h => by
    refine Ends.of_cut tyOK hE (T := [(14, [1, 2, 3, 6, 9, 10, 11, 12], 1000), (20, [1, 2, 3, 6, 9, 10, 11, 12, 13, 14], 1000), (4, [1, 3, 6, 7, 8], 1000)]) (n := 200) ?_
    have e : runCut Try.prog (tiOf Try.prog) (envCt D) [(14, [1, 2, 3, 6, 9, 10, 11, 12], 1000), (20, [1, 2, 3, 6, 9, 10, 11, 12, 13, 14], 1000), (4, [1, 3, 6, 7, 8], 1000)] 0 Try.f40.results.toList some 200 (at_ Try.f40 14) (S40n_14d2 x y s a b c d id most kg lvb al) = T40n_14d2 D (fun rt => some (.ret (rt))) (fun x y s a b c d id most kg lvb ag => some (.cut (at_ Try.f40 14) (S40n_14z0 x y s a b c d id most kg lvb ag))) (fun x y s a b c d id most kg lvb al => some (.cut (at_ Try.f40 14) (S40n_14d0 x y s a b c d id most kg lvb al))) (fun x y s a b c d id most kg lvb ag => some (.cut (at_ Try.f40 14) (S40n_14z1 x y s a b c d id most kg lvb ag))) (fun x y s a b c d id most kg lvb al => some (.cut (at_ Try.f40 14) (S40n_14d1 x y s a b c d id most kg lvb al))) (fun x y s a b c d id most kg lvb ag => some (.cut (at_ Try.f40 14) (S40n_14z2 x y s a b c d id most kg lvb ag))) (fun x y s a b c d id most kg lvb al => some (.cut (at_ Try.f40 14) (S40n_14d2 x y s a b c d id most kg lvb al))) (fun x y s a b c d id most kg lvb ag => some (.cut (at_ Try.f40 14) (S40n_14z3 x y s a b c d id most kg lvb ag))) (fun x y s a b c d id most kg lvb al => some (.cut (at_ Try.f40 14) (S40n_14d3 x y s a b c d id most kg lvb al))) (fun x y s a b c d id most kg lvb ag => some (.cut (at_ Try.f40 14) (S40n_14z4 x y s a b c d id most kg lvb ag))) (fun x y s a b c d id most kg lvb al => some (.cut (at_ Try.f40 14) (S40n_14d4 x y s a b c d id most kg lvb al))) (fun x y s a b c d id most kg lvb ag kt i => some (.cut (at_ Try.f40 20) (S40n_20z0 x y s a b c d id most kg lvb ag kt i))) (fun x y s a b c d id most kg lvb al kt i => some (.cut (at_ Try.f40 20) (S40n_20d0 x y s a b c d id most kg lvb al kt i))) (fun x y s a b c d id most kg lvb ag kt i => some (.cut (at_ Try.f40 20) (S40n_20z1 x y s a b c d id most kg lvb ag kt i))) (fun x y s a b c d id most kg lvb al kt i => some (.cut (at_ Try.f40 20) (S40n_20d1 x y s a b c d id most kg lvb al kt i))) (fun x y s a b c d id most kg lvb ag kt i => some (.cut (at_ Try.f40 20) (S40n_20z2 x y s a b c d id most kg lvb ag kt i))) (fun x y s a b c d id most kg lvb al kt i => some (.cut (at_ Try.f40 20) (S40n_20d2 x y s a b c d id most kg lvb al kt i))) (fun x y s a b c d id most kg lvb ag kt i => some (.cut (at_ Try.f40 20) (S40n_20z3 x y s a b c d id most kg lvb ag kt i))) (fun x y s a b c d id most kg lvb al kt i => some (.cut (at_ Try.f40 20) (S40n_20d3 x y s a b c d id most kg lvb al kt i))) (some (.cut (at_ Try.f40 4) (S40n_4 ))) x y s a b c d id most kg lvb al := by kernel_rfl
    rw [e]
    exact (good_sel h (fun _ h => (good_sel h (fun _ h => (good_sel h (fun _ h => good_cut (t40n_20d2 D hE k _ _ _ _ _ _ _ _ _ _ _ _ _ _ rt h)) (fun _ h => good_cut (t40n_20d2 D hE k _ _ _ _ _ _ _ _ _ _ _ _ _ _ rt h)))) (fun _ h => nomatch h))) (fun _ h => nomatch h))
theorem t40n_14z3 (D : Nat) (hE : EnvOK Try.prog (envCt D)) : ∀ (k : Nat) (x : Int) (y : Int) (s : Int) (a : Tr) (b : Tr) (c : Tr) (d : Tr) (id : Int) (most : Int) (kg : Nat → F) (lvb : Bool) (ag : Nat → F) (rt : F), L40n_14z3 D k x y s a b c d id most kg lvb ag = some rt → Ends Try.prog Try.f40.results.toList (at_ Try.f40 14) (S40n_14z3 x y s a b c d id most kg lvb ag) (rt)
  | 0, _, _, _, _, _, _, _, _, _, _, _, _, _, h => nomatch h
  | k + 1, x, y, s, a, b, c, d, id, most, kg, lvb, ag, rt, h => by
    refine Ends.of_cut tyOK hE (T := [(14, [1, 2, 3, 6, 9, 10, 11, 12], 1000), (20, [1, 2, 3, 6, 9, 10, 11, 12, 13, 14], 1000), (4, [1, 3, 6, 7, 8], 1000)]) (n := 200) ?_
    have e : runCut Try.prog (tiOf Try.prog) (envCt D) [(14, [1, 2, 3, 6, 9, 10, 11, 12], 1000), (20, [1, 2, 3, 6, 9, 10, 11, 12, 13, 14], 1000), (4, [1, 3, 6, 7, 8], 1000)] 0 Try.f40.results.toList some 200 (at_ Try.f40 14) (S40n_14z3 x y s a b c d id most kg lvb ag) = T40n_14z3 D (fun rt => some (.ret (rt))) (fun x y s a b c d id most kg lvb ag => some (.cut (at_ Try.f40 14) (S40n_14z0 x y s a b c d id most kg lvb ag))) (fun x y s a b c d id most kg lvb al => some (.cut (at_ Try.f40 14) (S40n_14d0 x y s a b c d id most kg lvb al))) (fun x y s a b c d id most kg lvb ag => some (.cut (at_ Try.f40 14) (S40n_14z1 x y s a b c d id most kg lvb ag))) (fun x y s a b c d id most kg lvb al => some (.cut (at_ Try.f40 14) (S40n_14d1 x y s a b c d id most kg lvb al))) (fun x y s a b c d id most kg lvb ag => some (.cut (at_ Try.f40 14) (S40n_14z2 x y s a b c d id most kg lvb ag))) (fun x y s a b c d id most kg lvb al => some (.cut (at_ Try.f40 14) (S40n_14d2 x y s a b c d id most kg lvb al))) (fun x y s a b c d id most kg lvb ag => some (.cut (at_ Try.f40 14) (S40n_14z3 x y s a b c d id most kg lvb ag))) (fun x y s a b c d id most kg lvb al => some (.cut (at_ Try.f40 14) (S40n_14d3 x y s a b c d id most kg lvb al))) (fun x y s a b c d id most kg lvb ag => some (.cut (at_ Try.f40 14) (S40n_14z4 x y s a b c d id most kg lvb ag))) (fun x y s a b c d id most kg lvb al => some (.cut (at_ Try.f40 14) (S40n_14d4 x y s a b c d id most kg lvb al))) (fun x y s a b c d id most kg lvb ag kt i => some (.cut (at_ Try.f40 20) (S40n_20z0 x y s a b c d id most kg lvb ag kt i))) (fun x y s a b c d id most kg lvb al kt i => some (.cut (at_ Try.f40 20) (S40n_20d0 x y s a b c d id most kg lvb al kt i))) (fun x y s a b c d id most kg lvb ag kt i => some (.cut (at_ Try.f40 20) (S40n_20z1 x y s a b c d id most kg lvb ag kt i))) (fun x y s a b c d id most kg lvb al kt i => some (.cut (at_ Try.f40 20) (S40n_20d1 x y s a b c d id most kg lvb al kt i))) (fun x y s a b c d id most kg lvb ag kt i => some (.cut (at_ Try.f40 20) (S40n_20z2 x y s a b c d id most kg lvb ag kt i))) (fun x y s a b c d id most kg lvb al kt i => some (.cut (at_ Try.f40 20) (S40n_20d2 x y s a b c d id most kg lvb al kt i))) (fun x y s a b c d id most kg lvb ag kt i => some (.cut (at_ Try.f40 20) (S40n_20z3 x y s a b c d id most kg lvb ag kt i))) (fun x y s a b c d id most kg lvb al kt i => some (.cut (at_ Try.f40 20) (S40n_20d3 x y s a b c d id most kg lvb al kt i))) (some (.cut (at_ Try.f40 4) (S40n_4 ))) x y s a b c d id most kg lvb ag := by kernel_rfl
    rw [e]
    exact (good_sel h (fun _ h => (good_sel h (fun _ h => (good_sel h (fun _ h => good_cut (t40n_20z3 D hE k _ _ _ _ _ _ _ _ _ _ _ _ _ _ rt h)) (fun _ h => good_cut (t40n_20z3 D hE k _ _ _ _ _ _ _ _ _ _ _ _ _ _ rt h)))) (fun _ h => nomatch h))) (fun _ h => nomatch h))
theorem t40n_14d3 (D : Nat) (hE : EnvOK Try.prog (envCt D)) : ∀ (k : Nat) (x : Int) (y : Int) (s : Int) (a : Tr) (b : Tr) (c : Tr) (d : Tr) (id : Int) (most : Int) (kg : Nat → F) (lvb : Bool) (al : List Int) (rt : F), L40n_14d3 D k x y s a b c d id most kg lvb al = some rt → Ends Try.prog Try.f40.results.toList (at_ Try.f40 14) (S40n_14d3 x y s a b c d id most kg lvb al) (rt)
  | 0, _, _, _, _, _, _, _, _, _, _, _, _, _, h => nomatch h
  | k + 1, x, y, s, a, b, c, d, id, most, kg, lvb, al, rt, h => by
    refine Ends.of_cut tyOK hE (T := [(14, [1, 2, 3, 6, 9, 10, 11, 12], 1000), (20, [1, 2, 3, 6, 9, 10, 11, 12, 13, 14], 1000), (4, [1, 3, 6, 7, 8], 1000)]) (n := 200) ?_
    have e : runCut Try.prog (tiOf Try.prog) (envCt D) [(14, [1, 2, 3, 6, 9, 10, 11, 12], 1000), (20, [1, 2, 3, 6, 9, 10, 11, 12, 13, 14], 1000), (4, [1, 3, 6, 7, 8], 1000)] 0 Try.f40.results.toList some 200 (at_ Try.f40 14) (S40n_14d3 x y s a b c d id most kg lvb al) = T40n_14d3 D (fun rt => some (.ret (rt))) (fun x y s a b c d id most kg lvb ag => some (.cut (at_ Try.f40 14) (S40n_14z0 x y s a b c d id most kg lvb ag))) (fun x y s a b c d id most kg lvb al => some (.cut (at_ Try.f40 14) (S40n_14d0 x y s a b c d id most kg lvb al))) (fun x y s a b c d id most kg lvb ag => some (.cut (at_ Try.f40 14) (S40n_14z1 x y s a b c d id most kg lvb ag))) (fun x y s a b c d id most kg lvb al => some (.cut (at_ Try.f40 14) (S40n_14d1 x y s a b c d id most kg lvb al))) (fun x y s a b c d id most kg lvb ag => some (.cut (at_ Try.f40 14) (S40n_14z2 x y s a b c d id most kg lvb ag))) (fun x y s a b c d id most kg lvb al => some (.cut (at_ Try.f40 14) (S40n_14d2 x y s a b c d id most kg lvb al))) (fun x y s a b c d id most kg lvb ag => some (.cut (at_ Try.f40 14) (S40n_14z3 x y s a b c d id most kg lvb ag))) (fun x y s a b c d id most kg lvb al => some (.cut (at_ Try.f40 14) (S40n_14d3 x y s a b c d id most kg lvb al))) (fun x y s a b c d id most kg lvb ag => some (.cut (at_ Try.f40 14) (S40n_14z4 x y s a b c d id most kg lvb ag))) (fun x y s a b c d id most kg lvb al => some (.cut (at_ Try.f40 14) (S40n_14d4 x y s a b c d id most kg lvb al))) (fun x y s a b c d id most kg lvb ag kt i => some (.cut (at_ Try.f40 20) (S40n_20z0 x y s a b c d id most kg lvb ag kt i))) (fun x y s a b c d id most kg lvb al kt i => some (.cut (at_ Try.f40 20) (S40n_20d0 x y s a b c d id most kg lvb al kt i))) (fun x y s a b c d id most kg lvb ag kt i => some (.cut (at_ Try.f40 20) (S40n_20z1 x y s a b c d id most kg lvb ag kt i))) (fun x y s a b c d id most kg lvb al kt i => some (.cut (at_ Try.f40 20) (S40n_20d1 x y s a b c d id most kg lvb al kt i))) (fun x y s a b c d id most kg lvb ag kt i => some (.cut (at_ Try.f40 20) (S40n_20z2 x y s a b c d id most kg lvb ag kt i))) (fun x y s a b c d id most kg lvb al kt i => some (.cut (at_ Try.f40 20) (S40n_20d2 x y s a b c d id most kg lvb al kt i))) (fun x y s a b c d id most kg lvb ag kt i => some (.cut (at_ Try.f40 20) (S40n_20z3 x y s a b c d id most kg lvb ag kt i))) (fun x y s a b c d id most kg lvb al kt i => some (.cut (at_ Try.f40 20) (S40n_20d3 x y s a b c d id most kg lvb al kt i))) (some (.cut (at_ Try.f40 4) (S40n_4 ))) x y s a b c d id most kg lvb al := by kernel_rfl
    rw [e]
    exact (good_sel h (fun _ h => (good_sel h (fun _ h => (good_sel h (fun _ h => good_cut (t40n_20d3 D hE k _ _ _ _ _ _ _ _ _ _ _ _ _ _ rt h)) (fun _ h => good_cut (t40n_20d3 D hE k _ _ _ _ _ _ _ _ _ _ _ _ _ _ rt h)))) (fun _ h => nomatch h))) (fun _ h => nomatch h))
theorem t40n_14z4 (D : Nat) (hE : EnvOK Try.prog (envCt D)) : ∀ (k : Nat) (x : Int) (y : Int) (s : Int) (a : Tr) (b : Tr) (c : Tr) (d : Tr) (id : Int) (most : Int) (kg : Nat → F) (lvb : Bool) (ag : Nat → F) (rt : F), L40n_14z4 D k x y s a b c d id most kg lvb ag = some rt → Ends Try.prog Try.f40.results.toList (at_ Try.f40 14) (S40n_14z4 x y s a b c d id most kg lvb ag) (rt)
  | 0, _, _, _, _, _, _, _, _, _, _, _, _, _, h => nomatch h
  | k + 1, x, y, s, a, b, c, d, id, most, kg, lvb, ag, rt, h => by
    refine Ends.of_cut tyOK hE (T := [(14, [1, 2, 3, 6, 9, 10, 11, 12], 1000), (20, [1, 2, 3, 6, 9, 10, 11, 12, 13, 14], 1000), (4, [1, 3, 6, 7, 8], 1000)]) (n := 200) ?_
    have e : runCut Try.prog (tiOf Try.prog) (envCt D) [(14, [1, 2, 3, 6, 9, 10, 11, 12], 1000), (20, [1, 2, 3, 6, 9, 10, 11, 12, 13, 14], 1000), (4, [1, 3, 6, 7, 8], 1000)] 0 Try.f40.results.toList some 200 (at_ Try.f40 14) (S40n_14z4 x y s a b c d id most kg lvb ag) = T40n_14z4 D (fun rt => some (.ret (rt))) (fun x y s a b c d id most kg lvb ag => some (.cut (at_ Try.f40 14) (S40n_14z0 x y s a b c d id most kg lvb ag))) (fun x y s a b c d id most kg lvb al => some (.cut (at_ Try.f40 14) (S40n_14d0 x y s a b c d id most kg lvb al))) (fun x y s a b c d id most kg lvb ag => some (.cut (at_ Try.f40 14) (S40n_14z1 x y s a b c d id most kg lvb ag))) (fun x y s a b c d id most kg lvb al => some (.cut (at_ Try.f40 14) (S40n_14d1 x y s a b c d id most kg lvb al))) (fun x y s a b c d id most kg lvb ag => some (.cut (at_ Try.f40 14) (S40n_14z2 x y s a b c d id most kg lvb ag))) (fun x y s a b c d id most kg lvb al => some (.cut (at_ Try.f40 14) (S40n_14d2 x y s a b c d id most kg lvb al))) (fun x y s a b c d id most kg lvb ag => some (.cut (at_ Try.f40 14) (S40n_14z3 x y s a b c d id most kg lvb ag))) (fun x y s a b c d id most kg lvb al => some (.cut (at_ Try.f40 14) (S40n_14d3 x y s a b c d id most kg lvb al))) (fun x y s a b c d id most kg lvb ag => some (.cut (at_ Try.f40 14) (S40n_14z4 x y s a b c d id most kg lvb ag))) (fun x y s a b c d id most kg lvb al => some (.cut (at_ Try.f40 14) (S40n_14d4 x y s a b c d id most kg lvb al))) (fun x y s a b c d id most kg lvb ag kt i => some (.cut (at_ Try.f40 20) (S40n_20z0 x y s a b c d id most kg lvb ag kt i))) (fun x y s a b c d id most kg lvb al kt i => some (.cut (at_ Try.f40 20) (S40n_20d0 x y s a b c d id most kg lvb al kt i))) (fun x y s a b c d id most kg lvb ag kt i => some (.cut (at_ Try.f40 20) (S40n_20z1 x y s a b c d id most kg lvb ag kt i))) (fun x y s a b c d id most kg lvb al kt i => some (.cut (at_ Try.f40 20) (S40n_20d1 x y s a b c d id most kg lvb al kt i))) (fun x y s a b c d id most kg lvb ag kt i => some (.cut (at_ Try.f40 20) (S40n_20z2 x y s a b c d id most kg lvb ag kt i))) (fun x y s a b c d id most kg lvb al kt i => some (.cut (at_ Try.f40 20) (S40n_20d2 x y s a b c d id most kg lvb al kt i))) (fun x y s a b c d id most kg lvb ag kt i => some (.cut (at_ Try.f40 20) (S40n_20z3 x y s a b c d id most kg lvb ag kt i))) (fun x y s a b c d id most kg lvb al kt i => some (.cut (at_ Try.f40 20) (S40n_20d3 x y s a b c d id most kg lvb al kt i))) (some (.cut (at_ Try.f40 4) (S40n_4 ))) x y s a b c d id most kg lvb ag := by kernel_rfl
    rw [e]
    exact (good_sel h (fun _ h => (good_sel h (fun _ h => good_ret (by cases h; rfl)) (fun _ h => good_ret (by cases h; rfl)))) (fun _ h => good_ret (by cases h; rfl)))
theorem t40n_14d4 (D : Nat) (hE : EnvOK Try.prog (envCt D)) : ∀ (k : Nat) (x : Int) (y : Int) (s : Int) (a : Tr) (b : Tr) (c : Tr) (d : Tr) (id : Int) (most : Int) (kg : Nat → F) (lvb : Bool) (al : List Int) (rt : F), L40n_14d4 D k x y s a b c d id most kg lvb al = some rt → Ends Try.prog Try.f40.results.toList (at_ Try.f40 14) (S40n_14d4 x y s a b c d id most kg lvb al) (rt)
  | 0, _, _, _, _, _, _, _, _, _, _, _, _, _, h => nomatch h
  | k + 1, x, y, s, a, b, c, d, id, most, kg, lvb, al, rt, h => by
    refine Ends.of_cut tyOK hE (T := [(14, [1, 2, 3, 6, 9, 10, 11, 12], 1000), (20, [1, 2, 3, 6, 9, 10, 11, 12, 13, 14], 1000), (4, [1, 3, 6, 7, 8], 1000)]) (n := 200) ?_
    have e : runCut Try.prog (tiOf Try.prog) (envCt D) [(14, [1, 2, 3, 6, 9, 10, 11, 12], 1000), (20, [1, 2, 3, 6, 9, 10, 11, 12, 13, 14], 1000), (4, [1, 3, 6, 7, 8], 1000)] 0 Try.f40.results.toList some 200 (at_ Try.f40 14) (S40n_14d4 x y s a b c d id most kg lvb al) = T40n_14d4 D (fun rt => some (.ret (rt))) (fun x y s a b c d id most kg lvb ag => some (.cut (at_ Try.f40 14) (S40n_14z0 x y s a b c d id most kg lvb ag))) (fun x y s a b c d id most kg lvb al => some (.cut (at_ Try.f40 14) (S40n_14d0 x y s a b c d id most kg lvb al))) (fun x y s a b c d id most kg lvb ag => some (.cut (at_ Try.f40 14) (S40n_14z1 x y s a b c d id most kg lvb ag))) (fun x y s a b c d id most kg lvb al => some (.cut (at_ Try.f40 14) (S40n_14d1 x y s a b c d id most kg lvb al))) (fun x y s a b c d id most kg lvb ag => some (.cut (at_ Try.f40 14) (S40n_14z2 x y s a b c d id most kg lvb ag))) (fun x y s a b c d id most kg lvb al => some (.cut (at_ Try.f40 14) (S40n_14d2 x y s a b c d id most kg lvb al))) (fun x y s a b c d id most kg lvb ag => some (.cut (at_ Try.f40 14) (S40n_14z3 x y s a b c d id most kg lvb ag))) (fun x y s a b c d id most kg lvb al => some (.cut (at_ Try.f40 14) (S40n_14d3 x y s a b c d id most kg lvb al))) (fun x y s a b c d id most kg lvb ag => some (.cut (at_ Try.f40 14) (S40n_14z4 x y s a b c d id most kg lvb ag))) (fun x y s a b c d id most kg lvb al => some (.cut (at_ Try.f40 14) (S40n_14d4 x y s a b c d id most kg lvb al))) (fun x y s a b c d id most kg lvb ag kt i => some (.cut (at_ Try.f40 20) (S40n_20z0 x y s a b c d id most kg lvb ag kt i))) (fun x y s a b c d id most kg lvb al kt i => some (.cut (at_ Try.f40 20) (S40n_20d0 x y s a b c d id most kg lvb al kt i))) (fun x y s a b c d id most kg lvb ag kt i => some (.cut (at_ Try.f40 20) (S40n_20z1 x y s a b c d id most kg lvb ag kt i))) (fun x y s a b c d id most kg lvb al kt i => some (.cut (at_ Try.f40 20) (S40n_20d1 x y s a b c d id most kg lvb al kt i))) (fun x y s a b c d id most kg lvb ag kt i => some (.cut (at_ Try.f40 20) (S40n_20z2 x y s a b c d id most kg lvb ag kt i))) (fun x y s a b c d id most kg lvb al kt i => some (.cut (at_ Try.f40 20) (S40n_20d2 x y s a b c d id most kg lvb al kt i))) (fun x y s a b c d id most kg lvb ag kt i => some (.cut (at_ Try.f40 20) (S40n_20z3 x y s a b c d id most kg lvb ag kt i))) (fun x y s a b c d id most kg lvb al kt i => some (.cut (at_ Try.f40 20) (S40n_20d3 x y s a b c d id most kg lvb al kt i))) (some (.cut (at_ Try.f40 4) (S40n_4 ))) x y s a b c d id most kg lvb al := by kernel_rfl
    rw [e]
    exact (good_sel h (fun _ h => (good_sel h (fun _ h => good_ret (by cases h; rfl)) (fun _ h => good_ret (by cases h; rfl)))) (fun _ h => good_ret (by cases h; rfl)))
theorem t40n_20z0 (D : Nat) (hE : EnvOK Try.prog (envCt D)) : ∀ (k : Nat) (x : Int) (y : Int) (s : Int) (a : Tr) (b : Tr) (c : Tr) (d : Tr) (id : Int) (most : Int) (kg : Nat → F) (lvb : Bool) (ag : Nat → F) (kt : Tr) (i : Int) (rt : F), L40n_20z0 D k x y s a b c d id most kg lvb ag kt i = some rt → Ends Try.prog Try.f40.results.toList (at_ Try.f40 20) (S40n_20z0 x y s a b c d id most kg lvb ag kt i) (rt)
  | 0, _, _, _, _, _, _, _, _, _, _, _, _, _, _, _, h => nomatch h
  | k + 1, x, y, s, a, b, c, d, id, most, kg, lvb, ag, kt, i, rt, h => by
    refine Ends.of_cut tyOK hE (T := [(14, [1, 2, 3, 6, 9, 10, 11, 12], 1000), (20, [1, 2, 3, 6, 9, 10, 11, 12, 13, 14], 1000), (4, [1, 3, 6, 7, 8], 1000)]) (n := 200) ?_
    have e : runCut Try.prog (tiOf Try.prog) (envCt D) [(14, [1, 2, 3, 6, 9, 10, 11, 12], 1000), (20, [1, 2, 3, 6, 9, 10, 11, 12, 13, 14], 1000), (4, [1, 3, 6, 7, 8], 1000)] 0 Try.f40.results.toList some 200 (at_ Try.f40 20) (S40n_20z0 x y s a b c d id most kg lvb ag kt i) = T40n_20z0 D (fun rt => some (.ret (rt))) (fun x y s a b c d id most kg lvb ag => some (.cut (at_ Try.f40 14) (S40n_14z0 x y s a b c d id most kg lvb ag))) (fun x y s a b c d id most kg lvb al => some (.cut (at_ Try.f40 14) (S40n_14d0 x y s a b c d id most kg lvb al))) (fun x y s a b c d id most kg lvb ag => some (.cut (at_ Try.f40 14) (S40n_14z1 x y s a b c d id most kg lvb ag))) (fun x y s a b c d id most kg lvb al => some (.cut (at_ Try.f40 14) (S40n_14d1 x y s a b c d id most kg lvb al))) (fun x y s a b c d id most kg lvb ag => some (.cut (at_ Try.f40 14) (S40n_14z2 x y s a b c d id most kg lvb ag))) (fun x y s a b c d id most kg lvb al => some (.cut (at_ Try.f40 14) (S40n_14d2 x y s a b c d id most kg lvb al))) (fun x y s a b c d id most kg lvb ag => some (.cut (at_ Try.f40 14) (S40n_14z3 x y s a b c d id most kg lvb ag))) (fun x y s a b c d id most kg lvb al => some (.cut (at_ Try.f40 14) (S40n_14d3 x y s a b c d id most kg lvb al))) (fun x y s a b c d id most kg lvb ag => some (.cut (at_ Try.f40 14) (S40n_14z4 x y s a b c d id most kg lvb ag))) (fun x y s a b c d id most kg lvb al => some (.cut (at_ Try.f40 14) (S40n_14d4 x y s a b c d id most kg lvb al))) (fun x y s a b c d id most kg lvb ag kt i => some (.cut (at_ Try.f40 20) (S40n_20z0 x y s a b c d id most kg lvb ag kt i))) (fun x y s a b c d id most kg lvb al kt i => some (.cut (at_ Try.f40 20) (S40n_20d0 x y s a b c d id most kg lvb al kt i))) (fun x y s a b c d id most kg lvb ag kt i => some (.cut (at_ Try.f40 20) (S40n_20z1 x y s a b c d id most kg lvb ag kt i))) (fun x y s a b c d id most kg lvb al kt i => some (.cut (at_ Try.f40 20) (S40n_20d1 x y s a b c d id most kg lvb al kt i))) (fun x y s a b c d id most kg lvb ag kt i => some (.cut (at_ Try.f40 20) (S40n_20z2 x y s a b c d id most kg lvb ag kt i))) (fun x y s a b c d id most kg lvb al kt i => some (.cut (at_ Try.f40 20) (S40n_20d2 x y s a b c d id most kg lvb al kt i))) (fun x y s a b c d id most kg lvb ag kt i => some (.cut (at_ Try.f40 20) (S40n_20z3 x y s a b c d id most kg lvb ag kt i))) (fun x y s a b c d id most kg lvb al kt i => some (.cut (at_ Try.f40 20) (S40n_20d3 x y s a b c d id most kg lvb al kt i))) (some (.cut (at_ Try.f40 4) (S40n_4 ))) x y s a b c d id most kg lvb ag kt i := by kernel_rfl
    rw [e]
    exact (good_sel h (fun _ h => (good_sel h (fun _ h => (good_sel h (fun _ h => good_cut (t40n_20d0 D hE k _ _ _ _ _ _ _ _ _ _ _ _ _ _ rt h)) (fun _ h => nomatch h))) (fun _ h => nomatch h))) (fun _ h => good_cut (t40n_14z1 D hE k _ _ _ _ _ _ _ _ _ _ _ _ rt h)))
theorem t40n_20d0 (D : Nat) (hE : EnvOK Try.prog (envCt D)) : ∀ (k : Nat) (x : Int) (y : Int) (s : Int) (a : Tr) (b : Tr) (c : Tr) (d : Tr) (id : Int) (most : Int) (kg : Nat → F) (lvb : Bool) (al : List Int) (kt : Tr) (i : Int) (rt : F), L40n_20d0 D k x y s a b c d id most kg lvb al kt i = some rt → Ends Try.prog Try.f40.results.toList (at_ Try.f40 20) (S40n_20d0 x y s a b c d id most kg lvb al kt i) (rt)
  | 0, _, _, _, _, _, _, _, _, _, _, _, _, _, _, _, h => nomatch h
  | k + 1, x, y, s, a, b, c, d, id, most, kg, lvb, al, kt, i, rt, h => by
    refine Ends.of_cut tyOK hE (T := [(14, [1, 2, 3, 6, 9, 10, 11, 12], 1000), (20, [1, 2, 3, 6, 9, 10, 11, 12, 13, 14], 1000), (4, [1, 3, 6, 7, 8], 1000)]) (n := 200) ?_
    have e : runCut Try.prog (tiOf Try.prog) (envCt D) [(14, [1, 2, 3, 6, 9, 10, 11, 12], 1000), (20, [1, 2, 3, 6, 9, 10, 11, 12, 13, 14], 1000), (4, [1, 3, 6, 7, 8], 1000)] 0 Try.f40.results.toList some 200 (at_ Try.f40 20) (S40n_20d0 x y s a b c d id most kg lvb al kt i) = T40n_20d0 D (fun rt => some (.ret (rt))) (fun x y s a b c d id most kg lvb ag => some (.cut (at_ Try.f40 14) (S40n_14z0 x y s a b c d id most kg lvb ag))) (fun x y s a b c d id most kg lvb al => some (.cut (at_ Try.f40 14) (S40n_14d0 x y s a b c d id most kg lvb al))) (fun x y s a b c d id most kg lvb ag => some (.cut (at_ Try.f40 14) (S40n_14z1 x y s a b c d id most kg lvb ag))) (fun x y s a b c d id most kg lvb al => some (.cut (at_ Try.f40 14) (S40n_14d1 x y s a b c d id most kg lvb al))) (fun x y s a b c d id most kg lvb ag => some (.cut (at_ Try.f40 14) (S40n_14z2 x y s a b c d id most kg lvb ag))) (fun x y s a b c d id most kg lvb al => some (.cut (at_ Try.f40 14) (S40n_14d2 x y s a b c d id most kg lvb al))) (fun x y s a b c d id most kg lvb ag => some (.cut (at_ Try.f40 14) (S40n_14z3 x y s a b c d id most kg lvb ag))) (fun x y s a b c d id most kg lvb al => some (.cut (at_ Try.f40 14) (S40n_14d3 x y s a b c d id most kg lvb al))) (fun x y s a b c d id most kg lvb ag => some (.cut (at_ Try.f40 14) (S40n_14z4 x y s a b c d id most kg lvb ag))) (fun x y s a b c d id most kg lvb al => some (.cut (at_ Try.f40 14) (S40n_14d4 x y s a b c d id most kg lvb al))) (fun x y s a b c d id most kg lvb ag kt i => some (.cut (at_ Try.f40 20) (S40n_20z0 x y s a b c d id most kg lvb ag kt i))) (fun x y s a b c d id most kg lvb al kt i => some (.cut (at_ Try.f40 20) (S40n_20d0 x y s a b c d id most kg lvb al kt i))) (fun x y s a b c d id most kg lvb ag kt i => some (.cut (at_ Try.f40 20) (S40n_20z1 x y s a b c d id most kg lvb ag kt i))) (fun x y s a b c d id most kg lvb al kt i => some (.cut (at_ Try.f40 20) (S40n_20d1 x y s a b c d id most kg lvb al kt i))) (fun x y s a b c d id most kg lvb ag kt i => some (.cut (at_ Try.f40 20) (S40n_20z2 x y s a b c d id most kg lvb ag kt i))) (fun x y s a b c d id most kg lvb al kt i => some (.cut (at_ Try.f40 20) (S40n_20d2 x y s a b c d id most kg lvb al kt i))) (fun x y s a b c d id most kg lvb ag kt i => some (.cut (at_ Try.f40 20) (S40n_20z3 x y s a b c d id most kg lvb ag kt i))) (fun x y s a b c d id most kg lvb al kt i => some (.cut (at_ Try.f40 20) (S40n_20d3 x y s a b c d id most kg lvb al kt i))) (some (.cut (at_ Try.f40 4) (S40n_4 ))) x y s a b c d id most kg lvb al kt i := by kernel_rfl
    rw [e]
    exact (good_sel h (fun _ h => (good_sel h (fun _ h => (good_sel h (fun _ h => (good_sel h (fun _ h => good_cut (t40n_20d0 D hE k _ _ _ _ _ _ _ _ _ _ _ _ _ _ rt h)) (fun _ h => nomatch h))) (fun _ h => nomatch h))) (fun _ h => nomatch h))) (fun _ h => good_cut (t40n_14d1 D hE k _ _ _ _ _ _ _ _ _ _ _ _ rt h)))
theorem t40n_20z1 (D : Nat) (hE : EnvOK Try.prog (envCt D)) : ∀ (k : Nat) (x : Int) (y : Int) (s : Int) (a : Tr) (b : Tr) (c : Tr) (d : Tr) (id : Int) (most : Int) (kg : Nat → F) (lvb : Bool) (ag : Nat → F) (kt : Tr) (i : Int) (rt : F), L40n_20z1 D k x y s a b c d id most kg lvb ag kt i = some rt → Ends Try.prog Try.f40.results.toList (at_ Try.f40 20) (S40n_20z1 x y s a b c d id most kg lvb ag kt i) (rt)
  | 0, _, _, _, _, _, _, _, _, _, _, _, _, _, _, _, h => nomatch h
  | k + 1, x, y, s, a, b, c, d, id, most, kg, lvb, ag, kt, i, rt, h => by
    refine Ends.of_cut tyOK hE (T := [(14, [1, 2, 3, 6, 9, 10, 11, 12], 1000), (20, [1, 2, 3, 6, 9, 10, 11, 12, 13, 14], 1000), (4, [1, 3, 6, 7, 8], 1000)]) (n := 200) ?_
    have e : runCut Try.prog (tiOf Try.prog) (envCt D) [(14, [1, 2, 3, 6, 9, 10, 11, 12], 1000), (20, [1, 2, 3, 6, 9, 10, 11, 12, 13, 14], 1000), (4, [1, 3, 6, 7, 8], 1000)] 0 Try.f40.results.toList some 200 (at_ Try.f40 20) (S40n_20z1 x y s a b c d id most kg lvb ag kt i) = T40n_20z1 D (fun rt => some (.ret (rt))) (fun x y s a b c d id most kg lvb ag => some (.cut (at_ Try.f40 14) (S40n_14z0 x y s a b c d id most kg lvb ag))) (fun x y s a b c d id most kg lvb al => some (.cut (at_ Try.f40 14) (S40n_14d0 x y s a b c d id most kg lvb al))) (fun x y s a b c d id most kg lvb ag => some (.cut (at_ Try.f40 14) (S40n_14z1 x y s a b c d id most kg lvb ag))) (fun x y s a b c d id most kg lvb al => some (.cut (at_ Try.f40 14) (S40n_14d1 x y s a b c d id most kg lvb al))) (fun x y s a b c d id most kg lvb ag => some (.cut (at_ Try.f40 14) (S40n_14z2 x y s a b c d id most kg lvb ag))) (fun x y s a b c d id most kg lvb al => some (.cut (at_ Try.f40 14) (S40n_14d2 x y s a b c d id most kg lvb al))) (fun x y s a b c d id most kg lvb ag => some (.cut (at_ Try.f40 14) (S40n_14z3 x y s a b c d id most kg lvb ag))) (fun x y s a b c d id most kg lvb al => some (.cut (at_ Try.f40 14) (S40n_14d3 x y s a b c d id most kg lvb al))) (fun x y s a b c d id most kg lvb ag => some (.cut (at_ Try.f40 14) (S40n_14z4 x y s a b c d id most kg lvb ag))) (fun x y s a b c d id most kg lvb al => some (.cut (at_ Try.f40 14) (S40n_14d4 x y s a b c d id most kg lvb al))) (fun x y s a b c d id most kg lvb ag kt i => some (.cut (at_ Try.f40 20) (S40n_20z0 x y s a b c d id most kg lvb ag kt i))) (fun x y s a b c d id most kg lvb al kt i => some (.cut (at_ Try.f40 20) (S40n_20d0 x y s a b c d id most kg lvb al kt i))) (fun x y s a b c d id most kg lvb ag kt i => some (.cut (at_ Try.f40 20) (S40n_20z1 x y s a b c d id most kg lvb ag kt i))) (fun x y s a b c d id most kg lvb al kt i => some (.cut (at_ Try.f40 20) (S40n_20d1 x y s a b c d id most kg lvb al kt i))) (fun x y s a b c d id most kg lvb ag kt i => some (.cut (at_ Try.f40 20) (S40n_20z2 x y s a b c d id most kg lvb ag kt i))) (fun x y s a b c d id most kg lvb al kt i => some (.cut (at_ Try.f40 20) (S40n_20d2 x y s a b c d id most kg lvb al kt i))) (fun x y s a b c d id most kg lvb ag kt i => some (.cut (at_ Try.f40 20) (S40n_20z3 x y s a b c d id most kg lvb ag kt i))) (fun x y s a b c d id most kg lvb al kt i => some (.cut (at_ Try.f40 20) (S40n_20d3 x y s a b c d id most kg lvb al kt i))) (some (.cut (at_ Try.f40 4) (S40n_4 ))) x y s a b c d id most kg lvb ag kt i := by kernel_rfl
    rw [e]
    exact (good_sel h (fun _ h => (good_sel h (fun _ h => (good_sel h (fun _ h => good_cut (t40n_20d1 D hE k _ _ _ _ _ _ _ _ _ _ _ _ _ _ rt h)) (fun _ h => nomatch h))) (fun _ h => nomatch h))) (fun _ h => good_cut (t40n_14z2 D hE k _ _ _ _ _ _ _ _ _ _ _ _ rt h)))
theorem t40n_20d1 (D : Nat) (hE : EnvOK Try.prog (envCt D)) : ∀ (k : Nat) (x : Int) (y : Int) (s : Int) (a : Tr) (b : Tr) (c : Tr) (d : Tr) (id : Int) (most : Int) (kg : Nat → F) (lvb : Bool) (al : List Int) (kt : Tr) (i : Int) (rt : F), L40n_20d1 D k x y s a b c d id most kg lvb al kt i = some rt → Ends Try.prog Try.f40.results.toList (at_ Try.f40 20) (S40n_20d1 x y s a b c d id most kg lvb al kt i) (rt)
  | 0, _, _, _, _, _, _, _, _, _, _, _, _, _, _, _, h => nomatch h
  | k + 1, x, y, s, a, b, c, d, id, most, kg, lvb, al, kt, i, rt, h => by
    refine Ends.of_cut tyOK hE (T := [(14, [1, 2, 3, 6, 9, 10, 11, 12], 1000), (20, [1, 2, 3, 6, 9, 10, 11, 12, 13, 14], 1000), (4, [1, 3, 6, 7, 8], 1000)]) (n := 200) ?_
    have e : runCut Try.prog (tiOf Try.prog) (envCt D) [(14, [1, 2, 3, 6, 9, 10, 11, 12], 1000), (20, [1, 2, 3, 6, 9, 10, 11, 12, 13, 14], 1000), (4, [1, 3, 6, 7, 8], 1000)] 0 Try.f40.results.toList some 200 (at_ Try.f40 20) (S40n_20d1 x y s a b c d id most kg lvb al kt i) = T40n_20d1 D (fun rt => some (.ret (rt))) (fun x y s a b c d id most kg lvb ag => some (.cut (at_ Try.f40 14) (S40n_14z0 x y s a b c d id most kg lvb ag))) (fun x y s a b c d id most kg lvb al => some (.cut (at_ Try.f40 14) (S40n_14d0 x y s a b c d id most kg lvb al))) (fun x y s a b c d id most kg lvb ag => some (.cut (at_ Try.f40 14) (S40n_14z1 x y s a b c d id most kg lvb ag))) (fun x y s a b c d id most kg lvb al => some (.cut (at_ Try.f40 14) (S40n_14d1 x y s a b c d id most kg lvb al))) (fun x y s a b c d id most kg lvb ag => some (.cut (at_ Try.f40 14) (S40n_14z2 x y s a b c d id most kg lvb ag))) (fun x y s a b c d id most kg lvb al => some (.cut (at_ Try.f40 14) (S40n_14d2 x y s a b c d id most kg lvb al))) (fun x y s a b c d id most kg lvb ag => some (.cut (at_ Try.f40 14) (S40n_14z3 x y s a b c d id most kg lvb ag))) (fun x y s a b c d id most kg lvb al => some (.cut (at_ Try.f40 14) (S40n_14d3 x y s a b c d id most kg lvb al))) (fun x y s a b c d id most kg lvb ag => some (.cut (at_ Try.f40 14) (S40n_14z4 x y s a b c d id most kg lvb ag))) (fun x y s a b c d id most kg lvb al => some (.cut (at_ Try.f40 14) (S40n_14d4 x y s a b c d id most kg lvb al))) (fun x y s a b c d id most kg lvb ag kt i => some (.cut (at_ Try.f40 20) (S40n_20z0 x y s a b c d id most kg lvb ag kt i))) (fun x y s a b c d id most kg lvb al kt i => some (.cut (at_ Try.f40 20) (S40n_20d0 x y s a b c d id most kg lvb al kt i))) (fun x y s a b c d id most kg lvb ag kt i => some (.cut (at_ Try.f40 20) (S40n_20z1 x y s a b c d id most kg lvb ag kt i))) (fun x y s a b c d id most kg lvb al kt i => some (.cut (at_ Try.f40 20) (S40n_20d1 x y s a b c d id most kg lvb al kt i))) (fun x y s a b c d id most kg lvb ag kt i => some (.cut (at_ Try.f40 20) (S40n_20z2 x y s a b c d id most kg lvb ag kt i))) (fun x y s a b c d id most kg lvb al kt i => some (.cut (at_ Try.f40 20) (S40n_20d2 x y s a b c d id most kg lvb al kt i))) (fun x y s a b c d id most kg lvb ag kt i => some (.cut (at_ Try.f40 20) (S40n_20z3 x y s a b c d id most kg lvb ag kt i))) (fun x y s a b c d id most kg lvb al kt i => some (.cut (at_ Try.f40 20) (S40n_20d3 x y s a b c d id most kg lvb al kt i))) (some (.cut (at_ Try.f40 4) (S40n_4 ))) x y s a b c d id most kg lvb al kt i := by kernel_rfl
    rw [e]
    exact (good_sel h (fun _ h => (good_sel h (fun _ h => (good_sel h (fun _ h => (good_sel h (fun _ h => good_cut (t40n_20d1 D hE k _ _ _ _ _ _ _ _ _ _ _ _ _ _ rt h)) (fun _ h => nomatch h))) (fun _ h => nomatch h))) (fun _ h => nomatch h))) (fun _ h => good_cut (t40n_14d2 D hE k _ _ _ _ _ _ _ _ _ _ _ _ rt h)))
theorem t40n_20z2 (D : Nat) (hE : EnvOK Try.prog (envCt D)) : ∀ (k : Nat) (x : Int) (y : Int) (s : Int) (a : Tr) (b : Tr) (c : Tr) (d : Tr) (id : Int) (most : Int) (kg : Nat → F) (lvb : Bool) (ag : Nat → F) (kt : Tr) (i : Int) (rt : F), L40n_20z2 D k x y s a b c d id most kg lvb ag kt i = some rt → Ends Try.prog Try.f40.results.toList (at_ Try.f40 20) (S40n_20z2 x y s a b c d id most kg lvb ag kt i) (rt)
  | 0, _, _, _, _, _, _, _, _, _, _, _, _, _, _, _, h => nomatch h
  | k + 1, x, y, s, a, b, c, d, id, most, kg, lvb, ag, kt, i, rt, h => by
    refine Ends.of_cut tyOK hE (T := [(14, [1, 2, 3, 6, 9, 10, 11, 12], 1000), (20, [1, 2, 3, 6, 9, 10, 11, 12, 13, 14], 1000), (4, [1, 3, 6, 7, 8], 1000)]) (n := 200) ?_
    have e : runCut Try.prog (tiOf Try.prog) (envCt D) [(14, [1, 2, 3, 6, 9, 10, 11, 12], 1000), (20, [1, 2, 3, 6, 9, 10, 11, 12, 13, 14], 1000), (4, [1, 3, 6, 7, 8], 1000)] 0 Try.f40.results.toList some 200 (at_ Try.f40 20) (S40n_20z2 x y s a b c d id most kg lvb ag kt i) = T40n_20z2 D (fun rt => some (.ret (rt))) (fun x y s a b c d id most kg lvb ag => some (.cut (at_ Try.f40 14) (S40n_14z0 x y s a b c d id most kg lvb ag))) (fun x y s a b c d id most kg lvb al => some (.cut (at_ Try.f40 14) (S40n_14d0 x y s a b c d id most kg lvb al))) (fun x y s a b c d id most kg lvb ag => some (.cut (at_ Try.f40 14) (S40n_14z1 x y s a b c d id most kg lvb ag))) (fun x y s a b c d id most kg lvb al => some (.cut (at_ Try.f40 14) (S40n_14d1 x y s a b c d id most kg lvb al))) (fun x y s a b c d id most kg lvb ag => some (.cut (at_ Try.f40 14) (S40n_14z2 x y s a b c d id most kg lvb ag))) (fun x y s a b c d id most kg lvb al => some (.cut (at_ Try.f40 14) (S40n_14d2 x y s a b c d id most kg lvb al))) (fun x y s a b c d id most kg lvb ag => some (.cut (at_ Try.f40 14) (S40n_14z3 x y s a b c d id most kg lvb ag))) (fun x y s a b c d id most kg lvb al => some (.cut (at_ Try.f40 14) (S40n_14d3 x y s a b c d id most kg lvb al))) (fun x y s a b c d id most kg lvb ag => some (.cut (at_ Try.f40 14) (S40n_14z4 x y s a b c d id most kg lvb ag))) (fun x y s a b c d id most kg lvb al => some (.cut (at_ Try.f40 14) (S40n_14d4 x y s a b c d id most kg lvb al))) (fun x y s a b c d id most kg lvb ag kt i => some (.cut (at_ Try.f40 20) (S40n_20z0 x y s a b c d id most kg lvb ag kt i))) (fun x y s a b c d id most kg lvb al kt i => some (.cut (at_ Try.f40 20) (S40n_20d0 x y s a b c d id most kg lvb al kt i))) (fun x y s a b c d id most kg lvb ag kt i => some (.cut (at_ Try.f40 20) (S40n_20z1 x y s a b c d id most kg lvb ag kt i))) (fun x y s a b c d id most kg lvb al kt i => some (.cut (at_ Try.f40 20) (S40n_20d1 x y s a b c d id most kg lvb al kt i))) (fun x y s a b c d id most kg lvb ag kt i => some (.cut (at_ Try.f40 20) (S40n_20z2 x y s a b c d id most kg lvb ag kt i))) (fun x y s a b c d id most kg lvb al kt i => some (.cut (at_ Try.f40 20) (S40n_20d2 x y s a b c d id most kg lvb al kt i))) (fun x y s a b c d id most kg lvb ag kt i => some (.cut (at_ Try.f40 20) (S40n_20z3 x y s a b c d id most kg lvb ag kt i))) (fun x y s a b c d id most kg lvb al kt i => some (.cut (at_ Try.f40 20) (S40n_20d3 x y s a b c d id most kg lvb al kt i))) (some (.cut (at_ Try.f40 4) (S40n_4 ))) x y s a b c d id most kg lvb ag kt i := by kernel_rfl
    rw [e]
    exact (good_sel h (fun _ h => (good_sel h (fun _ h => (good_sel h (fun _ h => good_cut (t40n_20d2 D hE k _ _ _ _ _ _ _ _ _ _ _ _ _ _ rt h)) (fun _ h => nomatch h))) (fun _ h => nomatch h))) (fun _ h => good_cut (t40n_14z3 D hE k _ _ _ _ _ _ _ _ _ _ _ _ rt h)))
theorem t40n_20d2 (D : Nat) (hE : EnvOK Try.prog (envCt D)) : ∀ (k : Nat) (x : Int) (y : Int) (s : Int) (a : Tr) (b : Tr) (c : Tr) (d : Tr) (id : Int) (most : Int) (kg : Nat → F) (lvb : Bool) (al : List Int) (kt : Tr) (i : Int) (rt : F), L40n_20d2 D k x y s a b c d id most kg lvb al kt i = some rt → Ends Try.prog Try.f40.results.toList (at_ Try.f40 20) (S40n_20d2 x y s a b c d id most kg lvb al kt i) (rt)
  | 0, _, _, _, _, _, _, _, _, _, _, _, _, _, _, _, h => nomatch h
  | k + 1, x, y, s, a, b, c, d, id, most, kg, lvb, al, kt, i, rt, h => by
    refine Ends.of_cut tyOK hE (T := [(14, [1, 2, 3, 6, 9, 10, 11, 12], 1000), (20, [1, 2, 3, 6, 9, 10, 11, 12, 13, 14], 1000), (4, [1, 3, 6, 7, 8], 1000)]) (n := 200) ?_
    have e : runCut Try.prog (tiOf Try.prog) (envCt D) [(14, [1, 2, 3, 6, 9, 10, 11, 12], 1000), (20, [1, 2, 3, 6, 9, 10, 11, 12, 13, 14], 1000), (4, [1, 3, 6, 7, 8], 1000)] 0 Try.f40.results.toList some 200 (at_ Try.f40 20) (S40n_20d2 x y s a b c d id most kg lvb al kt i) = T40n_20d2 D (fun rt => some (.ret (rt))) (fun x y s a b c d id most kg lvb ag => some (.cut (at_ Try.f40 14) (S40n_14z0 x y s a b c d id most kg lvb ag))) (fun x y s a b c d id most kg lvb al => some (.cut (at_ Try.f40 14) (S40n_14d0 x y s a b c d id most kg lvb al))) (fun x y s a b c d id most kg lvb ag => some (.cut (at_ Try.f40 14) (S40n_14z1 x y s a b c d id most kg lvb ag))) (fun x y s a b c d id most kg lvb al => some (.cut (at_ Try.f40 14) (S40n_14d1 x y s a b c d id most kg lvb al))) (fun x y s a b c d id most kg lvb ag => some (.cut (at_ Try.f40 14) (S40n_14z2 x y s a b c d id most kg lvb ag))) (fun x y s a b c d id most kg lvb al => some (.cut (at_ Try.f40 14) (S40n_14d2 x y s a b c d id most kg lvb al))) (fun x y s a b c d id most kg lvb ag => some (.cut (at_ Try.f40 14) (S40n_14z3 x y s a b c d id most kg lvb ag))) (fun x y s a b c d id most kg lvb al => some (.cut (at_ Try.f40 14) (S40n_14d3 x y s a b c d id most kg lvb al))) (fun x y s a b c d id most kg lvb ag => some (.cut (at_ Try.f40 14) (S40n_14z4 x y s a b c d id most kg lvb ag))) (fun x y s a b c d id most kg lvb al => some (.cut (at_ Try.f40 14) (S40n_14d4 x y s a b c d id most kg lvb al))) (fun x y s a b c d id most kg lvb ag kt i => some (.cut (at_ Try.f40 20) (S40n_20z0 x y s a b c d id most kg lvb ag kt i))) (fun x y s a b c d id most kg lvb al kt i => some (.cut (at_ Try.f40 20) (S40n_20d0 x y s a b c d id most kg lvb al kt i))) (fun x y s a b c d id most kg lvb ag kt i => some (.cut (at_ Try.f40 20) (S40n_20z1 x y s a b c d id most kg lvb ag kt i))) (fun x y s a b c d id most kg lvb al kt i => some (.cut (at_ Try.f40 20) (S40n_20d1 x y s a b c d id most kg lvb al kt i))) (fun x y s a b c d id most kg lvb ag kt i => some (.cut (at_ Try.f40 20) (S40n_20z2 x y s a b c d id most kg lvb ag kt i))) (fun x y s a b c d id most kg lvb al kt i => some (.cut (at_ Try.f40 20) (S40n_20d2 x y s a b c d id most kg lvb al kt i))) (fun x y s a b c d id most kg lvb ag kt i => some (.cut (at_ Try.f40 20) (S40n_20z3 x y s a b c d id most kg lvb ag kt i))) (fun x y s a b c d id most kg lvb al kt i => some (.cut (at_ Try.f40 20) (S40n_20d3 x y s a b c d id most kg lvb al kt i))) (some (.cut (at_ Try.f40 4) (S40n_4 ))) x y s a b c d id most kg lvb al kt i := by kernel_rfl
    rw [e]
    exact (good_sel h (fun _ h => (good_sel h (fun _ h => (good_sel h (fun _ h => (good_sel h (fun _ h => good_cut (t40n_20d2 D hE k _ _ _ _ _ _ _ _ _ _ _ _ _ _ rt h)) (fun _ h => nomatch h))) (fun _ h => nomatch h))) (fun _ h => nomatch h))) (fun _ h => good_cut (t40n_14d3 D hE k _ _ _ _ _ _ _ _ _ _ _ _ rt h)))
theorem t40n_20z3 (D : Nat) (hE : EnvOK Try.prog (envCt D)) : ∀ (k : Nat) (x : Int) (y : Int) (s : Int) (a : Tr) (b : Tr) (c : Tr) (d : Tr) (id : Int) (most : Int) (kg : Nat → F) (lvb : Bool) (ag : Nat → F) (kt : Tr) (i : Int) (rt : F), L40n_20z3 D k x y s a b c d id most kg lvb ag kt i = some rt → Ends Try.prog Try.f40.results.toList (at_ Try.f40 20) (S40n_20z3 x y s a b c d id most kg lvb ag kt i) (rt)
  | 0, _, _, _, _, _, _, _, _, _, _, _, _, _, _, _, h => nomatch h
  | k + 1, x, y, s, a, b, c, d, id, most, kg, lvb, ag, kt, i, rt, h => by
    refine Ends.of_cut tyOK hE (T := [(14, [1, 2, 3, 6, 9, 10, 11, 12], 1000), (20, [1, 2, 3, 6, 9, 10, 11, 12, 13, 14], 1000), (4, [1, 3, 6, 7, 8], 1000)]) (n := 200) ?_
    have e : runCut Try.prog (tiOf Try.prog) (envCt D) [(14, [1, 2, 3, 6, 9, 10, 11, 12], 1000), (20, [1, 2, 3, 6, 9, 10, 11, 12, 13, 14], 1000), (4, [1, 3, 6, 7, 8], 1000)] 0 Try.f40.results.toList some 200 (at_ Try.f40 20) (S40n_20z3 x y s a b c d id most kg lvb ag kt i) = T40n_20z3 D (fun rt => some (.ret (rt))) (fun x y s a b c d id most kg lvb ag => some (.cut (at_ Try.f40 14) (S40n_14z0 x y s a b c d id most kg lvb ag))) (fun x y s a b c d id most kg lvb al => some (.cut (at_ Try.f40 14) (S40n_14d0 x y s a b c d id most kg lvb al))) (fun x y s a b c d id most kg lvb ag => some (.cut (at_ Try.f40 14) (S40n_14z1 x y s a b c d id most kg lvb ag))) (fun x y s a b c d id most kg lvb al => some (.cut (at_ Try.f40 14) (S40n_14d1 x y s a b c d id most kg lvb al))) (fun x y s a b c d id most kg lvb ag => some (.cut (at_ Try.f40 14) (S40n_14z2 x y s a b c d id most kg lvb ag))) (fun x y s a b c d id most kg lvb al => some (.cut (at_ Try.f40 14) (S40n_14d2 x y s a b c d id most kg lvb al))) (fun x y s a b c d id most kg lvb ag => some (.cut (at_ Try.f40 14) (S40n_14z3 x y s a b c d id most kg lvb ag))) (fun x y s a b c d id most kg lvb al => some (.cut (at_ Try.f40 14) (S40n_14d3 x y s a b c d id most kg lvb al))) (fun x y s a b c d id most kg lvb ag => some (.cut (at_ Try.f40 14) (S40n_14z4 x y s a b c d id most kg lvb ag))) (fun x y s a b c d id most kg lvb al => some (.cut (at_ Try.f40 14) (S40n_14d4 x y s a b c d id most kg lvb al))) (fun x y s a b c d id most kg lvb ag kt i => some (.cut (at_ Try.f40 20) (S40n_20z0 x y s a b c d id most kg lvb ag kt i))) (fun x y s a b c d id most kg lvb al kt i => some (.cut (at_ Try.f40 20) (S40n_20d0 x y s a b c d id most kg lvb al kt i))) (fun x y s a b c d id most kg lvb ag kt i => some (.cut (at_ Try.f40 20) (S40n_20z1 x y s a b c d id most kg lvb ag kt i))) (fun x y s a b c d id most kg lvb al kt i => some (.cut (at_ Try.f40 20) (S40n_20d1 x y s a b c d id most kg lvb al kt i))) (fun x y s a b c d id most kg lvb ag kt i => some (.cut (at_ Try.f40 20) (S40n_20z2 x y s a b c d id most kg lvb ag kt i))) (fun x y s a b c d id most kg lvb al kt i => some (.cut (at_ Try.f40 20) (S40n_20d2 x y s a b c d id most kg lvb al kt i))) (fun x y s a b c d id most kg lvb ag kt i => some (.cut (at_ Try.f40 20) (S40n_20z3 x y s a b c d id most kg lvb ag kt i))) (fun x y s a b c d id most kg lvb al kt i => some (.cut (at_ Try.f40 20) (S40n_20d3 x y s a b c d id most kg lvb al kt i))) (some (.cut (at_ Try.f40 4) (S40n_4 ))) x y s a b c d id most kg lvb ag kt i := by kernel_rfl
    rw [e]
    exact (good_sel h (fun _ h => (good_sel h (fun _ h => (good_sel h (fun _ h => good_cut (t40n_20d3 D hE k _ _ _ _ _ _ _ _ _ _ _ _ _ _ rt h)) (fun _ h => nomatch h))) (fun _ h => nomatch h))) (fun _ h => good_cut (t40n_14z4 D hE k _ _ _ _ _ _ _ _ _ _ _ _ rt h)))
theorem t40n_20d3 (D : Nat) (hE : EnvOK Try.prog (envCt D)) : ∀ (k : Nat) (x : Int) (y : Int) (s : Int) (a : Tr) (b : Tr) (c : Tr) (d : Tr) (id : Int) (most : Int) (kg : Nat → F) (lvb : Bool) (al : List Int) (kt : Tr) (i : Int) (rt : F), L40n_20d3 D k x y s a b c d id most kg lvb al kt i = some rt → Ends Try.prog Try.f40.results.toList (at_ Try.f40 20) (S40n_20d3 x y s a b c d id most kg lvb al kt i) (rt)
  | 0, _, _, _, _, _, _, _, _, _, _, _, _, _, _, _, h => nomatch h
  | k + 1, x, y, s, a, b, c, d, id, most, kg, lvb, al, kt, i, rt, h => by
    refine Ends.of_cut tyOK hE (T := [(14, [1, 2, 3, 6, 9, 10, 11, 12], 1000), (20, [1, 2, 3, 6, 9, 10, 11, 12, 13, 14], 1000), (4, [1, 3, 6, 7, 8], 1000)]) (n := 200) ?_
    have e : runCut Try.prog (tiOf Try.prog) (envCt D) [(14, [1, 2, 3, 6, 9, 10, 11, 12], 1000), (20, [1, 2, 3, 6, 9, 10, 11, 12, 13, 14], 1000), (4, [1, 3, 6, 7, 8], 1000)] 0 Try.f40.results.toList some 200 (at_ Try.f40 20) (S40n_20d3 x y s a b c d id most kg lvb al kt i) = T40n_20d3 D (fun rt => some (.ret (rt))) (fun x y s a b c d id most kg lvb ag => some (.cut (at_ Try.f40 14) (S40n_14z0 x y s a b c d id most kg lvb ag))) (fun x y s a b c d id most kg lvb al => some (.cut (at_ Try.f40 14) (S40n_14d0 x y s a b c d id most kg lvb al))) (fun x y s a b c d id most kg lvb ag => some (.cut (at_ Try.f40 14) (S40n_14z1 x y s a b c d id most kg lvb ag))) (fun x y s a b c d id most kg lvb al => some (.cut (at_ Try.f40 14) (S40n_14d1 x y s a b c d id most kg lvb al))) (fun x y s a b c d id most kg lvb ag => some (.cut (at_ Try.f40 14) (S40n_14z2 x y s a b c d id most kg lvb ag))) (fun x y s a b c d id most kg lvb al => some (.cut (at_ Try.f40 14) (S40n_14d2 x y s a b c d id most kg lvb al))) (fun x y s a b c d id most kg lvb ag => some (.cut (at_ Try.f40 14) (S40n_14z3 x y s a b c d id most kg lvb ag))) (fun x y s a b c d id most kg lvb al => some (.cut (at_ Try.f40 14) (S40n_14d3 x y s a b c d id most kg lvb al))) (fun x y s a b c d id most kg lvb ag => some (.cut (at_ Try.f40 14) (S40n_14z4 x y s a b c d id most kg lvb ag))) (fun x y s a b c d id most kg lvb al => some (.cut (at_ Try.f40 14) (S40n_14d4 x y s a b c d id most kg lvb al))) (fun x y s a b c d id most kg lvb ag kt i => some (.cut (at_ Try.f40 20) (S40n_20z0 x y s a b c d id most kg lvb ag kt i))) (fun x y s a b c d id most kg lvb al kt i => some (.cut (at_ Try.f40 20) (S40n_20d0 x y s a b c d id most kg lvb al kt i))) (fun x y s a b c d id most kg lvb ag kt i => some (.cut (at_ Try.f40 20) (S40n_20z1 x y s a b c d id most kg lvb ag kt i))) (fun x y s a b c d id most kg lvb al kt i => some (.cut (at_ Try.f40 20) (S40n_20d1 x y s a b c d id most kg lvb al kt i))) (fun x y s a b c d id most kg lvb ag kt i => some (.cut (at_ Try.f40 20) (S40n_20z2 x y s a b c d id most kg lvb ag kt i))) (fun x y s a b c d id most kg lvb al kt i => some (.cut (at_ Try.f40 20) (S40n_20d2 x y s a b c d id most kg lvb al kt i))) (fun x y s a b c d id most kg lvb ag kt i => some (.cut (at_ Try.f40 20) (S40n_20z3 x y s a b c d id most kg lvb ag kt i))) (fun x y s a b c d id most kg lvb al kt i => some (.cut (at_ Try.f40 20) (S40n_20d3 x y s a b c d id most kg lvb al kt i))) (some (.cut (at_ Try.f40 4) (S40n_4 ))) x y s a b c d id most kg lvb al kt i := by kernel_rfl
    rw [e]
    exact (good_sel h (fun _ h => (good_sel h (fun _ h => (good_sel h (fun _ h => (good_sel h (fun _ h => good_cut (t40n_20d3 D hE k _ _ _ _ _ _ _ _ _ _ _ _ _ _ rt h)) (fun _ h => nomatch h))) (fun _ h => nomatch h))) (fun _ h => nomatch h))) (fun _ h => good_cut (t40n_14d4 D hE k _ _ _ _ _ _ _ _ _ _ _ _ rt h)))
theorem t40n_4 (D : Nat) (hE : EnvOK Try.prog (envCt D)) : ∀ (k : Nat)  (rt : F), L40n_4 D k  = some rt → Ends Try.prog Try.f40.results.toList (at_ Try.f40 4) (S40n_4 ) (rt)
  | 0, _, h => nomatch h
  | k + 1, rt, h => by
    refine Ends.of_cut tyOK hE (T := [(14, [1, 2, 3, 6, 9, 10, 11, 12], 1000), (20, [1, 2, 3, 6, 9, 10, 11, 12, 13, 14], 1000), (4, [1, 3, 6, 7, 8], 1000)]) (n := 200) ?_
    have e : runCut Try.prog (tiOf Try.prog) (envCt D) [(14, [1, 2, 3, 6, 9, 10, 11, 12], 1000), (20, [1, 2, 3, 6, 9, 10, 11, 12, 13, 14], 1000), (4, [1, 3, 6, 7, 8], 1000)] 0 Try.f40.results.toList some 200 (at_ Try.f40 4) (S40n_4 ) = T40n_4 D (fun rt => some (.ret (rt))) (fun x y s a b c d id most kg lvb ag => some (.cut (at_ Try.f40 14) (S40n_14z0 x y s a b c d id most kg lvb ag))) (fun x y s a b c d id most kg lvb al => some (.cut (at_ Try.f40 14) (S40n_14d0 x y s a b c d id most kg lvb al))) (fun x y s a b c d id most kg lvb ag => some (.cut (at_ Try.f40 14) (S40n_14z1 x y s a b c d id most kg lvb ag))) (fun x y s a b c d id most kg lvb al => some (.cut (at_ Try.f40 14) (S40n_14d1 x y s a b c d id most kg lvb al))) (fun x y s a b c d id most kg lvb ag => some (.cut (at_ Try.f40 14) (S40n_14z2 x y s a b c d id most kg lvb ag))) (fun x y s a b c d id most kg lvb al => some (.cut (at_ Try.f40 14) (S40n_14d2 x y s a b c d id most kg lvb al))) (fun x y s a b c d id most kg lvb ag => some (.cut (at_ Try.f40 14) (S40n_14z3 x y s a b c d id most kg lvb ag))) (fun x y s a b c d id most kg lvb al => some (.cut (at_ Try.f40 14) (S40n_14d3 x y s a b c d id most kg lvb al))) (fun x y s a b c d id most kg lvb ag => some (.cut (at_ Try.f40 14) (S40n_14z4 x y s a b c d id most kg lvb ag))) (fun x y s a b c d id most kg lvb al => some (.cut (at_ Try.f40 14) (S40n_14d4 x y s a b c d id most kg lvb al))) (fun x y s a b c d id most kg lvb ag kt i => some (.cut (at_ Try.f40 20) (S40n_20z0 x y s a b c d id most kg lvb ag kt i))) (fun x y s a b c d id most kg lvb al kt i => some (.cut (at_ Try.f40 20) (S40n_20d0 x y s a b c d id most kg lvb al kt i))) (fun x y s a b c d id most kg lvb ag kt i => some (.cut (at_ Try.f40 20) (S40n_20z1 x y s a b c d id most kg lvb ag kt i))) (fun x y s a b c d id most kg lvb al kt i => some (.cut (at_ Try.f40 20) (S40n_20d1 x y s a b c d id most kg lvb al kt i))) (fun x y s a b c d id most kg lvb ag kt i => some (.cut (at_ Try.f40 20) (S40n_20z2 x y s a b c d id most kg lvb ag kt i))) (fun x y s a b c d id most kg lvb al kt i => some (.cut (at_ Try.f40 20) (S40n_20d2 x y s a b c d id most kg lvb al kt i))) (fun x y s a b c d id most kg lvb ag kt i => some (.cut (at_ Try.f40 20) (S40n_20z3 x y s a b c d id most kg lvb ag kt i))) (fun x y s a b c d id most kg lvb al kt i => some (.cut (at_ Try.f40 20) (S40n_20d3 x y s a b c d id most kg lvb al kt i))) (some (.cut (at_ Try.f40 4) (S40n_4 )))  := by kernel_rfl
    rw [e]
    exact nomatch h
end
theorem t40n (D : Nat) (hE : EnvOK Try.prog (envCt D)) (k : Nat) (x : Int) (y : Int) (s : Int) (a : Tr) (b : Tr) (c : Tr) (d : Tr) (id : Int) (most : Int) (rt : F) (h : G40n D k x y s a b c d id most = some rt) : Ends Try.prog Try.f40.results.toList [.code (bodyOf Try.f40)] (start Try.f40.ntmps ([trL (Tr.node x y s a b c d), F.int .i64 id, F.int .i64 most].map .f)) (rt) := by
  refine Ends.of_run tyOK hE (T := [(14, [1, 2, 3, 6, 9, 10, 11, 12], 1000), (20, [1, 2, 3, 6, 9, 10, 11, 12, 13, 14], 1000), (4, [1, 3, 6, 7, 8], 1000)]) (n := 200) ?_
  have e : run Try.prog (tiOf Try.prog) (envCt D) [(14, [1, 2, 3, 6, 9, 10, 11, 12], 1000), (20, [1, 2, 3, 6, 9, 10, 11, 12, 13, 14], 1000), (4, [1, 3, 6, 7, 8], 1000)] 0 Try.f40.results.toList some 200 [.code (bodyOf Try.f40)] (start Try.f40.ntmps ([trL (Tr.node x y s a b c d), F.int .i64 id, F.int .i64 most].map .f)) = T40n D (fun rt => some (.ret (rt))) (fun x y s a b c d id most kg lvb ag => some (.cut (at_ Try.f40 14) (S40n_14z0 x y s a b c d id most kg lvb ag))) (fun x y s a b c d id most kg lvb al => some (.cut (at_ Try.f40 14) (S40n_14d0 x y s a b c d id most kg lvb al))) (fun x y s a b c d id most kg lvb ag => some (.cut (at_ Try.f40 14) (S40n_14z1 x y s a b c d id most kg lvb ag))) (fun x y s a b c d id most kg lvb al => some (.cut (at_ Try.f40 14) (S40n_14d1 x y s a b c d id most kg lvb al))) (fun x y s a b c d id most kg lvb ag => some (.cut (at_ Try.f40 14) (S40n_14z2 x y s a b c d id most kg lvb ag))) (fun x y s a b c d id most kg lvb al => some (.cut (at_ Try.f40 14) (S40n_14d2 x y s a b c d id most kg lvb al))) (fun x y s a b c d id most kg lvb ag => some (.cut (at_ Try.f40 14) (S40n_14z3 x y s a b c d id most kg lvb ag))) (fun x y s a b c d id most kg lvb al => some (.cut (at_ Try.f40 14) (S40n_14d3 x y s a b c d id most kg lvb al))) (fun x y s a b c d id most kg lvb ag => some (.cut (at_ Try.f40 14) (S40n_14z4 x y s a b c d id most kg lvb ag))) (fun x y s a b c d id most kg lvb al => some (.cut (at_ Try.f40 14) (S40n_14d4 x y s a b c d id most kg lvb al))) (fun x y s a b c d id most kg lvb ag kt i => some (.cut (at_ Try.f40 20) (S40n_20z0 x y s a b c d id most kg lvb ag kt i))) (fun x y s a b c d id most kg lvb al kt i => some (.cut (at_ Try.f40 20) (S40n_20d0 x y s a b c d id most kg lvb al kt i))) (fun x y s a b c d id most kg lvb ag kt i => some (.cut (at_ Try.f40 20) (S40n_20z1 x y s a b c d id most kg lvb ag kt i))) (fun x y s a b c d id most kg lvb al kt i => some (.cut (at_ Try.f40 20) (S40n_20d1 x y s a b c d id most kg lvb al kt i))) (fun x y s a b c d id most kg lvb ag kt i => some (.cut (at_ Try.f40 20) (S40n_20z2 x y s a b c d id most kg lvb ag kt i))) (fun x y s a b c d id most kg lvb al kt i => some (.cut (at_ Try.f40 20) (S40n_20d2 x y s a b c d id most kg lvb al kt i))) (fun x y s a b c d id most kg lvb ag kt i => some (.cut (at_ Try.f40 20) (S40n_20z3 x y s a b c d id most kg lvb ag kt i))) (fun x y s a b c d id most kg lvb al kt i => some (.cut (at_ Try.f40 20) (S40n_20d3 x y s a b c d id most kg lvb al kt i))) (some (.cut (at_ Try.f40 4) (S40n_4 ))) x y s a b c d id most := by kernel_rfl
  rw [e]
  exact good_cut (t40n_14z0 D hE k _ _ _ _ _ _ _ _ _ _ _ _ rt h)
/-! ### function 40 -/
def S40l_4 (x : Int) (y : Int) (s : Int) (ids : List Int) (id : Int) (m : Nat) (kg : Nat → F) (i : Int) : St := ⟨[.bad, (U.f (F.int .i64 id)), .bad, (U.hp 0 0), .bad, .bad, (U.hp 1 0), (U.hs 2 m 0 m), (U.f (F.int .i64 i)), .bad, .bad, .bad, .bad, .bad, .bad, .bad, .bad, .bad, .bad, .bad, .bad, .bad, .bad, .bad, .bad, .bad, .bad, .bad, .bad, .bad, .bad, .bad, .bad, .bad, .bad, .bad, .bad, .bad, .bad, .bad, .bad, .bad, .bad, .bad, .bad, .bad, .bad, .bad, .bad, .bad, .bad, .bad, .bad, .bad, .bad, .bad, .bad, .bad, .bad, .bad, .bad, .bad, .bad, .bad, .bad, .bad, .bad, .bad, .bad, .bad, .bad, .bad, .bad, .bad, .bad, .bad, .bad, .bad, .bad, .bad, .bad, .bad, .bad, .bad, .bad, .bad, .bad, .bad, .bad, .bad, .bad, .bad, .bad, .bad, .bad, .bad, .bad, .bad], [HO.box [(U.f (F.int .i64 x)), (U.f (F.int .i64 y)), (U.f (F.int .i64 s)), (U.f (F.sl 0 (kidL (Tr.leaf x y s ids)))), (U.f (intsF ids))], HO.box [(U.f (F.int .i64 0)), (U.f (F.int .i64 0)), (U.f (F.int .i64 0)), U.nils, U.nils], HO.arr 1 m kg]⟩
def S40l_20  : St := ⟨[.bad, .bad, .bad, .bad, .bad, .bad, .bad, .bad, .bad, .bad, .bad, .bad, .bad, .bad, .bad, .bad, .bad, .bad, .bad, .bad, .bad, .bad, .bad, .bad, .bad, .bad, .bad, .bad, .bad, .bad, .bad, .bad, .bad, .bad, .bad, .bad, .bad, .bad, .bad, .bad, .bad, .bad, .bad, .bad, .bad, .bad, .bad, .bad, .bad, .bad, .bad, .bad, .bad, .bad, .bad, .bad, .bad, .bad, .bad, .bad, .bad, .bad, .bad, .bad, .bad, .bad, .bad, .bad, .bad, .bad, .bad, .bad, .bad, .bad, .bad, .bad, .bad, .bad, .bad, .bad, .bad, .bad, .bad, .bad, .bad, .bad, .bad, .bad, .bad, .bad, .bad, .bad, .bad, .bad, .bad, .bad, .bad, .bad], []⟩
def S40l_14  : St := ⟨[.bad, .bad, .bad, .bad, .bad, .bad, .bad, .bad, .bad, .bad, .bad, .bad, .bad, .bad, .bad, .bad, .bad, .bad, .bad, .bad, .bad, .bad, .bad, .bad, .bad, .bad, .bad, .bad, .bad, .bad, .bad, .bad, .bad, .bad, .bad, .bad, .bad, .bad, .bad, .bad, .bad, .bad, .bad, .bad, .bad, .bad, .bad, .bad, .bad, .bad, .bad, .bad, .bad, .bad, .bad, .bad, .bad, .bad, .bad, .bad, .bad, .bad, .bad, .bad, .bad, .bad, .bad, .bad, .bad, .bad, .bad, .bad, .bad, .bad, .bad, .bad, .bad, .bad, .bad, .bad, .bad, .bad, .bad, .bad, .bad, .bad, .bad, .bad, .bad, .bad, .bad, .bad, .bad, .bad, .bad, .bad, .bad, .bad], []⟩
abbrev KJ76 (ρ : Type) := (Int) → (Int) → (Int) → (List Int) → (Int) → (Nat) → (Nat → F) → (Int) → Option ρ
def T40l_4 {ρ : Type} (D : Nat) (ret : KJ75 ρ) (c4 : KJ76 ρ) (c20 : Option ρ) (c14 : Option ρ) (x : Int) (y : Int) (s : Int) (ids : List Int) (id : Int) (m : Nat) (kg : Nat → F) (i : Int) : Option ρ :=
 (bsel (decide (i < (↑ids.length : Int)))
 (bsel (decide (0 ≤ i))
 (bsel (decide (i < (↑ids.length : Int)))
 (bsel (ids.getD i.toNat 0 != id)
 (bsel (decide (0 ≤ i))
 (bsel (decide (i < (↑ids.length : Int)))
 (bsel (decide (m = m))
 (bsel (decide (m = m))
 (bsel (decide ((↑(m + 1) : Int) * (((8 : Nat) : Int) + 1) ≤ (↑limit : Int)))
 (c4 (x) (y) (s) (ids) (id) (m + 1) (fun j ↦ if j < m then kg j else F.int .i64 (ids.getD i.toNat 0)) (IntKind.i64.wrap (i + 1)))
 none)
 none)
 none)
 none)
 none)
 (c4 (x) (y) (s) (ids) (id) (m) (kg) (IntKind.i64.wrap (i + 1))))
 none)
 none)
 (bsel (decide (m = m))
 (ret (F.agg [F.int .i64 x, F.int .i64 y, F.int .i64 s, F.sl 0 fun x ↦ F.bool false, F.sl m kg]))
 none))
def T40l_20 {ρ : Type} (D : Nat) (ret : KJ75 ρ) (c4 : KJ76 ρ) (c20 : Option ρ) (c14 : Option ρ)  : Option ρ :=
 none
def T40l_14 {ρ : Type} (D : Nat) (ret : KJ75 ρ) (c4 : KJ76 ρ) (c20 : Option ρ) (c14 : Option ρ)  : Option ρ :=
 none
mutual
def L40l_4 (D : Nat) : Nat → (Int) → (Int) → (Int) → (List Int) → (Int) → (Nat) → (Nat → F) → (Int) → Option (F)
  | 0, _, _, _, _, _, _, _, _ => none
  | k + 1, x, y, s, ids, id, m, kg, i => T40l_4 D some (L40l_4 D k) (L40l_20 D k) (L40l_14 D k) x y s ids id m kg i
def L40l_20 (D : Nat) : Nat → Option (F)
  | 0 => none
  | k + 1 => T40l_20 D some (L40l_4 D k) (L40l_20 D k) (L40l_14 D k) 
def L40l_14 (D : Nat) : Nat → Option (F)
  | 0 => none
  | k + 1 => T40l_14 D some (L40l_4 D k) (L40l_20 D k) (L40l_14 D k) 
end
def T40l {ρ : Type} (D : Nat) (ret : KJ75 ρ) (c4 : KJ76 ρ) (c20 : Option ρ) (c14 : Option ρ) (x : Int) (y : Int) (s : Int) (ids : List Int) (id : Int) (most : Int) : Option ρ :=
 (c4 ((Tr.leaf x y s ids).x) ((Tr.leaf x y s ids).y) ((Tr.leaf x y s ids).size) ((Tr.leaf x y s ids).ids) (id) (0) (lget []) (0))
def G40l (D : Nat) (k : Nat) (x : Int) (y : Int) (s : Int) (ids : List Int) (id : Int) (most : Int) : Option (F) := T40l D some (L40l_4 D k) (L40l_20 D k) (L40l_14 D k) x y s ids id most
mutual
theorem t40l_4 (D : Nat) (hE : EnvOK Try.prog (envCt D)) : ∀ (k : Nat) (x : Int) (y : Int) (s : Int) (ids : List Int) (id : Int) (m : Nat) (kg : Nat → F) (i : Int) (rt : F), L40l_4 D k x y s ids id m kg i = some rt → Ends Try.prog Try.f40.results.toList (at_ Try.f40 4) (S40l_4 x y s ids id m kg i) (rt)
  | 0, _, _, _, _, _, _, _, _, _, h => nomatch h
  | k + 1, x, y, s, ids, id, m, kg, i, rt, h => by
    refine Ends.of_cut tyOK hE (T := [(4, [1, 3, 6, 7, 8], 1000), (20, [1, 2, 3, 6, 9, 10, 11, 12, 13, 14], 1000), (14, [1, 2, 3, 6, 9, 10, 11, 12], 1000)]) (n := 200) ?_
    have e : runCut Try.prog (tiOf Try.prog) (envCt D) [(4, [1, 3, 6, 7, 8], 1000), (20, [1, 2, 3, 6, 9, 10, 11, 12, 13, 14], 1000), (14, [1, 2, 3, 6, 9, 10, 11, 12], 1000)] 0 Try.f40.results.toList some 200 (at_ Try.f40 4) (S40l_4 x y s ids id m kg i) = T40l_4 D (fun rt => some (.ret (rt))) (fun x y s ids id m kg i => some (.cut (at_ Try.f40 4) (S40l_4 x y s ids id m kg i))) (some (.cut (at_ Try.f40 20) (S40l_20 ))) (some (.cut (at_ Try.f40 14) (S40l_14 ))) x y s ids id m kg i := by kernel_rfl
    rw [e]
    exact (good_sel h (fun _ h => (good_sel h (fun _ h => (good_sel h (fun _ h => (good_sel h (fun _ h => (good_sel h (fun _ h => (good_sel h (fun _ h => (good_sel h (fun _ h => (good_sel h (fun _ h => (good_sel h (fun _ h => good_cut (t40l_4 D hE k _ _ _ _ _ _ _ _ rt h)) (fun _ h => nomatch h))) (fun _ h => nomatch h))) (fun _ h => nomatch h))) (fun _ h => nomatch h))) (fun _ h => nomatch h))) (fun _ h => good_cut (t40l_4 D hE k _ _ _ _ _ _ _ _ rt h)))) (fun _ h => nomatch h))) (fun _ h => nomatch h))) (fun _ h => (good_sel h (fun _ h => good_ret (by cases h; rfl)) (fun _ h => nomatch h))))
theorem t40l_20 (D : Nat) (hE : EnvOK Try.prog (envCt D)) : ∀ (k : Nat)  (rt : F), L40l_20 D k  = some rt → Ends Try.prog Try.f40.results.toList (at_ Try.f40 20) (S40l_20 ) (rt)
  | 0, _, h => nomatch h
  | k + 1, rt, h => by
    refine Ends.of_cut tyOK hE (T := [(4, [1, 3, 6, 7, 8], 1000), (20, [1, 2, 3, 6, 9, 10, 11, 12, 13, 14], 1000), (14, [1, 2, 3, 6, 9, 10, 11, 12], 1000)]) (n := 200) ?_
    have e : runCut Try.prog (tiOf Try.prog) (envCt D) [(4, [1, 3, 6, 7, 8], 1000), (20, [1, 2, 3, 6, 9, 10, 11, 12, 13, 14], 1000), (14, [1, 2, 3, 6, 9, 10, 11, 12], 1000)] 0 Try.f40.results.toList some 200 (at_ Try.f40 20) (S40l_20 ) = T40l_20 D (fun rt => some (.ret (rt))) (fun x y s ids id m kg i => some (.cut (at_ Try.f40 4) (S40l_4 x y s ids id m kg i))) (some (.cut (at_ Try.f40 20) (S40l_20 ))) (some (.cut (at_ Try.f40 14) (S40l_14 )))  := by kernel_rfl
    rw [e]
    exact nomatch h
theorem t40l_14 (D : Nat) (hE : EnvOK Try.prog (envCt D)) : ∀ (k : Nat)  (rt : F), L40l_14 D k  = some rt → Ends Try.prog Try.f40.results.toList (at_ Try.f40 14) (S40l_14 ) (rt)
  | 0, _, h => nomatch h
  | k + 1, rt, h => by
    refine Ends.of_cut tyOK hE (T := [(4, [1, 3, 6, 7, 8], 1000), (20, [1, 2, 3, 6, 9, 10, 11, 12, 13, 14], 1000), (14, [1, 2, 3, 6, 9, 10, 11, 12], 1000)]) (n := 200) ?_
    have e : runCut Try.prog (tiOf Try.prog) (envCt D) [(4, [1, 3, 6, 7, 8], 1000), (20, [1, 2, 3, 6, 9, 10, 11, 12, 13, 14], 1000), (14, [1, 2, 3, 6, 9, 10, 11, 12], 1000)] 0 Try.f40.results.toList some 200 (at_ Try.f40 14) (S40l_14 ) = T40l_14 D (fun rt => some (.ret (rt))) (fun x y s ids id m kg i => some (.cut (at_ Try.f40 4) (S40l_4 x y s ids id m kg i))) (some (.cut (at_ Try.f40 20) (S40l_20 ))) (some (.cut (at_ Try.f40 14) (S40l_14 )))  := by kernel_rfl
    rw [e]
    exact nomatch h
end
theorem t40l (D : Nat) (hE : EnvOK Try.prog (envCt D)) (k : Nat) (x : Int) (y : Int) (s : Int) (ids : List Int) (id : Int) (most : Int) (rt : F) (h : G40l D k x y s ids id most = some rt) : Ends Try.prog Try.f40.results.toList [.code (bodyOf Try.f40)] (start Try.f40.ntmps ([trL (Tr.leaf x y s ids), F.int .i64 id, F.int .i64 most].map .f)) (rt) := by
  refine Ends.of_run tyOK hE (T := [(4, [1, 3, 6, 7, 8], 1000), (20, [1, 2, 3, 6, 9, 10, 11, 12, 13, 14], 1000), (14, [1, 2, 3, 6, 9, 10, 11, 12], 1000)]) (n := 200) ?_
  have e : run Try.prog (tiOf Try.prog) (envCt D) [(4, [1, 3, 6, 7, 8], 1000), (20, [1, 2, 3, 6, 9, 10, 11, 12, 13, 14], 1000), (14, [1, 2, 3, 6, 9, 10, 11, 12], 1000)] 0 Try.f40.results.toList some 200 [.code (bodyOf Try.f40)] (start Try.f40.ntmps ([trL (Tr.leaf x y s ids), F.int .i64 id, F.int .i64 most].map .f)) = T40l D (fun rt => some (.ret (rt))) (fun x y s ids id m kg i => some (.cut (at_ Try.f40 4) (S40l_4 x y s ids id m kg i))) (some (.cut (at_ Try.f40 20) (S40l_20 ))) (some (.cut (at_ Try.f40 14) (S40l_14 ))) x y s ids id most := by kernel_rfl
  rw [e]
  exact good_cut (t40l_4 D hE k _ _ _ _ _ _ _ _ rt h)
section
variable (D : Nat) (x y s : Int) (a b c d : Tr) (id most : Int)
def cutF4 (x y s : Int) (a b c d : Tr) (id most : Int) (kg : Nat → F) (lvb : Bool) (al : List Int) : F := bif lvb && decide ((al.length : Int) ≤ most) then trL (.leaf x y s al) else F.agg [.int .i64 x, .int .i64 y, .int .i64 s, .sl 4 kg, intsF []]
def cutF3 (x y s : Int) (a b c d : Tr) (id most : Int) (kg : Nat → F) (lvb : Bool) (al : List Int) : F := cutF4 x y s a b c d id most (fun q => if q < 3 then kg q else trL (cutV id most d)) (lvb && noKids (cutV id most d)) ((cutV id most d).ids.foldl withV al)
def cutF2 (x y s : Int) (a b c d : Tr) (id most : Int) (kg : Nat → F) (lvb : Bool) (al : List Int) : F := cutF3 x y s a b c d id most (fun q => if q < 2 then kg q else trL (cutV id most c)) (lvb && noKids (cutV id most c)) ((cutV id most c).ids.foldl withV al)
def cutF1 (x y s : Int) (a b c d : Tr) (id most : Int) (kg : Nat → F) (lvb : Bool) (al : List Int) : F := cutF2 x y s a b c d id most (fun q => if q < 1 then kg q else trL (cutV id most b)) (lvb && noKids (cutV id most b)) ((cutV id most b).ids.foldl withV al)
def cutF0 (x y s : Int) (a b c d : Tr) (id most : Int) (kg : Nat → F) (lvb : Bool) (al : List Int) : F := cutF1 x y s a b c d id most (fun _ => trL (cutV id most a)) (lvb && noKids (cutV id most a)) ((cutV id most a).ids.foldl withV al)
variable (oa : ctOk D most a = true) (ob : ctOk D most b = true) (oc : ctOk D most c = true) (od : ctOk D most d = true)
theorem cut_kid {t : Tr} (h : ctOk D most t = true) : (cutV id most t).ids.length ≤ 1000 := by
  simp only [ctOk, Bool.and_eq_true, decide_eq_true_eq] at h
  exact idsLe_ids (cutV_ids id most (by omega) t h.2)
theorem p4d (kg : Nat → F) (lvb : Bool) (al : List Int) : ∃ k rt, L40n_14d4 D k x y s a b c d id most kg lvb al = some rt ∧ FLe rt (cutF4 x y s a b c d id most kg lvb al) := by
  refine ⟨1, ?_⟩
  rw [L40n_14d4]
  simp only [T40n_14d4]
  unfold cutF4
  cases lvb with
  | false => exact ⟨_, rfl, .refl _⟩
  | true =>
    cases decide ((al.length : Int) ≤ most) with
    | true => exact ⟨_, rfl, FLe.agg ⟨.refl _, .refl _, .refl _, FLe.sl fun q hq => absurd hq (Nat.not_lt_zero _), .refl _, trivial⟩⟩
    | false => exact ⟨_, rfl, .refl _⟩
theorem p4z (kg : Nat → F) (lvb : Bool) (ag : Nat → F) : ∃ k rt, L40n_14z4 D k x y s a b c d id most kg lvb ag = some rt ∧ FLe rt (cutF4 x y s a b c d id most kg lvb []) := by
  refine ⟨1, ?_⟩
  rw [L40n_14z4]
  simp only [T40n_14z4]
  have hz : decide (((0 : Nat) : Int) ≤ most) = decide ((([] : List Int).length : Int) ≤ most) := rfl
  rw [hz]
  unfold cutF4
  cases lvb with
  | false => exact ⟨_, rfl, .refl _⟩
  | true =>
    cases decide ((([] : List Int).length : Int) ≤ most) with
    | true => exact ⟨_, rfl, FLe.agg ⟨.refl _, .refl _, .refl _, FLe.sl fun q hq => absurd hq (Nat.not_lt_zero _), FLe.sl fun q hq => absurd hq (Nat.not_lt_zero _), trivial⟩⟩
    | false => exact ⟨_, rfl, .refl _⟩
theorem i3d (kg : Nat → F) (lvb : Bool) (kt : Tr) (hk : kt.ids.length ≤ 1000) : ∀ (n i : Nat) (al : List Int), i + n = kt.ids.length → al.length + n ≤ 4000 → ∃ k rt, L40n_20d3 D k x y s a b c d id most kg lvb al kt i = some rt ∧ FLe rt (cutF4 x y s a b c d id most kg lvb ((kt.ids.drop i).foldl withV al))
  | 0, i, al, h, hb => by
    have c1 : decide ((i : Int) < (kt.ids.length : Int)) = false := decide_eq_false (by omega)
    obtain ⟨k, rt, e1, e2⟩ := p4d D x y s a b c d id most kg lvb al
    refine ⟨k + 1, rt, ?_, ?_⟩
    · rw [L40n_20d3]
      simp only [T40n_20d3, c1, bsel_false]
      exact e1
    · rw [List.drop_eq_nil_of_le (by omega)]
      exact e2
  | n + 1, i, al, h, hb => by
    have hlt : i < kt.ids.length := by omega
    have c1 : decide ((i : Int) < (kt.ids.length : Int)) = true := decide_eq_true (by omega)
    have c2 : decide (0 ≤ (i : Int)) = true := decide_eq_true (by omega)
    have c3 : fewIntsV al = true := decide_eq_true (by omega)
    have hw : IntKind.i64.wrap ((i : Int) + 1) = ((i + 1 : Nat) : Int) := by rw [wrapi (by omega) (by omega)]; omega
    have h1 : kt.ids.getD i 0 = kt.ids[i] := by simp [List.getD, List.getElem?_eq_getElem hlt]
    have hl := withV_len al kt.ids[i]
    obtain ⟨k, rt, e1, e2⟩ := i3d kg lvb kt hk n (i + 1) (withV al kt.ids[i]) (by omega) (by omega)
    refine ⟨k + 1, rt, ?_, ?_⟩
    · rw [L40n_20d3]
      simp only [T40n_20d3, c1, c2, c3, hw, isInts_intsF, unInts_intsF, Bool.and_self, bsel_true, Int.toNat_natCast, h1]
      exact e1
    · rw [List.drop_eq_getElem_cons hlt, List.foldl_cons]
      exact e2
theorem i3z (kg : Nat → F) (lvb : Bool) (kt : Tr) (hk : kt.ids.length ≤ 1000) (ag : Nat → F) : ∃ k rt, L40n_20z3 D k x y s a b c d id most kg lvb ag kt 0 = some rt ∧ FLe rt (cutF4 x y s a b c d id most kg lvb (kt.ids.foldl withV [])) := by
  have z : (0 : Int) = ((0 : Nat) : Int) := rfl
  cases hl : kt.ids with
  | nil =>
    have c1 : decide ((0 : Int) < (kt.ids.length : Int)) = false := by rw [hl]; rfl
    obtain ⟨k, rt, e1, e2⟩ := p4z D x y s a b c d id most kg lvb ag
    refine ⟨k + 1, rt, ?_, e2⟩
    rw [L40n_20z3]
    simp only [T40n_20z3, c1, bsel_false]
    exact e1
  | cons v vs =>
    have hle : kt.ids.length = vs.length + 1 := by rw [hl]; rfl
    have c1 : decide ((0 : Int) < (kt.ids.length : Int)) = true := decide_eq_true (by omega)
    have c2 : decide ((0 : Int) ≤ 0) = true := rfl
    have hw : IntKind.i64.wrap ((0 : Int) + 1) = ((1 : Nat) : Int) := by rw [wrapi (by omega) (by omega)]; rfl
    have h1 : kt.ids.getD (Int.toNat 0) 0 = v := by rw [hl]; rfl
    have h2 : unInts (F.sl 0 (offF 0 ag)) = [] := rfl
    have hv := withV_len [] v
    obtain ⟨k, rt, e1, e2⟩ := i3d D x y s a b c d id most kg lvb kt hk vs.length 1 (withV [] v) (by omega) (by simp only [List.length_nil] at hv; omega)
    refine ⟨k + 1, rt, ?_, ?_⟩
    · rw [L40n_20z3]
      simp only [T40n_20z3, c1, c2, hw, h1, h2, bsel_true]
      exact e1
    · rw [hl] at e2
      exact e2
section
include od
theorem p3d (kg : Nat → F) (lvb : Bool) (al : List Int) (hb : al.length ≤ 3000) : ∃ k rt, L40n_14d3 D k x y s a b c d id most kg lvb al = some rt ∧ FLe rt (cutF3 x y s a b c d id most kg lvb al) := by
  have hk := cut_kid D id most od
  have c4 : decide ((((3 : Int) + 1) * (((72 : Nat) : Int) + 1) ≤ (limit : Int))) = true := by rw [limit_eq]; exact decide_eq_true (by omega)
  obtain ⟨k, rt, e1, e2⟩ := i3d D x y s a b c d id most (fun q => if q < 3 then kg q else trL (cutV id most d)) (lvb && noKids (cutV id most d)) (cutV id most d) hk (cutV id most d).ids.length 0 al (by omega) (by omega)
  refine ⟨k + 1, rt, ?_, e2⟩
  rw [L40n_14d3]
  simp only [T40n_14d3, isTrA_trL, unTrA_trL, od, c4, Bool.and_self, bsel_true]
  cases lvb with
  | true => exact e1
  | false => exact e1
theorem p3z (kg : Nat → F) (lvb : Bool) (ag : Nat → F) : ∃ k rt, L40n_14z3 D k x y s a b c d id most kg lvb ag = some rt ∧ FLe rt (cutF3 x y s a b c d id most kg lvb []) := by
  have hk := cut_kid D id most od
  have c4 : decide ((((3 : Int) + 1) * (((72 : Nat) : Int) + 1) ≤ (limit : Int))) = true := by rw [limit_eq]; exact decide_eq_true (by omega)
  obtain ⟨k, rt, e1, e2⟩ := i3z D x y s a b c d id most (fun q => if q < 3 then kg q else trL (cutV id most d)) (lvb && noKids (cutV id most d)) (cutV id most d) hk ag
  refine ⟨k + 1, rt, ?_, e2⟩
  rw [L40n_14z3]
  simp only [T40n_14z3, isTrA_trL, unTrA_trL, od, c4, Bool.and_self, bsel_true]
  cases lvb with
  | true => exact e1
  | false => exact e1
end
section
include od
theorem i2d (kg : Nat → F) (lvb : Bool) (kt : Tr) (hk : kt.ids.length ≤ 1000) : ∀ (n i : Nat) (al : List Int), i + n = kt.ids.length → al.length + n ≤ 3000 → ∃ k rt, L40n_20d2 D k x y s a b c d id most kg lvb al kt i = some rt ∧ FLe rt (cutF3 x y s a b c d id most kg lvb ((kt.ids.drop i).foldl withV al))
  | 0, i, al, h, hb => by
    have c1 : decide ((i : Int) < (kt.ids.length : Int)) = false := decide_eq_false (by omega)
    obtain ⟨k, rt, e1, e2⟩ := p3d D x y s a b c d id most od kg lvb al (by omega)
    refine ⟨k + 1, rt, ?_, ?_⟩
    · rw [L40n_20d2]
      simp only [T40n_20d2, c1, bsel_false]
      exact e1
    · rw [List.drop_eq_nil_of_le (by omega)]
      exact e2
  | n + 1, i, al, h, hb => by
    have hlt : i < kt.ids.length := by omega
    have c1 : decide ((i : Int) < (kt.ids.length : Int)) = true := decide_eq_true (by omega)
    have c2 : decide (0 ≤ (i : Int)) = true := decide_eq_true (by omega)
    have c3 : fewIntsV al = true := decide_eq_true (by omega)
    have hw : IntKind.i64.wrap ((i : Int) + 1) = ((i + 1 : Nat) : Int) := by rw [wrapi (by omega) (by omega)]; omega
    have h1 : kt.ids.getD i 0 = kt.ids[i] := by simp [List.getD, List.getElem?_eq_getElem hlt]
    have hl := withV_len al kt.ids[i]
    obtain ⟨k, rt, e1, e2⟩ := i2d kg lvb kt hk n (i + 1) (withV al kt.ids[i]) (by omega) (by omega)
    refine ⟨k + 1, rt, ?_, ?_⟩
    · rw [L40n_20d2]
      simp only [T40n_20d2, c1, c2, c3, hw, isInts_intsF, unInts_intsF, Bool.and_self, bsel_true, Int.toNat_natCast, h1]
      exact e1
    · rw [List.drop_eq_getElem_cons hlt, List.foldl_cons]
      exact e2
theorem i2z (kg : Nat → F) (lvb : Bool) (kt : Tr) (hk : kt.ids.length ≤ 1000) (ag : Nat → F) : ∃ k rt, L40n_20z2 D k x y s a b c d id most kg lvb ag kt 0 = some rt ∧ FLe rt (cutF3 x y s a b c d id most kg lvb (kt.ids.foldl withV [])) := by
  have z : (0 : Int) = ((0 : Nat) : Int) := rfl
  cases hl : kt.ids with
  | nil =>
    have c1 : decide ((0 : Int) < (kt.ids.length : Int)) = false := by rw [hl]; rfl
    obtain ⟨k, rt, e1, e2⟩ := p3z D x y s a b c d id most od kg lvb ag
    refine ⟨k + 1, rt, ?_, e2⟩
    rw [L40n_20z2]
    simp only [T40n_20z2, c1, bsel_false]
    exact e1
  | cons v vs =>
    have hle : kt.ids.length = vs.length + 1 := by rw [hl]; rfl
    have c1 : decide ((0 : Int) < (kt.ids.length : Int)) = true := decide_eq_true (by omega)
    have c2 : decide ((0 : Int) ≤ 0) = true := rfl
    have hw : IntKind.i64.wrap ((0 : Int) + 1) = ((1 : Nat) : Int) := by rw [wrapi (by omega) (by omega)]; rfl
    have h1 : kt.ids.getD (Int.toNat 0) 0 = v := by rw [hl]; rfl
    have h2 : unInts (F.sl 0 (offF 0 ag)) = [] := rfl
    have hv := withV_len [] v
    obtain ⟨k, rt, e1, e2⟩ := i2d D x y s a b c d id most od kg lvb kt hk vs.length 1 (withV [] v) (by omega) (by simp only [List.length_nil] at hv; omega)
    refine ⟨k + 1, rt, ?_, ?_⟩
    · rw [L40n_20z2]
      simp only [T40n_20z2, c1, c2, hw, h1, h2, bsel_true]
      exact e1
    · rw [hl] at e2
      exact e2
end
section
include oc od
theorem p2d (kg : Nat → F) (lvb : Bool) (al : List Int) (hb : al.length ≤ 2000) : ∃ k rt, L40n_14d2 D k x y s a b c d id most kg lvb al = some rt ∧ FLe rt (cutF2 x y s a b c d id most kg lvb al) := by
  have hk := cut_kid D id most oc
  have c4 : decide ((((2 : Int) + 1) * (((72 : Nat) : Int) + 1) ≤ (limit : Int))) = true := by rw [limit_eq]; exact decide_eq_true (by omega)
  obtain ⟨k, rt, e1, e2⟩ := i2d D x y s a b c d id most od (fun q => if q < 2 then kg q else trL (cutV id most c)) (lvb && noKids (cutV id most c)) (cutV id most c) hk (cutV id most c).ids.length 0 al (by omega) (by omega)
  refine ⟨k + 1, rt, ?_, e2⟩
  rw [L40n_14d2]
  simp only [T40n_14d2, isTrA_trL, unTrA_trL, oc, c4, Bool.and_self, bsel_true]
  cases lvb with
  | true => exact e1
  | false => exact e1
theorem p2z (kg : Nat → F) (lvb : Bool) (ag : Nat → F) : ∃ k rt, L40n_14z2 D k x y s a b c d id most kg lvb ag = some rt ∧ FLe rt (cutF2 x y s a b c d id most kg lvb []) := by
  have hk := cut_kid D id most oc
  have c4 : decide ((((2 : Int) + 1) * (((72 : Nat) : Int) + 1) ≤ (limit : Int))) = true := by rw [limit_eq]; exact decide_eq_true (by omega)
  obtain ⟨k, rt, e1, e2⟩ := i2z D x y s a b c d id most od (fun q => if q < 2 then kg q else trL (cutV id most c)) (lvb && noKids (cutV id most c)) (cutV id most c) hk ag
  refine ⟨k + 1, rt, ?_, e2⟩
  rw [L40n_14z2]
  simp only [T40n_14z2, isTrA_trL, unTrA_trL, oc, c4, Bool.and_self, bsel_true]
  cases lvb with
  | true => exact e1
  | false => exact e1
end
section
include oc od
theorem i1d (kg : Nat → F) (lvb : Bool) (kt : Tr) (hk : kt.ids.length ≤ 1000) : ∀ (n i : Nat) (al : List Int), i + n = kt.ids.length → al.length + n ≤ 2000 → ∃ k rt, L40n_20d1 D k x y s a b c d id most kg lvb al kt i = some rt ∧ FLe rt (cutF2 x y s a b c d id most kg lvb ((kt.ids.drop i).foldl withV al))
  | 0, i, al, h, hb => by
    have c1 : decide ((i : Int) < (kt.ids.length : Int)) = false := decide_eq_false (by omega)
    obtain ⟨k, rt, e1, e2⟩ := p2d D x y s a b c d id most oc od kg lvb al (by omega)
    refine ⟨k + 1, rt, ?_, ?_⟩
    · rw [L40n_20d1]
      simp only [T40n_20d1, c1, bsel_false]
      exact e1
    · rw [List.drop_eq_nil_of_le (by omega)]
      exact e2
  | n + 1, i, al, h, hb => by
    have hlt : i < kt.ids.length := by omega
    have c1 : decide ((i : Int) < (kt.ids.length : Int)) = true := decide_eq_true (by omega)
    have c2 : decide (0 ≤ (i : Int)) = true := decide_eq_true (by omega)
    have c3 : fewIntsV al = true := decide_eq_true (by omega)
    have hw : IntKind.i64.wrap ((i : Int) + 1) = ((i + 1 : Nat) : Int) := by rw [wrapi (by omega) (by omega)]; omega
    have h1 : kt.ids.getD i 0 = kt.ids[i] := by simp [List.getD, List.getElem?_eq_getElem hlt]
    have hl := withV_len al kt.ids[i]
    obtain ⟨k, rt, e1, e2⟩ := i1d kg lvb kt hk n (i + 1) (withV al kt.ids[i]) (by omega) (by omega)
    refine ⟨k + 1, rt, ?_, ?_⟩
    · rw [L40n_20d1]
      simp only [T40n_20d1, c1, c2, c3, hw, isInts_intsF, unInts_intsF, Bool.and_self, bsel_true, Int.toNat_natCast, h1]
      exact e1
    · rw [List.drop_eq_getElem_cons hlt, List.foldl_cons]
      exact e2
theorem i1z (kg : Nat → F) (lvb : Bool) (kt : Tr) (hk : kt.ids.length ≤ 1000) (ag : Nat → F) : ∃ k rt, L40n_20z1 D k x y s a b c d id most kg lvb ag kt 0 = some rt ∧ FLe rt (cutF2 x y s a b c d id most kg lvb (kt.ids.foldl withV [])) := by
  have z : (0 : Int) = ((0 : Nat) : Int) := rfl
  cases hl : kt.ids with
  | nil =>
    have c1 : decide ((0 : Int) < (kt.ids.length : Int)) = false := by rw [hl]; rfl
    obtain ⟨k, rt, e1, e2⟩ := p2z D x y s a b c d id most oc od kg lvb ag
    refine ⟨k + 1, rt, ?_, e2⟩
    rw [L40n_20z1]
    simp only [T40n_20z1, c1, bsel_false]
    exact e1
  | cons v vs =>
    have hle : kt.ids.length = vs.length + 1 := by rw [hl]; rfl
    have c1 : decide ((0 : Int) < (kt.ids.length : Int)) = true := decide_eq_true (by omega)
    have c2 : decide ((0 : Int) ≤ 0) = true := rfl
    have hw : IntKind.i64.wrap ((0 : Int) + 1) = ((1 : Nat) : Int) := by rw [wrapi (by omega) (by omega)]; rfl
    have h1 : kt.ids.getD (Int.toNat 0) 0 = v := by rw [hl]; rfl
    have h2 : unInts (F.sl 0 (offF 0 ag)) = [] := rfl
    have hv := withV_len [] v
    obtain ⟨k, rt, e1, e2⟩ := i1d D x y s a b c d id most oc od kg lvb kt hk vs.length 1 (withV [] v) (by omega) (by simp only [List.length_nil] at hv; omega)
    refine ⟨k + 1, rt, ?_, ?_⟩
    · rw [L40n_20z1]
      simp only [T40n_20z1, c1, c2, hw, h1, h2, bsel_true]
      exact e1
    · rw [hl] at e2
      exact e2
end
section
include ob oc od
theorem p1d (kg : Nat → F) (lvb : Bool) (al : List Int) (hb : al.length ≤ 1000) : ∃ k rt, L40n_14d1 D k x y s a b c d id most kg lvb al = some rt ∧ FLe rt (cutF1 x y s a b c d id most kg lvb al) := by
  have hk := cut_kid D id most ob
  have c4 : decide ((((1 : Int) + 1) * (((72 : Nat) : Int) + 1) ≤ (limit : Int))) = true := by rw [limit_eq]; exact decide_eq_true (by omega)
  obtain ⟨k, rt, e1, e2⟩ := i1d D x y s a b c d id most oc od (fun q => if q < 1 then kg q else trL (cutV id most b)) (lvb && noKids (cutV id most b)) (cutV id most b) hk (cutV id most b).ids.length 0 al (by omega) (by omega)
  refine ⟨k + 1, rt, ?_, e2⟩
  rw [L40n_14d1]
  simp only [T40n_14d1, isTrA_trL, unTrA_trL, ob, c4, Bool.and_self, bsel_true]
  cases lvb with
  | true => exact e1
  | false => exact e1
theorem p1z (kg : Nat → F) (lvb : Bool) (ag : Nat → F) : ∃ k rt, L40n_14z1 D k x y s a b c d id most kg lvb ag = some rt ∧ FLe rt (cutF1 x y s a b c d id most kg lvb []) := by
  have hk := cut_kid D id most ob
  have c4 : decide ((((1 : Int) + 1) * (((72 : Nat) : Int) + 1) ≤ (limit : Int))) = true := by rw [limit_eq]; exact decide_eq_true (by omega)
  obtain ⟨k, rt, e1, e2⟩ := i1z D x y s a b c d id most oc od (fun q => if q < 1 then kg q else trL (cutV id most b)) (lvb && noKids (cutV id most b)) (cutV id most b) hk ag
  refine ⟨k + 1, rt, ?_, e2⟩
  rw [L40n_14z1]
  simp only [T40n_14z1, isTrA_trL, unTrA_trL, ob, c4, Bool.and_self, bsel_true]
  cases lvb with
  | true => exact e1
  | false => exact e1
end
section
include ob oc od
theorem i0d (kg : Nat → F) (lvb : Bool) (kt : Tr) (hk : kt.ids.length ≤ 1000) : ∀ (n i : Nat) (al : List Int), i + n = kt.ids.length → al.length + n ≤ 1000 → ∃ k rt, L40n_20d0 D k x y s a b c d id most kg lvb al kt i = some rt ∧ FLe rt (cutF1 x y s a b c d id most kg lvb ((kt.ids.drop i).foldl withV al))
  | 0, i, al, h, hb => by
    have c1 : decide ((i : Int) < (kt.ids.length : Int)) = false := decide_eq_false (by omega)
    obtain ⟨k, rt, e1, e2⟩ := p1d D x y s a b c d id most ob oc od kg lvb al (by omega)
    refine ⟨k + 1, rt, ?_, ?_⟩
    · rw [L40n_20d0]
      simp only [T40n_20d0, c1, bsel_false]
      exact e1
    · rw [List.drop_eq_nil_of_le (by omega)]
      exact e2
  | n + 1, i, al, h, hb => by
    have hlt : i < kt.ids.length := by omega
    have c1 : decide ((i : Int) < (kt.ids.length : Int)) = true := decide_eq_true (by omega)
    have c2 : decide (0 ≤ (i : Int)) = true := decide_eq_true (by omega)
    have c3 : fewIntsV al = true := decide_eq_true (by omega)
    have hw : IntKind.i64.wrap ((i : Int) + 1) = ((i + 1 : Nat) : Int) := by rw [wrapi (by omega) (by omega)]; omega
    have h1 : kt.ids.getD i 0 = kt.ids[i] := by simp [List.getD, List.getElem?_eq_getElem hlt]
    have hl := withV_len al kt.ids[i]
    obtain ⟨k, rt, e1, e2⟩ := i0d kg lvb kt hk n (i + 1) (withV al kt.ids[i]) (by omega) (by omega)
    refine ⟨k + 1, rt, ?_, ?_⟩
    · rw [L40n_20d0]
      simp only [T40n_20d0, c1, c2, c3, hw, isInts_intsF, unInts_intsF, Bool.and_self, bsel_true, Int.toNat_natCast, h1]
      exact e1
    · rw [List.drop_eq_getElem_cons hlt, List.foldl_cons]
      exact e2
theorem i0z (kg : Nat → F) (lvb : Bool) (kt : Tr) (hk : kt.ids.length ≤ 1000) (ag : Nat → F) : ∃ k rt, L40n_20z0 D k x y s a b c d id most kg lvb ag kt 0 = some rt ∧ FLe rt (cutF1 x y s a b c d id most kg lvb (kt.ids.foldl withV [])) := by
  have z : (0 : Int) = ((0 : Nat) : Int) := rfl
  cases hl : kt.ids with
  | nil =>
    have c1 : decide ((0 : Int) < (kt.ids.length : Int)) = false := by rw [hl]; rfl
    obtain ⟨k, rt, e1, e2⟩ := p1z D x y s a b c d id most ob oc od kg lvb ag
    refine ⟨k + 1, rt, ?_, e2⟩
    rw [L40n_20z0]
    simp only [T40n_20z0, c1, bsel_false]
    exact e1
  | cons v vs =>
    have hle : kt.ids.length = vs.length + 1 := by rw [hl]; rfl
    have c1 : decide ((0 : Int) < (kt.ids.length : Int)) = true := decide_eq_true (by omega)
    have c2 : decide ((0 : Int) ≤ 0) = true := rfl
    have hw : IntKind.i64.wrap ((0 : Int) + 1) = ((1 : Nat) : Int) := by rw [wrapi (by omega) (by omega)]; rfl
    have h1 : kt.ids.getD (Int.toNat 0) 0 = v := by rw [hl]; rfl
    have h2 : unInts (F.sl 0 (offF 0 ag)) = [] := rfl
    have hv := withV_len [] v
    obtain ⟨k, rt, e1, e2⟩ := i0d D x y s a b c d id most ob oc od kg lvb kt hk vs.length 1 (withV [] v) (by omega) (by simp only [List.length_nil] at hv; omega)
    refine ⟨k + 1, rt, ?_, ?_⟩
    · rw [L40n_20z0]
      simp only [T40n_20z0, c1, c2, hw, h1, h2, bsel_true]
      exact e1
    · rw [hl] at e2
      exact e2
end
section
include oa ob oc od
theorem p0z (kg : Nat → F) (lvb : Bool) (ag : Nat → F) : ∃ k rt, L40n_14z0 D k x y s a b c d id most kg lvb ag = some rt ∧ FLe rt (cutF0 x y s a b c d id most kg lvb []) := by
  have hk := cut_kid D id most oa
  have c4 : decide ((((0 : Int) + 1) * (((72 : Nat) : Int) + 1) ≤ (limit : Int))) = true := by rw [limit_eq]; exact decide_eq_true (by omega)
  obtain ⟨k, rt, e1, e2⟩ := i0z D x y s a b c d id most ob oc od (fun _ => trL (cutV id most a)) (lvb && noKids (cutV id most a)) (cutV id most a) hk ag
  refine ⟨k + 1, rt, ?_, e2⟩
  rw [L40n_14z0]
  simp only [T40n_14z0, isTrA_trL, unTrA_trL, oa, c4, Bool.and_self, bsel_true]
  cases lvb with
  | true => exact e1
  | false => exact e1
end
theorem cut_fin (g0 : Nat → F) : FLe (cutF0 x y s a b c d id most g0 true []) (trL (cutV id most (.node x y s a b c d))) := by
  have hall : allOf (cutV id most a) (cutV id most b) (cutV id most c) (cutV id most d) = (cutV id most d).ids.foldl withV ((cutV id most c).ids.foldl withV ((cutV id most b).ids.foldl withV ((cutV id most a).ids.foldl withV []))) := by
    unfold allOf
    rw [List.foldl_append, List.foldl_append, List.foldl_append]
  rw [cutV, hall]
  unfold cutF0 cutF1 cutF2 cutF3 cutF4
  rw [Bool.true_and]
  cases (noKids (cutV id most a) && noKids (cutV id most b) && noKids (cutV id most c) && noKids (cutV id most d) && decide ((((cutV id most d).ids.foldl withV ((cutV id most c).ids.foldl withV ((cutV id most b).ids.foldl withV ((cutV id most a).ids.foldl withV [])))).length : Int) ≤ most)) with
  | true => exact .refl _
  | false =>
    refine FLe.agg ⟨.refl _, .refl _, .refl _, FLe.sl fun q hq => ?_, .refl _, trivial⟩
    have hq : q < 4 := hq
    have : q = 0 ∨ q = 1 ∨ q = 2 ∨ q = 3 := by omega
    rcases this with rfl | rfl | rfl | rfl <;> rfl
end
theorem cut_node (D : Nat) (x y s : Int) (a b c d : Tr) (id most : Int) (ho : ctOk (D + 1) most (.node x y s a b c d) = true) : ∃ k rt, G40n D k x y s a b c d id most = some rt ∧ FLe rt (trL (cutV id most (.node x y s a b c d))) := by
  simp only [ctOk, Bool.and_eq_true, decide_eq_true_eq, trDepth, idsLe] at ho
  obtain ⟨⟨ho, hl⟩, ⟨⟨ia, ib⟩, ic⟩, idd⟩ := ho
  have hm := Nat.max_lt.1 (Nat.lt_of_succ_lt_succ (of_decide_eq_true ho))
  have hm1 := Nat.max_lt.1 hm.1
  have hm2 := Nat.max_lt.1 hm.2
  have ok : ∀ t, trDepth t < D → idsLe 1000 t = true → ctOk D most t = true := fun t ht hi => by simp only [ctOk, Bool.and_eq_true, decide_eq_true_eq]; exact ⟨⟨ht, hl⟩, hi⟩
  obtain ⟨k, rt, e1, e2⟩ := p0z D x y s a b c d id most (ok a hm1.1 ia) (ok b hm1.2 ib) (ok c hm2.1 ic) (ok d hm2.2 idd) (lget []) true (lget [])
  refine ⟨k, rt, e1, fun w Z v hv => cut_fin x y s a b c d id most (lget []) w Z v (e2 w Z v hv)⟩
theorem cut_leaf (D : Nat) (x y s : Int) (ids : List Int) (id most : Int) (hi : ids.length ≤ 1000) : ∀ (n i m : Nat) (kg : Nat → F) (o : List Int), i + n = ids.length → Lists i64F 0 m kg o → m ≤ i → ∃ rt, L40l_4 D (n + 1) x y s ids id m kg i = some rt ∧ FLe rt (trL (.leaf x y s (o ++ (ids.drop i).filter fun i => i != id)))
  | 0, i, m, kg, o, h, hg, hm => by
    have c1 : decide ((i : Int) < (ids.length : Int)) = false := decide_eq_false (by omega)
    rw [L40l_4]
    simp only [T40l_4, c1, bsel_false, bsel_true, decide_true]
    refine ⟨_, rfl, ?_⟩
    rw [List.drop_eq_nil_of_le (by omega)]
    simp only [List.filter_nil, List.append_nil]
    exact FLe.agg ⟨.refl _, .refl _, .refl _, FLe.sl fun q hq => absurd hq (Nat.not_lt_zero _), hg.le, trivial⟩
  | n + 1, i, m, kg, o, h, hg, hm => by
    have hlt : i < ids.length := by omega
    have c1 : decide ((i : Int) < (ids.length : Int)) = true := decide_eq_true (by omega)
    have c2 : decide (0 ≤ (i : Int)) = true := decide_eq_true (by omega)
    have c3 : decide (((m + 1 : Nat) : Int) * (((8 : Nat) : Int) + 1) ≤ (limit : Int)) = true := by rw [limit_eq]; exact decide_eq_true (by omega)
    have hw : IntKind.i64.wrap ((i : Int) + 1) = ((i + 1 : Nat) : Int) := by rw [wrapi (by omega) (by omega)]; omega
    have h1 : ids.getD i 0 = ids[i] := by simp [List.getD, List.getElem?_eq_getElem hlt]
    rw [List.drop_eq_getElem_cons hlt, L40l_4]
    simp only [T40l_4, c1, c2, c3, hw, Int.toNat_natCast, h1, decide_true, bsel_true, List.filter_cons]
    cases (ids[i] != id) with
    | true =>
      obtain ⟨rt, e1, e2⟩ := cut_leaf D x y s ids id most hi n (i + 1) (m + 1) _ (o ++ [ids[i]]) (by omega) (hg.push ids[i]) (by omega)
      exact ⟨rt, e1, by simpa using e2⟩
    | false =>
      obtain ⟨rt, e1, e2⟩ := cut_leaf D x y s ids id most hi n (i + 1) m kg o (by omega) hg (by omega)
      exact ⟨rt, e1, by simpa using e2⟩
theorem okCut : ∀ D, PureOK Try.prog 40 (preCt D) resCt
  | 0 => by
    intro xs hp
    exfalso
    unfold preCt at hp
    split at hp
    · simp only [ctOk, Bool.and_eq_true, decide_eq_true_eq] at hp
      omega
    · cases hp
  | D + 1 => fn_pure_at (c := bodyOf Try.f40) Try.func40 (by kernel_rfl) (by kernel_rfl) fun xs hp => match xs, hp with
    | [t, .int .i64 id, .int .i64 most], hp => by
      simp only [preCt, Bool.and_eq_true] at hp
      obtain ⟨h1, h3⟩ := hp
      have ht := trA_le h1
      have hr : resCt [t, .int .i64 id, .int .i64 most] = trL (cutV id most (unTrA t)) := rfl
      rw [hr]
      generalize unTrA t = t' at ht h3 ⊢
      cases t' with
      | leaf x y s ids =>
        have hi : ids.length ≤ 1000 := by
          simp only [ctOk, Bool.and_eq_true, idsLe] at h3
          exact of_decide_eq_true h3.2
        obtain ⟨rt, e1, e2⟩ := cut_leaf D x y s ids id most hi ids.length 0 0 (lget []) [] (by omega) Lists.nil (by omega)
        rw [List.drop_zero, List.nil_append] at e2
        exact ⟨[trL (.leaf x y s ids), _, _], _, ⟨ht, .refl _, .refl _, trivial⟩, t40l D (Env.add_ok envB1_ok (okCut D).sp) (ids.length + 1) x y s ids id most _ e1, e2⟩
      | node x y s a b c d =>
        obtain ⟨k, rt, e1, e2⟩ := cut_node D x y s a b c d id most h3
        exact ⟨[trL (.node x y s a b c d), _, _], _, ⟨ht, .refl _, .refl _, trivial⟩, t40n D (Env.add_ok envB1_ok (okCut D).sp) k x y s a b c d id most _ e1, e2⟩
def envB5 : Env := envB4.add 40 (.pure (preCt 10) resCt)
theorem envB5_ok : EnvOK Try.prog envB5 := (Env.add_ok envB4_ok (okCut 10).sp)
end
end Go.Proofs.Ytbnainbjcaekjaa.R
