/-
  The own walk and what it shows, part 6 of 8.
-/
import Derived.Test.YtbnainbjcaekjaaJ1
import Derived.Test.YtbnainbjcaekjaaJ2
import Derived.Test.YtbnainbjcaekjaaJ3
import Derived.Test.YtbnainbjcaekjaaJ4
import Derived.Test.YtbnainbjcaekjaaJ5
set_option linter.unusedVariables false
set_option linter.unusedSimpArgs false
set_option maxRecDepth 100000
set_option exponentiation.threshold 30000
namespace Go.Proofs.Ytbnainbjcaekjaa.R
open Go
noncomputable section
/-! ### function 37 -/
def S37n_6n0 (x : Int) (y : Int) (s : Int) (a : Tr) (b : Tr) (c : Tr) (d : Tr) (l : List It) (id : Int) (g : Sg) (most : Int) (deep : Int) (kg : Nat → F) : St := ⟨[.bad, (U.hs 0 l.length 0 l.length), (U.f (F.int .i64 id)), .bad, (U.f (F.int .i64 most)), (U.f (F.int .i64 deep)), (U.hp 1 0), .bad, .bad, (U.hp 2 0), .bad, .bad, (U.hp 3 0), (U.hs 4 0 0 0), (U.f (F.int .i64 0)), .bad, .bad, .bad, .bad, .bad, .bad, .bad, .bad, .bad, .bad, .bad, .bad, .bad, .bad, .bad, .bad, .bad, .bad, .bad, .bad, .bad, .bad, .bad, .bad, .bad, .bad, .bad, .bad, .bad, .bad, .bad, .bad, .bad, .bad, .bad, .bad, .bad, .bad, .bad, .bad, .bad, .bad, .bad, .bad, .bad, .bad, .bad, .bad, .bad, .bad, .bad, .bad, .bad, .bad, .bad, .bad, .bad, .bad, .bad, .bad, .bad, .bad, .bad, .bad, .bad, .bad, .bad, .bad, .bad, .bad, .bad, .bad, .bad, .bad, .bad, .bad, .bad, .bad, .bad, .bad, .bad, .bad, .bad, .bad, .bad, .bad, .bad, .bad, .bad, .bad, .bad, .bad, .bad, .bad, .bad, .bad, .bad, .bad, .bad, .bad, .bad, .bad, .bad, .bad, .bad, .bad, .bad, .bad, .bad, .bad], [HO.arr 5 l.length (fun i => itF (l.getD i It.zero)), HO.box [(U.f (F.int .i64 x)), (U.f (F.int .i64 y)), (U.f (F.int .i64 s)), (U.f (F.cl 4 (kidG (Tr.node x y s a b c d)))), (U.f (intsF []))], HO.box [(U.f (F.int .i64 g.x0)), (U.f (F.int .i64 g.y0)), (U.f (F.int .i64 g.x1)), (U.f (F.int .i64 g.y1))], HO.box [(U.f (F.int .i64 0)), (U.f (F.int .i64 0)), (U.f (F.int .i64 0)), U.nils, U.nils], HO.arr 5 0 kg]⟩
def S37n_6n1 (x : Int) (y : Int) (s : Int) (a : Tr) (b : Tr) (c : Tr) (d : Tr) (l : List It) (id : Int) (g : Sg) (most : Int) (deep : Int) (kg : Nat → F) : St := ⟨[.bad, (U.hs 0 l.length 0 l.length), (U.f (F.int .i64 id)), .bad, (U.f (F.int .i64 most)), (U.f (F.int .i64 deep)), (U.hp 1 0), .bad, .bad, (U.hp 2 0), .bad, .bad, (U.hp 3 0), (U.hs 4 1 0 1), (U.f (F.int .i64 1)), .bad, .bad, .bad, .bad, .bad, .bad, .bad, .bad, .bad, .bad, .bad, .bad, .bad, .bad, .bad, .bad, .bad, .bad, .bad, .bad, .bad, .bad, .bad, .bad, .bad, .bad, .bad, .bad, .bad, .bad, .bad, .bad, .bad, .bad, .bad, .bad, .bad, .bad, .bad, .bad, .bad, .bad, .bad, .bad, .bad, .bad, .bad, .bad, .bad, .bad, .bad, .bad, .bad, .bad, .bad, .bad, .bad, .bad, .bad, .bad, .bad, .bad, .bad, .bad, .bad, .bad, .bad, .bad, .bad, .bad, .bad, .bad, .bad, .bad, .bad, .bad, .bad, .bad, .bad, .bad, .bad, .bad, .bad, .bad, .bad, .bad, .bad, .bad, .bad, .bad, .bad, .bad, .bad, .bad, .bad, .bad, .bad, .bad, .bad, .bad, .bad, .bad, .bad, .bad, .bad, .bad, .bad, .bad, .bad, .bad], [HO.arr 5 l.length (fun i => itF (l.getD i It.zero)), HO.box [(U.f (F.int .i64 x)), (U.f (F.int .i64 y)), (U.f (F.int .i64 s)), (U.f (F.cl 4 (kidG (Tr.node x y s a b c d)))), (U.f (intsF []))], HO.box [(U.f (F.int .i64 g.x0)), (U.f (F.int .i64 g.y0)), (U.f (F.int .i64 g.x1)), (U.f (F.int .i64 g.y1))], HO.box [(U.f (F.int .i64 0)), (U.f (F.int .i64 0)), (U.f (F.int .i64 0)), U.nils, U.nils], HO.arr 5 1 kg]⟩
def S37n_6n2 (x : Int) (y : Int) (s : Int) (a : Tr) (b : Tr) (c : Tr) (d : Tr) (l : List It) (id : Int) (g : Sg) (most : Int) (deep : Int) (kg : Nat → F) : St := ⟨[.bad, (U.hs 0 l.length 0 l.length), (U.f (F.int .i64 id)), .bad, (U.f (F.int .i64 most)), (U.f (F.int .i64 deep)), (U.hp 1 0), .bad, .bad, (U.hp 2 0), .bad, .bad, (U.hp 3 0), (U.hs 4 2 0 2), (U.f (F.int .i64 2)), .bad, .bad, .bad, .bad, .bad, .bad, .bad, .bad, .bad, .bad, .bad, .bad, .bad, .bad, .bad, .bad, .bad, .bad, .bad, .bad, .bad, .bad, .bad, .bad, .bad, .bad, .bad, .bad, .bad, .bad, .bad, .bad, .bad, .bad, .bad, .bad, .bad, .bad, .bad, .bad, .bad, .bad, .bad, .bad, .bad, .bad, .bad, .bad, .bad, .bad, .bad, .bad, .bad, .bad, .bad, .bad, .bad, .bad, .bad, .bad, .bad, .bad, .bad, .bad, .bad, .bad, .bad, .bad, .bad, .bad, .bad, .bad, .bad, .bad, .bad, .bad, .bad, .bad, .bad, .bad, .bad, .bad, .bad, .bad, .bad, .bad, .bad, .bad, .bad, .bad, .bad, .bad, .bad, .bad, .bad, .bad, .bad, .bad, .bad, .bad, .bad, .bad, .bad, .bad, .bad, .bad, .bad, .bad, .bad, .bad], [HO.arr 5 l.length (fun i => itF (l.getD i It.zero)), HO.box [(U.f (F.int .i64 x)), (U.f (F.int .i64 y)), (U.f (F.int .i64 s)), (U.f (F.cl 4 (kidG (Tr.node x y s a b c d)))), (U.f (intsF []))], HO.box [(U.f (F.int .i64 g.x0)), (U.f (F.int .i64 g.y0)), (U.f (F.int .i64 g.x1)), (U.f (F.int .i64 g.y1))], HO.box [(U.f (F.int .i64 0)), (U.f (F.int .i64 0)), (U.f (F.int .i64 0)), U.nils, U.nils], HO.arr 5 2 kg]⟩
def S37n_6n3 (x : Int) (y : Int) (s : Int) (a : Tr) (b : Tr) (c : Tr) (d : Tr) (l : List It) (id : Int) (g : Sg) (most : Int) (deep : Int) (kg : Nat → F) : St := ⟨[.bad, (U.hs 0 l.length 0 l.length), (U.f (F.int .i64 id)), .bad, (U.f (F.int .i64 most)), (U.f (F.int .i64 deep)), (U.hp 1 0), .bad, .bad, (U.hp 2 0), .bad, .bad, (U.hp 3 0), (U.hs 4 3 0 3), (U.f (F.int .i64 3)), .bad, .bad, .bad, .bad, .bad, .bad, .bad, .bad, .bad, .bad, .bad, .bad, .bad, .bad, .bad, .bad, .bad, .bad, .bad, .bad, .bad, .bad, .bad, .bad, .bad, .bad, .bad, .bad, .bad, .bad, .bad, .bad, .bad, .bad, .bad, .bad, .bad, .bad, .bad, .bad, .bad, .bad, .bad, .bad, .bad, .bad, .bad, .bad, .bad, .bad, .bad, .bad, .bad, .bad, .bad, .bad, .bad, .bad, .bad, .bad, .bad, .bad, .bad, .bad, .bad, .bad, .bad, .bad, .bad, .bad, .bad, .bad, .bad, .bad, .bad, .bad, .bad, .bad, .bad, .bad, .bad, .bad, .bad, .bad, .bad, .bad, .bad, .bad, .bad, .bad, .bad, .bad, .bad, .bad, .bad, .bad, .bad, .bad, .bad, .bad, .bad, .bad, .bad, .bad, .bad, .bad, .bad, .bad, .bad, .bad], [HO.arr 5 l.length (fun i => itF (l.getD i It.zero)), HO.box [(U.f (F.int .i64 x)), (U.f (F.int .i64 y)), (U.f (F.int .i64 s)), (U.f (F.cl 4 (kidG (Tr.node x y s a b c d)))), (U.f (intsF []))], HO.box [(U.f (F.int .i64 g.x0)), (U.f (F.int .i64 g.y0)), (U.f (F.int .i64 g.x1)), (U.f (F.int .i64 g.y1))], HO.box [(U.f (F.int .i64 0)), (U.f (F.int .i64 0)), (U.f (F.int .i64 0)), U.nils, U.nils], HO.arr 5 3 kg]⟩
def S37n_6n4 (x : Int) (y : Int) (s : Int) (a : Tr) (b : Tr) (c : Tr) (d : Tr) (l : List It) (id : Int) (g : Sg) (most : Int) (deep : Int) (kg : Nat → F) : St := ⟨[.bad, (U.hs 0 l.length 0 l.length), (U.f (F.int .i64 id)), .bad, (U.f (F.int .i64 most)), (U.f (F.int .i64 deep)), (U.hp 1 0), .bad, .bad, (U.hp 2 0), .bad, .bad, (U.hp 3 0), (U.hs 4 4 0 4), (U.f (F.int .i64 4)), .bad, .bad, .bad, .bad, .bad, .bad, .bad, .bad, .bad, .bad, .bad, .bad, .bad, .bad, .bad, .bad, .bad, .bad, .bad, .bad, .bad, .bad, .bad, .bad, .bad, .bad, .bad, .bad, .bad, .bad, .bad, .bad, .bad, .bad, .bad, .bad, .bad, .bad, .bad, .bad, .bad, .bad, .bad, .bad, .bad, .bad, .bad, .bad, .bad, .bad, .bad, .bad, .bad, .bad, .bad, .bad, .bad, .bad, .bad, .bad, .bad, .bad, .bad, .bad, .bad, .bad, .bad, .bad, .bad, .bad, .bad, .bad, .bad, .bad, .bad, .bad, .bad, .bad, .bad, .bad, .bad, .bad, .bad, .bad, .bad, .bad, .bad, .bad, .bad, .bad, .bad, .bad, .bad, .bad, .bad, .bad, .bad, .bad, .bad, .bad, .bad, .bad, .bad, .bad, .bad, .bad, .bad, .bad, .bad, .bad], [HO.arr 5 l.length (fun i => itF (l.getD i It.zero)), HO.box [(U.f (F.int .i64 x)), (U.f (F.int .i64 y)), (U.f (F.int .i64 s)), (U.f (F.cl 4 (kidG (Tr.node x y s a b c d)))), (U.f (intsF []))], HO.box [(U.f (F.int .i64 g.x0)), (U.f (F.int .i64 g.y0)), (U.f (F.int .i64 g.x1)), (U.f (F.int .i64 g.y1))], HO.box [(U.f (F.int .i64 0)), (U.f (F.int .i64 0)), (U.f (F.int .i64 0)), U.nils, U.nils], HO.arr 5 4 kg]⟩
def S37n_19  : St := ⟨[.bad, .bad, .bad, .bad, .bad, .bad, .bad, .bad, .bad, .bad, .bad, .bad, .bad, .bad, .bad, .bad, .bad, .bad, .bad, .bad, .bad, .bad, .bad, .bad, .bad, .bad, .bad, .bad, .bad, .bad, .bad, .bad, .bad, .bad, .bad, .bad, .bad, .bad, .bad, .bad, .bad, .bad, .bad, .bad, .bad, .bad, .bad, .bad, .bad, .bad, .bad, .bad, .bad, .bad, .bad, .bad, .bad, .bad, .bad, .bad, .bad, .bad, .bad, .bad, .bad, .bad, .bad, .bad, .bad, .bad, .bad, .bad, .bad, .bad, .bad, .bad, .bad, .bad, .bad, .bad, .bad, .bad, .bad, .bad, .bad, .bad, .bad, .bad, .bad, .bad, .bad, .bad, .bad, .bad, .bad, .bad, .bad, .bad, .bad, .bad, .bad, .bad, .bad, .bad, .bad, .bad, .bad, .bad, .bad, .bad, .bad, .bad, .bad, .bad, .bad, .bad, .bad, .bad, .bad, .bad, .bad, .bad, .bad, .bad, .bad], []⟩
def S37n_15  : St := ⟨[.bad, .bad, .bad, .bad, .bad, .bad, .bad, .bad, .bad, .bad, .bad, .bad, .bad, .bad, .bad, .bad, .bad, .bad, .bad, .bad, .bad, .bad, .bad, .bad, .bad, .bad, .bad, .bad, .bad, .bad, .bad, .bad, .bad, .bad, .bad, .bad, .bad, .bad, .bad, .bad, .bad, .bad, .bad, .bad, .bad, .bad, .bad, .bad, .bad, .bad, .bad, .bad, .bad, .bad, .bad, .bad, .bad, .bad, .bad, .bad, .bad, .bad, .bad, .bad, .bad, .bad, .bad, .bad, .bad, .bad, .bad, .bad, .bad, .bad, .bad, .bad, .bad, .bad, .bad, .bad, .bad, .bad, .bad, .bad, .bad, .bad, .bad, .bad, .bad, .bad, .bad, .bad, .bad, .bad, .bad, .bad, .bad, .bad, .bad, .bad, .bad, .bad, .bad, .bad, .bad, .bad, .bad, .bad, .bad, .bad, .bad, .bad, .bad, .bad, .bad, .bad, .bad, .bad, .bad, .bad, .bad, .bad, .bad, .bad, .bad], []⟩
abbrev KJ61 (ρ : Type) := (Int) → (Int) → (Int) → (Tr) → (Tr) → (Tr) → (Tr) → (List It) → (Int) → (Sg) → (Int) → (Int) → (Nat → F) → Option ρ
abbrev KJ68 (ρ : Type) := (F) → (Nat) → (Nat → F) → Option ρ
def T37n_6n0 {ρ : Type} (D : Nat) (ret : KJ68 ρ) (c6n0 : KJ61 ρ) (c6n1 : KJ61 ρ) (c6n2 : KJ61 ρ) (c6n3 : KJ61 ρ) (c6n4 : KJ61 ρ) (c19 : Option ρ) (c15 : Option ρ) (x : Int) (y : Int) (s : Int) (a : Tr) (b : Tr) (c : Tr) (d : Tr) (l : List It) (id : Int) (g : Sg) (most : Int) (deep : Int) (kg : Nat → F) : Option ρ :=
 (bsel (decide (l.length = l.length) && true && decide (l.length = l.length))
 (bsel (isTr (trF a) && isItems (F.sl l.length fun i ↦ itF (l.getD i It.zero)) && ptOk D (unTr (trF a)) (unItems (F.sl l.length fun i ↦ itF (l.getD i It.zero))))
 (bsel (decide ((↑(0 + 1) : Int) * (((72 : Nat) : Int) + 1) ≤ (↑limit : Int)))
 (c6n1 (x) (y) (s) (a) (b) (c) (d) (l) (id) (g) (most) (deep) (fun j ↦ trL (putV (unItems (F.sl l.length fun i ↦ itF (l.getD i It.zero))) id { x0 := g.x0, y0 := g.y0, x1 := g.x1, y1 := g.y1 } most (unTr (trF a)) (IntKind.i64.wrap (deep - 1)))))
 none)
 none)
 none)
def T37n_6n1 {ρ : Type} (D : Nat) (ret : KJ68 ρ) (c6n0 : KJ61 ρ) (c6n1 : KJ61 ρ) (c6n2 : KJ61 ρ) (c6n3 : KJ61 ρ) (c6n4 : KJ61 ρ) (c19 : Option ρ) (c15 : Option ρ) (x : Int) (y : Int) (s : Int) (a : Tr) (b : Tr) (c : Tr) (d : Tr) (l : List It) (id : Int) (g : Sg) (most : Int) (deep : Int) (kg : Nat → F) : Option ρ :=
 (bsel (decide (l.length = l.length) && true && decide (l.length = l.length))
 (bsel (isTr (trF b) && isItems (F.sl l.length fun i ↦ itF (l.getD i It.zero)) && ptOk D (unTr (trF b)) (unItems (F.sl l.length fun i ↦ itF (l.getD i It.zero))))
 (bsel (decide ((↑(1 + 1) : Int) * (((72 : Nat) : Int) + 1) ≤ (↑limit : Int)))
 (c6n2 (x) (y) (s) (a) (b) (c) (d) (l) (id) (g) (most) (deep) (fun j ↦ if j < 1 then kg j else trL (putV (unItems (F.sl l.length fun i ↦ itF (l.getD i It.zero))) id { x0 := g.x0, y0 := g.y0, x1 := g.x1, y1 := g.y1 } most (unTr (trF b)) (IntKind.i64.wrap (deep - 1)))))
 none)
 none)
 none)
def T37n_6n2 {ρ : Type} (D : Nat) (ret : KJ68 ρ) (c6n0 : KJ61 ρ) (c6n1 : KJ61 ρ) (c6n2 : KJ61 ρ) (c6n3 : KJ61 ρ) (c6n4 : KJ61 ρ) (c19 : Option ρ) (c15 : Option ρ) (x : Int) (y : Int) (s : Int) (a : Tr) (b : Tr) (c : Tr) (d : Tr) (l : List It) (id : Int) (g : Sg) (most : Int) (deep : Int) (kg : Nat → F) : Option ρ :=
 (bsel (decide (l.length = l.length) && true && decide (l.length = l.length))
 (bsel (isTr (trF c) && isItems (F.sl l.length fun i ↦ itF (l.getD i It.zero)) && ptOk D (unTr (trF c)) (unItems (F.sl l.length fun i ↦ itF (l.getD i It.zero))))
 (bsel (decide ((↑(2 + 1) : Int) * (((72 : Nat) : Int) + 1) ≤ (↑limit : Int)))
 (c6n3 (x) (y) (s) (a) (b) (c) (d) (l) (id) (g) (most) (deep) (fun j ↦ if j < 2 then kg j else trL (putV (unItems (F.sl l.length fun i ↦ itF (l.getD i It.zero))) id { x0 := g.x0, y0 := g.y0, x1 := g.x1, y1 := g.y1 } most (unTr (trF c)) (IntKind.i64.wrap (deep - 1)))))
 none)
 none)
 none)
def T37n_6n3 {ρ : Type} (D : Nat) (ret : KJ68 ρ) (c6n0 : KJ61 ρ) (c6n1 : KJ61 ρ) (c6n2 : KJ61 ρ) (c6n3 : KJ61 ρ) (c6n4 : KJ61 ρ) (c19 : Option ρ) (c15 : Option ρ) (x : Int) (y : Int) (s : Int) (a : Tr) (b : Tr) (c : Tr) (d : Tr) (l : List It) (id : Int) (g : Sg) (most : Int) (deep : Int) (kg : Nat → F) : Option ρ :=
 (bsel (decide (l.length = l.length) && true && decide (l.length = l.length))
 (bsel (isTr (trF d) && isItems (F.sl l.length fun i ↦ itF (l.getD i It.zero)) && ptOk D (unTr (trF d)) (unItems (F.sl l.length fun i ↦ itF (l.getD i It.zero))))
 (bsel (decide ((↑(3 + 1) : Int) * (((72 : Nat) : Int) + 1) ≤ (↑limit : Int)))
 (c6n4 (x) (y) (s) (a) (b) (c) (d) (l) (id) (g) (most) (deep) (fun j ↦ if j < 3 then kg j else trL (putV (unItems (F.sl l.length fun i ↦ itF (l.getD i It.zero))) id { x0 := g.x0, y0 := g.y0, x1 := g.x1, y1 := g.y1 } most (unTr (trF d)) (IntKind.i64.wrap (deep - 1)))))
 none)
 none)
 none)
def T37n_6n4 {ρ : Type} (D : Nat) (ret : KJ68 ρ) (c6n0 : KJ61 ρ) (c6n1 : KJ61 ρ) (c6n2 : KJ61 ρ) (c6n3 : KJ61 ρ) (c6n4 : KJ61 ρ) (c19 : Option ρ) (c15 : Option ρ) (x : Int) (y : Int) (s : Int) (a : Tr) (b : Tr) (c : Tr) (d : Tr) (l : List It) (id : Int) (g : Sg) (most : Int) (deep : Int) (kg : Nat → F) : Option ρ :=
 (ret (F.agg [F.int .i64 x, F.int .i64 y, F.int .i64 s, F.sl 4 kg, intsF []]) (l.length) (fun i ↦ itF (l.getD i It.zero)))
def T37n_19 {ρ : Type} (D : Nat) (ret : KJ68 ρ) (c6n0 : KJ61 ρ) (c6n1 : KJ61 ρ) (c6n2 : KJ61 ρ) (c6n3 : KJ61 ρ) (c6n4 : KJ61 ρ) (c19 : Option ρ) (c15 : Option ρ)  : Option ρ :=
 none
def T37n_15 {ρ : Type} (D : Nat) (ret : KJ68 ρ) (c6n0 : KJ61 ρ) (c6n1 : KJ61 ρ) (c6n2 : KJ61 ρ) (c6n3 : KJ61 ρ) (c6n4 : KJ61 ρ) (c19 : Option ρ) (c15 : Option ρ)  : Option ρ :=
 none
mutual
def L37n_6n0 (D : Nat) : Nat → (Int) → (Int) → (Int) → (Tr) → (Tr) → (Tr) → (Tr) → (List It) → (Int) → (Sg) → (Int) → (Int) → (Nat → F) → Option ((F) × (Nat) × (Nat → F))
  | 0, _, _, _, _, _, _, _, _, _, _, _, _, _ => none
  | k + 1, x, y, s, a, b, c, d, l, id, g, most, deep, kg => T37n_6n0 D (fun rt nn ig => some (rt, nn, ig)) (L37n_6n0 D k) (L37n_6n1 D k) (L37n_6n2 D k) (L37n_6n3 D k) (L37n_6n4 D k) (L37n_19 D k) (L37n_15 D k) x y s a b c d l id g most deep kg
  termination_by structural k => k
def L37n_6n1 (D : Nat) : Nat → (Int) → (Int) → (Int) → (Tr) → (Tr) → (Tr) → (Tr) → (List It) → (Int) → (Sg) → (Int) → (Int) → (Nat → F) → Option ((F) × (Nat) × (Nat → F))
  | 0, _, _, _, _, _, _, _, _, _, _, _, _, _ => none
  | k + 1, x, y, s, a, b, c, d, l, id, g, most, deep, kg => T37n_6n1 D (fun rt nn ig => some (rt, nn, ig)) (L37n_6n0 D k) (L37n_6n1 D k) (L37n_6n2 D k) (L37n_6n3 D k) (L37n_6n4 D k) (L37n_19 D k) (L37n_15 D k) x y s a b c d l id g most deep kg
  termination_by structural k => k
def L37n_6n2 (D : Nat) : Nat → (Int) → (Int) → (Int) → (Tr) → (Tr) → (Tr) → (Tr) → (List It) → (Int) → (Sg) → (Int) → (Int) → (Nat → F) → Option ((F) × (Nat) × (Nat → F))
  | 0, _, _, _, _, _, _, _, _, _, _, _, _, _ => none
  | k + 1, x, y, s, a, b, c, d, l, id, g, most, deep, kg => T37n_6n2 D (fun rt nn ig => some (rt, nn, ig)) (L37n_6n0 D k) (L37n_6n1 D k) (L37n_6n2 D k) (L37n_6n3 D k) (L37n_6n4 D k) (L37n_19 D k) (L37n_15 D k) x y s a b c d l id g most deep kg
  termination_by structural k => k
def L37n_6n3 (D : Nat) : Nat → (Int) → (Int) → (Int) → (Tr) → (Tr) → (Tr) → (Tr) → (List It) → (Int) → (Sg) → (Int) → (Int) → (Nat → F) → Option ((F) × (Nat) × (Nat → F))
  | 0, _, _, _, _, _, _, _, _, _, _, _, _, _ => none
  | k + 1, x, y, s, a, b, c, d, l, id, g, most, deep, kg => T37n_6n3 D (fun rt nn ig => some (rt, nn, ig)) (L37n_6n0 D k) (L37n_6n1 D k) (L37n_6n2 D k) (L37n_6n3 D k) (L37n_6n4 D k) (L37n_19 D k) (L37n_15 D k) x y s a b c d l id g most deep kg
  termination_by structural k => k
def L37n_6n4 (D : Nat) : Nat → (Int) → (Int) → (Int) → (Tr) → (Tr) → (Tr) → (Tr) → (List It) → (Int) → (Sg) → (Int) → (Int) → (Nat → F) → Option ((F) × (Nat) × (Nat → F))
  | 0, _, _, _, _, _, _, _, _, _, _, _, _, _ => none
  | k + 1, x, y, s, a, b, c, d, l, id, g, most, deep, kg => T37n_6n4 D (fun rt nn ig => some (rt, nn, ig)) (L37n_6n0 D k) (L37n_6n1 D k) (L37n_6n2 D k) (L37n_6n3 D k) (L37n_6n4 D k) (L37n_19 D k) (L37n_15 D k) x y s a b c d l id g most deep kg
  termination_by structural k => k
def L37n_19 (D : Nat) : Nat → Option ((F) × (Nat) × (Nat → F))
  | 0 => none
  | k + 1 => T37n_19 D (fun rt nn ig => some (rt, nn, ig)) (L37n_6n0 D k) (L37n_6n1 D k) (L37n_6n2 D k) (L37n_6n3 D k) (L37n_6n4 D k) (L37n_19 D k) (L37n_15 D k) 
  termination_by structural k => k
def L37n_15 (D : Nat) : Nat → Option ((F) × (Nat) × (Nat → F))
  | 0 => none
  | k + 1 => T37n_15 D (fun rt nn ig => some (rt, nn, ig)) (L37n_6n0 D k) (L37n_6n1 D k) (L37n_6n2 D k) (L37n_6n3 D k) (L37n_6n4 D k) (L37n_19 D k) (L37n_15 D k) 
  termination_by structural k => k
end
def T37n {ρ : Type} (D : Nat) (ret : KJ68 ρ) (c6n0 : KJ61 ρ) (c6n1 : KJ61 ρ) (c6n2 : KJ61 ρ) (c6n3 : KJ61 ρ) (c6n4 : KJ61 ρ) (c19 : Option ρ) (c15 : Option ρ) (x : Int) (y : Int) (s : Int) (a : Tr) (b : Tr) (c : Tr) (d : Tr) (l : List It) (id : Int) (g : Sg) (most : Int) (deep : Int) : Option ρ :=
 (bsel (!meetsV g.x0 g.y0 g.x1 g.y1 (Tr.node x y s a b c d).x (Tr.node x y s a b c d).y (IntKind.i64.wrap ((Tr.node x y s a b c d).x + (Tr.node x y s a b c d).size)) (IntKind.i64.wrap ((Tr.node x y s a b c d).y + (Tr.node x y s a b c d).size)))
 (ret (trF (Tr.node x y s a b c d)) (l.length) (fun i ↦ itF (l.getD i It.zero)))
 (c6n0 ((Tr.node x y s a b c d).x) ((Tr.node x y s a b c d).y) ((Tr.node x y s a b c d).size) (a) (b) (c) (d) (l) (id) (g) (most) (deep) (lget [])))
def G37n (D : Nat) (k : Nat) (x : Int) (y : Int) (s : Int) (a : Tr) (b : Tr) (c : Tr) (d : Tr) (l : List It) (id : Int) (g : Sg) (most : Int) (deep : Int) : Option ((F) × (Nat) × (Nat → F)) := T37n D (fun rt nn ig => some (rt, nn, ig)) (L37n_6n0 D k) (L37n_6n1 D k) (L37n_6n2 D k) (L37n_6n3 D k) (L37n_6n4 D k) (L37n_19 D k) (L37n_15 D k) x y s a b c d l id g most deep
mutual
theorem t37n_6n0 (D : Nat) (hE : EnvOK Try.prog (envPt D)) : ∀ (k : Nat) (x : Int) (y : Int) (s : Int) (a : Tr) (b : Tr) (c : Tr) (d : Tr) (l : List It) (id : Int) (g : Sg) (most : Int) (deep : Int) (kg : Nat → F) (rt : F) (nn : Nat) (ig : Nat → F), L37n_6n0 D k x y s a b c d l id g most deep kg = some (rt, nn, ig) → EndsN Try.prog 1 Try.f37.results.toList (at_ Try.f37 6) (S37n_6n0 x y s a b c d l id g most deep kg) (F.tup [rt, F.sl nn ig])
  | 0, _, _, _, _, _, _, _, _, _, _, _, _, _, _, _, _, h => nomatch h
  | k + 1, x, y, s, a, b, c, d, l, id, g, most, deep, kg, rt, nn, ig, h => by
    refine Ends.of_cut tyOK hE (T := [(6, [1, 2, 4, 5, 6, 9, 12, 13, 14], 1000), (19, [1, 6, 12, 15, 16, 17], 1000), (15, [1, 6, 12, 15], 1000)]) (n := 200) ?_
    have e : runCut Try.prog (tiOf Try.prog) (envPt D) [(6, [1, 2, 4, 5, 6, 9, 12, 13, 14], 1000), (19, [1, 6, 12, 15, 16, 17], 1000), (15, [1, 6, 12, 15], 1000)] 1 Try.f37.results.toList some 200 (at_ Try.f37 6) (S37n_6n0 x y s a b c d l id g most deep kg) = T37n_6n0 D (fun rt nn ig => some (.ret (F.tup [rt, F.sl nn ig]))) (fun x y s a b c d l id g most deep kg => some (.cut (at_ Try.f37 6) (S37n_6n0 x y s a b c d l id g most deep kg))) (fun x y s a b c d l id g most deep kg => some (.cut (at_ Try.f37 6) (S37n_6n1 x y s a b c d l id g most deep kg))) (fun x y s a b c d l id g most deep kg => some (.cut (at_ Try.f37 6) (S37n_6n2 x y s a b c d l id g most deep kg))) (fun x y s a b c d l id g most deep kg => some (.cut (at_ Try.f37 6) (S37n_6n3 x y s a b c d l id g most deep kg))) (fun x y s a b c d l id g most deep kg => some (.cut (at_ Try.f37 6) (S37n_6n4 x y s a b c d l id g most deep kg))) (some (.cut (at_ Try.f37 19) (S37n_19 ))) (some (.cut (at_ Try.f37 15) (S37n_15 ))) x y s a b c d l id g most deep kg := by kernel_rfl
    rw [e]
    exact (good_sel h (fun _ h => (good_sel h (fun _ h => (good_sel h (fun _ h => good_cut (t37n_6n1 D hE k _ _ _ _ _ _ _ _ _ _ _ _ _ rt nn ig h)) (fun _ h => nomatch h))) (fun _ h => nomatch h))) (fun _ h => nomatch h))
theorem t37n_6n1 (D : Nat) (hE : EnvOK Try.prog (envPt D)) : ∀ (k : Nat) (x : Int) (y : Int) (s : Int) (a : Tr) (b : Tr) (c : Tr) (d : Tr) (l : List It) (id : Int) (g : Sg) (most : Int) (deep : Int) (kg : Nat → F) (rt : F) (nn : Nat) (ig : Nat → F), L37n_6n1 D k x y s a b c d l id g most deep kg = some (rt, nn, ig) → EndsN Try.prog 1 Try.f37.results.toList (at_ Try.f37 6) (S37n_6n1 x y s a b c d l id g most deep kg) (F.tup [rt, F.sl nn ig])
  | 0, _, _, _, _, _, _, _, _, _, _, _, _, _, _, _, _, h => nomatch h
  | k + 1, x, y, s, a, b, c, d, l, id, g, most, deep, kg, rt, nn, ig, h => by
    refine Ends.of_cut tyOK hE (T := [(6, [1, 2, 4, 5, 6, 9, 12, 13, 14], 1000), (19, [1, 6, 12, 15, 16, 17], 1000), (15, [1, 6, 12, 15], 1000)]) (n := 200) ?_
    have e : runCut Try.prog (tiOf Try.prog) (envPt D) [(6, [1, 2, 4, 5, 6, 9, 12, 13, 14], 1000), (19, [1, 6, 12, 15, 16, 17], 1000), (15, [1, 6, 12, 15], 1000)] 1 Try.f37.results.toList some 200 (at_ Try.f37 6) (S37n_6n1 x y s a b c d l id g most deep kg) = T37n_6n1 D (fun rt nn ig => some (.ret (F.tup [rt, F.sl nn ig]))) (fun x y s a b c d l id g most deep kg => some (.cut (at_ Try.f37 6) (S37n_6n0 x y s a b c d l id g most deep kg))) (fun x y s a b c d l id g most deep kg => some (.cut (at_ Try.f37 6) (S37n_6n1 x y s a b c d l id g most deep kg))) (fun x y s a b c d l id g most deep kg => some (.cut (at_ Try.f37 6) (S37n_6n2 x y s a b c d l id g most deep kg))) (fun x y s a b c d l id g most deep kg => some (.cut (at_ Try.f37 6) (S37n_6n3 x y s a b c d l id g most deep kg))) (fun x y s a b c d l id g most deep kg => some (.cut (at_ Try.f37 6) (S37n_6n4 x y s a b c d l id g most deep kg))) (some (.cut (at_ Try.f37 19) (S37n_19 ))) (some (.cut (at_ Try.f37 15) (S37n_15 ))) x y s a b c d l id g most deep kg := by kernel_rfl
    rw [e]
    exact (good_sel h (fun _ h => (good_sel h (fun _ h => (good_sel h (fun _ h => good_cut (t37n_6n2 D hE k _ _ _ _ _ _ _ _ _ _ _ _ _ rt nn ig h)) (fun _ h => nomatch h))) (fun _ h => nomatch h))) (fun _ h => nomatch h))
theorem t37n_6n2 (D : Nat) (hE : EnvOK Try.prog (envPt D)) : ∀ (k : Nat) (x : Int) (y : Int) (s : Int) (a : Tr) (b : Tr) (c : Tr) (d : Tr) (l : List It) (id : Int) (g : Sg) (most : Int) (deep : Int) (kg : Nat → F) (rt : F) (nn : Nat) (ig : Nat → F), L37n_6n2 D k x y s a b c d l id g most deep kg = some (rt, nn, ig) → EndsN Try.prog 1 Try.f37.results.toList (at_ Try.f37 6) (S37n_6n2 x y s a b c d l id g most deep kg) (F.tup [rt, F.sl nn ig])
  | 0, _, _, _, _, _, _, _, _, _, _, _, _, _, _, _, _, h => nomatch h
  | k + 1, x, y, s, a, b, c, d, l, id, g, most, deep, kg, rt, nn, ig, h => by
    refine Ends.of_cut tyOK hE (T := [(6, [1, 2, 4, 5, 6, 9, 12, 13, 14], 1000), (19, [1, 6, 12, 15, 16, 17], 1000), (15, [1, 6, 12, 15], 1000)]) (n := 200) ?_
    have e : runCut Try.prog (tiOf Try.prog) (envPt D) [(6, [1, 2, 4, 5, 6, 9, 12, 13, 14], 1000), (19, [1, 6, 12, 15, 16, 17], 1000), (15, [1, 6, 12, 15], 1000)] 1 Try.f37.results.toList some 200 (at_ Try.f37 6) (S37n_6n2 x y s a b c d l id g most deep kg) = T37n_6n2 D (fun rt nn ig => some (.ret (F.tup [rt, F.sl nn ig]))) (fun x y s a b c d l id g most deep kg => some (.cut (at_ Try.f37 6) (S37n_6n0 x y s a b c d l id g most deep kg))) (fun x y s a b c d l id g most deep kg => some (.cut (at_ Try.f37 6) (S37n_6n1 x y s a b c d l id g most deep kg))) (fun x y s a b c d l id g most deep kg => some (.cut (at_ Try.f37 6) (S37n_6n2 x y s a b c d l id g most deep kg))) (fun x y s a b c d l id g most deep kg => some (.cut (at_ Try.f37 6) (S37n_6n3 x y s a b c d l id g most deep kg))) (fun x y s a b c d l id g most deep kg => some (.cut (at_ Try.f37 6) (S37n_6n4 x y s a b c d l id g most deep kg))) (some (.cut (at_ Try.f37 19) (S37n_19 ))) (some (.cut (at_ Try.f37 15) (S37n_15 ))) x y s a b c d l id g most deep kg := by kernel_rfl
    rw [e]
    exact (good_sel h (fun _ h => (good_sel h (fun _ h => (good_sel h (fun _ h => good_cut (t37n_6n3 D hE k _ _ _ _ _ _ _ _ _ _ _ _ _ rt nn ig h)) (fun _ h => nomatch h))) (fun _ h => nomatch h))) (fun _ h => nomatch h))
theorem t37n_6n3 (D : Nat) (hE : EnvOK Try.prog (envPt D)) : ∀ (k : Nat) (x : Int) (y : Int) (s : Int) (a : Tr) (b : Tr) (c : Tr) (d : Tr) (l : List It) (id : Int) (g : Sg) (most : Int) (deep : Int) (kg : Nat → F) (rt : F) (nn : Nat) (ig : Nat → F), L37n_6n3 D k x y s a b c d l id g most deep kg = some (rt, nn, ig) → EndsN Try.prog 1 Try.f37.results.toList (at_ Try.f37 6) (S37n_6n3 x y s a b c d l id g most deep kg) (F.tup [rt, F.sl nn ig])
  | 0, _, _, _, _, _, _, _, _, _, _, _, _, _, _, _, _, h => nomatch h
  | k + 1, x, y, s, a, b, c, d, l, id, g, most, deep, kg, rt, nn, ig, h => by
    refine Ends.of_cut tyOK hE (T := [(6, [1, 2, 4, 5, 6, 9, 12, 13, 14], 1000), (19, [1, 6, 12, 15, 16, 17], 1000), (15, [1, 6, 12, 15], 1000)]) (n := 200) ?_
    have e : runCut Try.prog (tiOf Try.prog) (envPt D) [(6, [1, 2, 4, 5, 6, 9, 12, 13, 14], 1000), (19, [1, 6, 12, 15, 16, 17], 1000), (15, [1, 6, 12, 15], 1000)] 1 Try.f37.results.toList some 200 (at_ Try.f37 6) (S37n_6n3 x y s a b c d l id g most deep kg) = T37n_6n3 D (fun rt nn ig => some (.ret (F.tup [rt, F.sl nn ig]))) (fun x y s a b c d l id g most deep kg => some (.cut (at_ Try.f37 6) (S37n_6n0 x y s a b c d l id g most deep kg))) (fun x y s a b c d l id g most deep kg => some (.cut (at_ Try.f37 6) (S37n_6n1 x y s a b c d l id g most deep kg))) (fun x y s a b c d l id g most deep kg => some (.cut (at_ Try.f37 6) (S37n_6n2 x y s a b c d l id g most deep kg))) (fun x y s a b c d l id g most deep kg => some (.cut (at_ Try.f37 6) (S37n_6n3 x y s a b c d l id g most deep kg))) (fun x y s a b c d l id g most deep kg => some (.cut (at_ Try.f37 6) (S37n_6n4 x y s a b c d l id g most deep kg))) (some (.cut (at_ Try.f37 19) (S37n_19 ))) (some (.cut (at_ Try.f37 15) (S37n_15 ))) x y s a b c d l id g most deep kg := by kernel_rfl
    rw [e]
    exact (good_sel h (fun _ h => (good_sel h (fun _ h => (good_sel h (fun _ h => good_cut (t37n_6n4 D hE k _ _ _ _ _ _ _ _ _ _ _ _ _ rt nn ig h)) (fun _ h => nomatch h))) (fun _ h => nomatch h))) (fun _ h => nomatch h))
theorem t37n_6n4 (D : Nat) (hE : EnvOK Try.prog (envPt D)) : ∀ (k : Nat) (x : Int) (y : Int) (s : Int) (a : Tr) (b : Tr) (c : Tr) (d : Tr) (l : List It) (id : Int) (g : Sg) (most : Int) (deep : Int) (kg : Nat → F) (rt : F) (nn : Nat) (ig : Nat → F), L37n_6n4 D k x y s a b c d l id g most deep kg = some (rt, nn, ig) → EndsN Try.prog 1 Try.f37.results.toList (at_ Try.f37 6) (S37n_6n4 x y s a b c d l id g most deep kg) (F.tup [rt, F.sl nn ig])
  | 0, _, _, _, _, _, _, _, _, _, _, _, _, _, _, _, _, h => nomatch h
  | k + 1, x, y, s, a, b, c, d, l, id, g, most, deep, kg, rt, nn, ig, h => by
    refine Ends.of_cut tyOK hE (T := [(6, [1, 2, 4, 5, 6, 9, 12, 13, 14], 1000), (19, [1, 6, 12, 15, 16, 17], 1000), (15, [1, 6, 12, 15], 1000)]) (n := 200) ?_
    have e : runCut Try.prog (tiOf Try.prog) (envPt D) [(6, [1, 2, 4, 5, 6, 9, 12, 13, 14], 1000), (19, [1, 6, 12, 15, 16, 17], 1000), (15, [1, 6, 12, 15], 1000)] 1 Try.f37.results.toList some 200 (at_ Try.f37 6) (S37n_6n4 x y s a b c d l id g most deep kg) = T37n_6n4 D (fun rt nn ig => some (.ret (F.tup [rt, F.sl nn ig]))) (fun x y s a b c d l id g most deep kg => some (.cut (at_ Try.f37 6) (S37n_6n0 x y s a b c d l id g most deep kg))) (fun x y s a b c d l id g most deep kg => some (.cut (at_ Try.f37 6) (S37n_6n1 x y s a b c d l id g most deep kg))) (fun x y s a b c d l id g most deep kg => some (.cut (at_ Try.f37 6) (S37n_6n2 x y s a b c d l id g most deep kg))) (fun x y s a b c d l id g most deep kg => some (.cut (at_ Try.f37 6) (S37n_6n3 x y s a b c d l id g most deep kg))) (fun x y s a b c d l id g most deep kg => some (.cut (at_ Try.f37 6) (S37n_6n4 x y s a b c d l id g most deep kg))) (some (.cut (at_ Try.f37 19) (S37n_19 ))) (some (.cut (at_ Try.f37 15) (S37n_15 ))) x y s a b c d l id g most deep kg := by kernel_rfl
    rw [e]
    exact good_ret (by cases h; rfl)
theorem t37n_19 (D : Nat) (hE : EnvOK Try.prog (envPt D)) : ∀ (k : Nat)  (rt : F) (nn : Nat) (ig : Nat → F), L37n_19 D k  = some (rt, nn, ig) → EndsN Try.prog 1 Try.f37.results.toList (at_ Try.f37 19) (S37n_19 ) (F.tup [rt, F.sl nn ig])
  | 0, _, _, _, h => nomatch h
  | k + 1, rt, nn, ig, h => by
    refine Ends.of_cut tyOK hE (T := [(6, [1, 2, 4, 5, 6, 9, 12, 13, 14], 1000), (19, [1, 6, 12, 15, 16, 17], 1000), (15, [1, 6, 12, 15], 1000)]) (n := 200) ?_
    have e : runCut Try.prog (tiOf Try.prog) (envPt D) [(6, [1, 2, 4, 5, 6, 9, 12, 13, 14], 1000), (19, [1, 6, 12, 15, 16, 17], 1000), (15, [1, 6, 12, 15], 1000)] 1 Try.f37.results.toList some 200 (at_ Try.f37 19) (S37n_19 ) = T37n_19 D (fun rt nn ig => some (.ret (F.tup [rt, F.sl nn ig]))) (fun x y s a b c d l id g most deep kg => some (.cut (at_ Try.f37 6) (S37n_6n0 x y s a b c d l id g most deep kg))) (fun x y s a b c d l id g most deep kg => some (.cut (at_ Try.f37 6) (S37n_6n1 x y s a b c d l id g most deep kg))) (fun x y s a b c d l id g most deep kg => some (.cut (at_ Try.f37 6) (S37n_6n2 x y s a b c d l id g most deep kg))) (fun x y s a b c d l id g most deep kg => some (.cut (at_ Try.f37 6) (S37n_6n3 x y s a b c d l id g most deep kg))) (fun x y s a b c d l id g most deep kg => some (.cut (at_ Try.f37 6) (S37n_6n4 x y s a b c d l id g most deep kg))) (some (.cut (at_ Try.f37 19) (S37n_19 ))) (some (.cut (at_ Try.f37 15) (S37n_15 )))  := by kernel_rfl
    rw [e]
    exact nomatch h
theorem t37n_15 (D : Nat) (hE : EnvOK Try.prog (envPt D)) : ∀ (k : Nat)  (rt : F) (nn : Nat) (ig : Nat → F), L37n_15 D k  = some (rt, nn, ig) → EndsN Try.prog 1 Try.f37.results.toList (at_ Try.f37 15) (S37n_15 ) (F.tup [rt, F.sl nn ig])
  | 0, _, _, _, h => nomatch h
  | k + 1, rt, nn, ig, h => by
    refine Ends.of_cut tyOK hE (T := [(6, [1, 2, 4, 5, 6, 9, 12, 13, 14], 1000), (19, [1, 6, 12, 15, 16, 17], 1000), (15, [1, 6, 12, 15], 1000)]) (n := 200) ?_
    have e : runCut Try.prog (tiOf Try.prog) (envPt D) [(6, [1, 2, 4, 5, 6, 9, 12, 13, 14], 1000), (19, [1, 6, 12, 15, 16, 17], 1000), (15, [1, 6, 12, 15], 1000)] 1 Try.f37.results.toList some 200 (at_ Try.f37 15) (S37n_15 ) = T37n_15 D (fun rt nn ig => some (.ret (F.tup [rt, F.sl nn ig]))) (fun x y s a b c d l id g most deep kg => some (.cut (at_ Try.f37 6) (S37n_6n0 x y s a b c d l id g most deep kg))) (fun x y s a b c d l id g most deep kg => some (.cut (at_ Try.f37 6) (S37n_6n1 x y s a b c d l id g most deep kg))) (fun x y s a b c d l id g most deep kg => some (.cut (at_ Try.f37 6) (S37n_6n2 x y s a b c d l id g most deep kg))) (fun x y s a b c d l id g most deep kg => some (.cut (at_ Try.f37 6) (S37n_6n3 x y s a b c d l id g most deep kg))) (fun x y s a b c d l id g most deep kg => some (.cut (at_ Try.f37 6) (S37n_6n4 x y s a b c d l id g most deep kg))) (some (.cut (at_ Try.f37 19) (S37n_19 ))) (some (.cut (at_ Try.f37 15) (S37n_15 )))  := by kernel_rfl
    rw [e]
    exact nomatch h
end
theorem t37n (D : Nat) (hE : EnvOK Try.prog (envPt D)) (k : Nat) (x : Int) (y : Int) (s : Int) (a : Tr) (b : Tr) (c : Tr) (d : Tr) (l : List It) (id : Int) (g : Sg) (most : Int) (deep : Int) (rt : F) (nn : Nat) (ig : Nat → F) (h : G37n D k x y s a b c d l id g most deep = some (rt, nn, ig)) : EndsN Try.prog 1 Try.f37.results.toList [.code (bodyOf Try.f37)] (startN Try.f37.ntmps [U.f (trF (Tr.node x y s a b c d)), U.hs 0 l.length 0 l.length, U.f (F.int .i64 id), U.f (sgF g), U.f (F.int .i64 most), U.f (F.int .i64 deep)] [HO.arr 5 l.length (fun i => itF (l.getD i It.zero))]) (F.tup [rt, F.sl nn ig]) := by
  refine Ends.of_run tyOK hE (T := [(6, [1, 2, 4, 5, 6, 9, 12, 13, 14], 1000), (19, [1, 6, 12, 15, 16, 17], 1000), (15, [1, 6, 12, 15], 1000)]) (n := 200) ?_
  have e : run Try.prog (tiOf Try.prog) (envPt D) [(6, [1, 2, 4, 5, 6, 9, 12, 13, 14], 1000), (19, [1, 6, 12, 15, 16, 17], 1000), (15, [1, 6, 12, 15], 1000)] 1 Try.f37.results.toList some 200 [.code (bodyOf Try.f37)] (startN Try.f37.ntmps [U.f (trF (Tr.node x y s a b c d)), U.hs 0 l.length 0 l.length, U.f (F.int .i64 id), U.f (sgF g), U.f (F.int .i64 most), U.f (F.int .i64 deep)] [HO.arr 5 l.length (fun i => itF (l.getD i It.zero))]) = T37n D (fun rt nn ig => some (.ret (F.tup [rt, F.sl nn ig]))) (fun x y s a b c d l id g most deep kg => some (.cut (at_ Try.f37 6) (S37n_6n0 x y s a b c d l id g most deep kg))) (fun x y s a b c d l id g most deep kg => some (.cut (at_ Try.f37 6) (S37n_6n1 x y s a b c d l id g most deep kg))) (fun x y s a b c d l id g most deep kg => some (.cut (at_ Try.f37 6) (S37n_6n2 x y s a b c d l id g most deep kg))) (fun x y s a b c d l id g most deep kg => some (.cut (at_ Try.f37 6) (S37n_6n3 x y s a b c d l id g most deep kg))) (fun x y s a b c d l id g most deep kg => some (.cut (at_ Try.f37 6) (S37n_6n4 x y s a b c d l id g most deep kg))) (some (.cut (at_ Try.f37 19) (S37n_19 ))) (some (.cut (at_ Try.f37 15) (S37n_15 ))) x y s a b c d l id g most deep := by kernel_rfl
  rw [e]
  exact (good_sel h (fun _ h => good_ret (by cases h; rfl)) (fun _ h => good_cut (t37n_6n0 D hE k _ _ _ _ _ _ _ _ _ _ _ _ _ rt nn ig h)))
/-! ### function 37 -/
def S37l_15a (x : Int) (y : Int) (s : Int) (ids : List Int) (l : List It) (zg : Nat → F) : St := ⟨[.bad, (U.hs 0 l.length 0 l.length), .bad, .bad, .bad, .bad, (U.hp 1 0), .bad, .bad, .bad, .bad, .bad, (U.hp 2 0), .bad, .bad, (U.f (F.int .i64 0)), .bad, .bad, .bad, .bad, .bad, .bad, .bad, .bad, .bad, .bad, .bad, .bad, .bad, .bad, .bad, .bad, .bad, .bad, .bad, .bad, .bad, .bad, .bad, .bad, .bad, .bad, .bad, .bad, .bad, .bad, .bad, .bad, .bad, .bad, .bad, .bad, .bad, .bad, .bad, .bad, .bad, .bad, .bad, .bad, .bad, .bad, .bad, .bad, .bad, .bad, .bad, .bad, .bad, .bad, .bad, .bad, .bad, .bad, .bad, .bad, .bad, .bad, .bad, .bad, .bad, .bad, .bad, .bad, .bad, .bad, .bad, .bad, .bad, .bad, .bad, .bad, .bad, .bad, .bad, .bad, .bad, .bad, .bad, .bad, .bad, .bad, .bad, .bad, .bad, .bad, .bad, .bad, .bad, .bad, .bad, .bad, .bad, .bad, .bad, .bad, .bad, .bad, .bad, .bad, .bad, .bad, .bad, .bad, .bad], [HO.arr 5 l.length (fun i => itF (l.getD i It.zero)), HO.box [(U.f (F.int .i64 x)), (U.f (F.int .i64 y)), (U.f (F.int .i64 s)), (U.f (F.cl 0 zg)), (U.f (intsF ids))], HO.box [(U.f (F.int .i64 0)), (U.f (F.int .i64 0)), (U.f (F.int .i64 0)), U.nils, U.nils]]⟩
def S37l_19an (x : Int) (y : Int) (s : Int) (ids : List Int) (l : List It) (zg : Nat → F) (j : Int) (kx : Int) (ky : Int) (kh : Int) (i : Int) : St := ⟨[.bad, (U.hs 0 l.length 0 l.length), .bad, .bad, .bad, .bad, (U.hp 1 0), .bad, .bad, .bad, .bad, .bad, (U.hp 2 0), .bad, .bad, (U.f (F.int .i64 j)), (U.hp 3 0), (U.f (F.int .i64 i)), .bad, .bad, .bad, .bad, .bad, .bad, .bad, .bad, .bad, .bad, .bad, .bad, .bad, .bad, .bad, .bad, .bad, .bad, .bad, .bad, .bad, .bad, .bad, .bad, .bad, .bad, .bad, .bad, .bad, .bad, .bad, .bad, .bad, .bad, .bad, .bad, .bad, .bad, .bad, .bad, .bad, .bad, .bad, .bad, .bad, .bad, .bad, .bad, .bad, .bad, .bad, .bad, .bad, .bad, .bad, .bad, .bad, .bad, .bad, .bad, .bad, .bad, .bad, .bad, .bad, .bad, .bad, .bad, .bad, .bad, .bad, .bad, .bad, .bad, .bad, .bad, .bad, .bad, .bad, .bad, .bad, .bad, .bad, .bad, .bad, .bad, .bad, .bad, .bad, .bad, .bad, .bad, .bad, .bad, .bad, .bad, .bad, .bad, .bad, .bad, .bad, .bad, .bad, .bad, .bad, .bad, .bad], [HO.arr 5 l.length (fun i => itF (l.getD i It.zero)), HO.box [(U.f (F.int .i64 x)), (U.f (F.int .i64 y)), (U.f (F.int .i64 s)), (U.f (F.cl 0 zg)), (U.f (intsF ids))], HO.box [(U.f (F.int .i64 0)), (U.f (F.int .i64 0)), (U.f (F.int .i64 0)), U.nils, U.nils], HO.box [(U.f (F.int .i64 kx)), (U.f (F.int .i64 ky)), (U.f (F.int .i64 kh)), U.nils, U.nils]]⟩
def S37l_19ao (x : Int) (y : Int) (s : Int) (ids : List Int) (l : List It) (zg : Nat → F) (j : Int) (kx : Int) (ky : Int) (kh : Int) (i : Int) (m : Nat) (mg : Nat → F) : St := ⟨[.bad, (U.hs 0 l.length 0 l.length), .bad, .bad, .bad, .bad, (U.hp 1 0), .bad, .bad, .bad, .bad, .bad, (U.hp 2 0), .bad, .bad, (U.f (F.int .i64 j)), (U.hp 3 0), (U.f (F.int .i64 i)), .bad, .bad, .bad, .bad, .bad, .bad, .bad, .bad, .bad, .bad, .bad, .bad, .bad, .bad, .bad, .bad, .bad, .bad, .bad, .bad, .bad, .bad, .bad, .bad, .bad, .bad, .bad, .bad, .bad, .bad, .bad, .bad, .bad, .bad, .bad, .bad, .bad, .bad, .bad, .bad, .bad, .bad, .bad, .bad, .bad, .bad, .bad, .bad, .bad, .bad, .bad, .bad, .bad, .bad, .bad, .bad, .bad, .bad, .bad, .bad, .bad, .bad, .bad, .bad, .bad, .bad, .bad, .bad, .bad, .bad, .bad, .bad, .bad, .bad, .bad, .bad, .bad, .bad, .bad, .bad, .bad, .bad, .bad, .bad, .bad, .bad, .bad, .bad, .bad, .bad, .bad, .bad, .bad, .bad, .bad, .bad, .bad, .bad, .bad, .bad, .bad, .bad, .bad, .bad, .bad, .bad, .bad], [HO.arr 5 l.length (fun i => itF (l.getD i It.zero)), HO.box [(U.f (F.int .i64 x)), (U.f (F.int .i64 y)), (U.f (F.int .i64 s)), (U.f (F.cl 0 zg)), (U.f (intsF ids))], HO.box [(U.f (F.int .i64 0)), (U.f (F.int .i64 0)), (U.f (F.int .i64 0)), U.nils, U.nils], HO.box [(U.f (F.int .i64 kx)), (U.f (F.int .i64 ky)), (U.f (F.int .i64 kh)), U.nils, (U.hs 4 m 0 m)], HO.arr 1 m mg]⟩
def S37l_15b (x : Int) (y : Int) (s : Int) (ids : List Int) (l : List It) (j : Int) (n : Nat) (kg : Nat → F) : St := ⟨[.bad, (U.hs 0 l.length 0 l.length), .bad, .bad, .bad, .bad, (U.hp 1 0), .bad, .bad, .bad, .bad, .bad, (U.hp 2 0), .bad, .bad, (U.f (F.int .i64 j)), .bad, .bad, .bad, .bad, .bad, .bad, .bad, .bad, .bad, .bad, .bad, .bad, .bad, .bad, .bad, .bad, .bad, .bad, .bad, .bad, .bad, .bad, .bad, .bad, .bad, .bad, .bad, .bad, .bad, .bad, .bad, .bad, .bad, .bad, .bad, .bad, .bad, .bad, .bad, .bad, .bad, .bad, .bad, .bad, .bad, .bad, .bad, .bad, .bad, .bad, .bad, .bad, .bad, .bad, .bad, .bad, .bad, .bad, .bad, .bad, .bad, .bad, .bad, .bad, .bad, .bad, .bad, .bad, .bad, .bad, .bad, .bad, .bad, .bad, .bad, .bad, .bad, .bad, .bad, .bad, .bad, .bad, .bad, .bad, .bad, .bad, .bad, .bad, .bad, .bad, .bad, .bad, .bad, .bad, .bad, .bad, .bad, .bad, .bad, .bad, .bad, .bad, .bad, .bad, .bad, .bad, .bad, .bad, .bad], [HO.arr 5 l.length (fun i => itF (l.getD i It.zero)), HO.box [(U.f (F.int .i64 x)), (U.f (F.int .i64 y)), (U.f (F.int .i64 s)), (U.hs 3 n 0 n), (U.f (intsF ids))], HO.box [(U.f (F.int .i64 0)), (U.f (F.int .i64 0)), (U.f (F.int .i64 0)), U.nils, U.nils], HO.arr 5 n kg]⟩
def S37l_19bn (x : Int) (y : Int) (s : Int) (ids : List Int) (l : List It) (j : Int) (n : Nat) (kg : Nat → F) (kx : Int) (ky : Int) (kh : Int) (i : Int) : St := ⟨[.bad, (U.hs 0 l.length 0 l.length), .bad, .bad, .bad, .bad, (U.hp 1 0), .bad, .bad, .bad, .bad, .bad, (U.hp 2 0), .bad, .bad, (U.f (F.int .i64 j)), (U.hp 4 0), (U.f (F.int .i64 i)), .bad, .bad, .bad, .bad, .bad, .bad, .bad, .bad, .bad, .bad, .bad, .bad, .bad, .bad, .bad, .bad, .bad, .bad, .bad, .bad, .bad, .bad, .bad, .bad, .bad, .bad, .bad, .bad, .bad, .bad, .bad, .bad, .bad, .bad, .bad, .bad, .bad, .bad, .bad, .bad, .bad, .bad, .bad, .bad, .bad, .bad, .bad, .bad, .bad, .bad, .bad, .bad, .bad, .bad, .bad, .bad, .bad, .bad, .bad, .bad, .bad, .bad, .bad, .bad, .bad, .bad, .bad, .bad, .bad, .bad, .bad, .bad, .bad, .bad, .bad, .bad, .bad, .bad, .bad, .bad, .bad, .bad, .bad, .bad, .bad, .bad, .bad, .bad, .bad, .bad, .bad, .bad, .bad, .bad, .bad, .bad, .bad, .bad, .bad, .bad, .bad, .bad, .bad, .bad, .bad, .bad, .bad], [HO.arr 5 l.length (fun i => itF (l.getD i It.zero)), HO.box [(U.f (F.int .i64 x)), (U.f (F.int .i64 y)), (U.f (F.int .i64 s)), (U.hs 3 n 0 n), (U.f (intsF ids))], HO.box [(U.f (F.int .i64 0)), (U.f (F.int .i64 0)), (U.f (F.int .i64 0)), U.nils, U.nils], HO.arr 5 n kg, HO.box [(U.f (F.int .i64 kx)), (U.f (F.int .i64 ky)), (U.f (F.int .i64 kh)), U.nils, U.nils]]⟩
def S37l_19bo (x : Int) (y : Int) (s : Int) (ids : List Int) (l : List It) (j : Int) (n : Nat) (kg : Nat → F) (kx : Int) (ky : Int) (kh : Int) (i : Int) (m : Nat) (mg : Nat → F) : St := ⟨[.bad, (U.hs 0 l.length 0 l.length), .bad, .bad, .bad, .bad, (U.hp 1 0), .bad, .bad, .bad, .bad, .bad, (U.hp 2 0), .bad, .bad, (U.f (F.int .i64 j)), (U.hp 4 0), (U.f (F.int .i64 i)), .bad, .bad, .bad, .bad, .bad, .bad, .bad, .bad, .bad, .bad, .bad, .bad, .bad, .bad, .bad, .bad, .bad, .bad, .bad, .bad, .bad, .bad, .bad, .bad, .bad, .bad, .bad, .bad, .bad, .bad, .bad, .bad, .bad, .bad, .bad, .bad, .bad, .bad, .bad, .bad, .bad, .bad, .bad, .bad, .bad, .bad, .bad, .bad, .bad, .bad, .bad, .bad, .bad, .bad, .bad, .bad, .bad, .bad, .bad, .bad, .bad, .bad, .bad, .bad, .bad, .bad, .bad, .bad, .bad, .bad, .bad, .bad, .bad, .bad, .bad, .bad, .bad, .bad, .bad, .bad, .bad, .bad, .bad, .bad, .bad, .bad, .bad, .bad, .bad, .bad, .bad, .bad, .bad, .bad, .bad, .bad, .bad, .bad, .bad, .bad, .bad, .bad, .bad, .bad, .bad, .bad, .bad], [HO.arr 5 l.length (fun i => itF (l.getD i It.zero)), HO.box [(U.f (F.int .i64 x)), (U.f (F.int .i64 y)), (U.f (F.int .i64 s)), (U.hs 3 n 0 n), (U.f (intsF ids))], HO.box [(U.f (F.int .i64 0)), (U.f (F.int .i64 0)), (U.f (F.int .i64 0)), U.nils, U.nils], HO.arr 5 n kg, HO.box [(U.f (F.int .i64 kx)), (U.f (F.int .i64 ky)), (U.f (F.int .i64 kh)), U.nils, (U.hs 5 m 0 m)], HO.arr 1 m mg]⟩
def S37l_6  : St := ⟨[.bad, .bad, .bad, .bad, .bad, .bad, .bad, .bad, .bad, .bad, .bad, .bad, .bad, .bad, .bad, .bad, .bad, .bad, .bad, .bad, .bad, .bad, .bad, .bad, .bad, .bad, .bad, .bad, .bad, .bad, .bad, .bad, .bad, .bad, .bad, .bad, .bad, .bad, .bad, .bad, .bad, .bad, .bad, .bad, .bad, .bad, .bad, .bad, .bad, .bad, .bad, .bad, .bad, .bad, .bad, .bad, .bad, .bad, .bad, .bad, .bad, .bad, .bad, .bad, .bad, .bad, .bad, .bad, .bad, .bad, .bad, .bad, .bad, .bad, .bad, .bad, .bad, .bad, .bad, .bad, .bad, .bad, .bad, .bad, .bad, .bad, .bad, .bad, .bad, .bad, .bad, .bad, .bad, .bad, .bad, .bad, .bad, .bad, .bad, .bad, .bad, .bad, .bad, .bad, .bad, .bad, .bad, .bad, .bad, .bad, .bad, .bad, .bad, .bad, .bad, .bad, .bad, .bad, .bad, .bad, .bad, .bad, .bad, .bad, .bad], []⟩
abbrev KJ62 (ρ : Type) := (Int) → (Int) → (Int) → (List Int) → (List It) → (Int) → (Nat) → (Nat → F) → (Int) → (Int) → (Int) → (Int) → (Nat) → (Nat → F) → Option ρ
abbrev KJ63 (ρ : Type) := (Int) → (Int) → (Int) → (List Int) → (List It) → (Nat → F) → (Int) → (Int) → (Int) → (Int) → (Int) → (Nat) → (Nat → F) → Option ρ
abbrev KJ64 (ρ : Type) := (Int) → (Int) → (Int) → (List Int) → (List It) → (Int) → (Nat) → (Nat → F) → (Int) → (Int) → (Int) → (Int) → Option ρ
abbrev KJ65 (ρ : Type) := (Int) → (Int) → (Int) → (List Int) → (List It) → (Nat → F) → (Int) → (Int) → (Int) → (Int) → (Int) → Option ρ
abbrev KJ66 (ρ : Type) := (Int) → (Int) → (Int) → (List Int) → (List It) → (Int) → (Nat) → (Nat → F) → Option ρ
abbrev KJ67 (ρ : Type) := (Int) → (Int) → (Int) → (List Int) → (List It) → (Nat → F) → Option ρ
def T37l_15a {ρ : Type} (D : Nat) (ret : KJ68 ρ) (c15a : KJ67 ρ) (c19an : KJ65 ρ) (c19ao : KJ63 ρ) (c15b : KJ66 ρ) (c19bn : KJ64 ρ) (c19bo : KJ62 ρ) (c6 : Option ρ) (x : Int) (y : Int) (s : Int) (ids : List Int) (l : List It) (zg : Nat → F) : Option ρ :=
 (c19an (x) (y) (s) (ids) (l) (zg) (0) (IntKind.i64.wrap (x + IntKind.i64.wrap (Int.tmod 0 2 * IntKind.i64.wrap (s.tdiv 2)))) (IntKind.i64.wrap (y + IntKind.i64.wrap (IntKind.i64.wrap (Int.tdiv 0 2) * IntKind.i64.wrap (s.tdiv 2)))) (IntKind.i64.wrap (s.tdiv 2)) (0))
def T37l_19an {ρ : Type} (D : Nat) (ret : KJ68 ρ) (c15a : KJ67 ρ) (c19an : KJ65 ρ) (c19ao : KJ63 ρ) (c15b : KJ66 ρ) (c19bn : KJ64 ρ) (c19bo : KJ62 ρ) (c6 : Option ρ) (x : Int) (y : Int) (s : Int) (ids : List Int) (l : List It) (zg : Nat → F) (j : Int) (kx : Int) (ky : Int) (kh : Int) (i : Int) : Option ρ :=
 (bsel (decide (i < (↑ids.length : Int)))
 (bsel (decide (0 ≤ i))
 (bsel (decide (i < (↑ids.length : Int)))
 (bsel (decide (l.length = l.length))
 (bsel (isItems (F.sl l.length (offF 0 fun i ↦ itF (l.getD i It.zero))) && fewItsV (unItems (F.sl l.length (offF 0 fun i ↦ itF (l.getD i It.zero)))))
 (bsel (meetsV (segAt (unItems (F.sl l.length (offF 0 fun i ↦ itF (l.getD i It.zero)))) (ids.getD i.toNat 0)).x0 (segAt (unItems (F.sl l.length (offF 0 fun i ↦ itF (l.getD i It.zero)))) (ids.getD i.toNat 0)).y0 (segAt (unItems (F.sl l.length (offF 0 fun i ↦ itF (l.getD i It.zero)))) (ids.getD i.toNat 0)).x1 (segAt (unItems (F.sl l.length (offF 0 fun i ↦ itF (l.getD i It.zero)))) (ids.getD i.toNat 0)).y1 kx ky (IntKind.i64.wrap (kx + kh)) (IntKind.i64.wrap (ky + kh)))
 (bsel (decide (0 ≤ i))
 (bsel (decide (i < (↑ids.length : Int)))
 (bsel (decide (((1 : Nat) : Int) * (((8 : Nat) : Int) + 1) ≤ (↑limit : Int)))
 (c19ao (x) (y) (s) (ids) (l) (zg) (j) (kx) (ky) (kh) (IntKind.i64.wrap (i + 1)) (1) (fun x ↦ F.int .i64 (ids.getD i.toNat 0)))
 none)
 none)
 none)
 (c19an (x) (y) (s) (ids) (l) (zg) (j) (kx) (ky) (kh) (IntKind.i64.wrap (i + 1))))
 none)
 none)
 none)
 none)
 (bsel (decide (((1 : Nat) : Int) * (((72 : Nat) : Int) + 1) ≤ (↑limit : Int)))
 (c15b (x) (y) (s) (ids) (l) (IntKind.i64.wrap (j + 1)) (1) (fun x ↦ F.agg [F.int .i64 kx, F.int .i64 ky, F.int .i64 kh, F.sl 0 fun x ↦ F.bool false, F.sl 0 fun x ↦ F.bool false]))
 none))
def T37l_19ao {ρ : Type} (D : Nat) (ret : KJ68 ρ) (c15a : KJ67 ρ) (c19an : KJ65 ρ) (c19ao : KJ63 ρ) (c15b : KJ66 ρ) (c19bn : KJ64 ρ) (c19bo : KJ62 ρ) (c6 : Option ρ) (x : Int) (y : Int) (s : Int) (ids : List Int) (l : List It) (zg : Nat → F) (j : Int) (kx : Int) (ky : Int) (kh : Int) (i : Int) (m : Nat) (mg : Nat → F) : Option ρ :=
 (bsel (decide (i < (↑ids.length : Int)))
 (bsel (decide (0 ≤ i))
 (bsel (decide (i < (↑ids.length : Int)))
 (bsel (decide (l.length = l.length))
 (bsel (isItems (F.sl l.length (offF 0 fun i ↦ itF (l.getD i It.zero))) && fewItsV (unItems (F.sl l.length (offF 0 fun i ↦ itF (l.getD i It.zero)))))
 (bsel (decide (m = m))
 (bsel (meetsV (segAt (unItems (F.sl l.length (offF 0 fun i ↦ itF (l.getD i It.zero)))) (ids.getD i.toNat 0)).x0 (segAt (unItems (F.sl l.length (offF 0 fun i ↦ itF (l.getD i It.zero)))) (ids.getD i.toNat 0)).y0 (segAt (unItems (F.sl l.length (offF 0 fun i ↦ itF (l.getD i It.zero)))) (ids.getD i.toNat 0)).x1 (segAt (unItems (F.sl l.length (offF 0 fun i ↦ itF (l.getD i It.zero)))) (ids.getD i.toNat 0)).y1 kx ky (IntKind.i64.wrap (kx + kh)) (IntKind.i64.wrap (ky + kh)))
 (bsel (decide (0 ≤ i))
 (bsel (decide (i < (↑ids.length : Int)))
 (bsel (decide (m = m))
 (bsel (decide (m = m))
 (bsel (decide ((↑(m + 1) : Int) * (((8 : Nat) : Int) + 1) ≤ (↑limit : Int)))
 (c19ao (x) (y) (s) (ids) (l) (zg) (j) (kx) (ky) (kh) (IntKind.i64.wrap (i + 1)) (m + 1) (fun j ↦ if j < m then mg j else F.int .i64 (ids.getD i.toNat 0)))
 none)
 none)
 none)
 none)
 none)
 (c19ao (x) (y) (s) (ids) (l) (zg) (j) (kx) (ky) (kh) (IntKind.i64.wrap (i + 1)) (m) (mg)))
 none)
 none)
 none)
 none)
 none)
 (bsel (decide (m = m))
 (bsel (decide (((1 : Nat) : Int) * (((72 : Nat) : Int) + 1) ≤ (↑limit : Int)))
 (c15b (x) (y) (s) (ids) (l) (IntKind.i64.wrap (j + 1)) (1) (fun x ↦ F.agg [F.int .i64 kx, F.int .i64 ky, F.int .i64 kh, F.sl 0 fun x ↦ F.bool false, F.sl m mg]))
 none)
 none))
def T37l_15b {ρ : Type} (D : Nat) (ret : KJ68 ρ) (c15a : KJ67 ρ) (c19an : KJ65 ρ) (c19ao : KJ63 ρ) (c15b : KJ66 ρ) (c19bn : KJ64 ρ) (c19bo : KJ62 ρ) (c6 : Option ρ) (x : Int) (y : Int) (s : Int) (ids : List Int) (l : List It) (j : Int) (n : Nat) (kg : Nat → F) : Option ρ :=
 (bsel (decide (j < 4))
 (c19bn (x) (y) (s) (ids) (l) (j) (n) (kg) (IntKind.i64.wrap (x + IntKind.i64.wrap (j.tmod 2 * IntKind.i64.wrap (s.tdiv 2)))) (IntKind.i64.wrap (y + IntKind.i64.wrap (IntKind.i64.wrap (j.tdiv 2) * IntKind.i64.wrap (s.tdiv 2)))) (IntKind.i64.wrap (s.tdiv 2)) (0))
 (bsel (decide (n = n))
 (ret (F.agg [F.int .i64 x, F.int .i64 y, F.int .i64 s, F.sl n kg, F.sl 0 fun x ↦ F.bool false]) (l.length) (fun i ↦ itF (l.getD i It.zero)))
 none))
def T37l_19bn {ρ : Type} (D : Nat) (ret : KJ68 ρ) (c15a : KJ67 ρ) (c19an : KJ65 ρ) (c19ao : KJ63 ρ) (c15b : KJ66 ρ) (c19bn : KJ64 ρ) (c19bo : KJ62 ρ) (c6 : Option ρ) (x : Int) (y : Int) (s : Int) (ids : List Int) (l : List It) (j : Int) (n : Nat) (kg : Nat → F) (kx : Int) (ky : Int) (kh : Int) (i : Int) : Option ρ :=
 (bsel (decide (i < (↑ids.length : Int)))
 (bsel (decide (0 ≤ i))
 (bsel (decide (i < (↑ids.length : Int)))
 (bsel (decide (l.length = l.length))
 (bsel (isItems (F.sl l.length (offF 0 fun i ↦ itF (l.getD i It.zero))) && fewItsV (unItems (F.sl l.length (offF 0 fun i ↦ itF (l.getD i It.zero)))))
 (bsel (meetsV (segAt (unItems (F.sl l.length (offF 0 fun i ↦ itF (l.getD i It.zero)))) (ids.getD i.toNat 0)).x0 (segAt (unItems (F.sl l.length (offF 0 fun i ↦ itF (l.getD i It.zero)))) (ids.getD i.toNat 0)).y0 (segAt (unItems (F.sl l.length (offF 0 fun i ↦ itF (l.getD i It.zero)))) (ids.getD i.toNat 0)).x1 (segAt (unItems (F.sl l.length (offF 0 fun i ↦ itF (l.getD i It.zero)))) (ids.getD i.toNat 0)).y1 kx ky (IntKind.i64.wrap (kx + kh)) (IntKind.i64.wrap (ky + kh)))
 (bsel (decide (0 ≤ i))
 (bsel (decide (i < (↑ids.length : Int)))
 (bsel (decide (((1 : Nat) : Int) * (((8 : Nat) : Int) + 1) ≤ (↑limit : Int)))
 (c19bo (x) (y) (s) (ids) (l) (j) (n) (kg) (kx) (ky) (kh) (IntKind.i64.wrap (i + 1)) (1) (fun x ↦ F.int .i64 (ids.getD i.toNat 0)))
 none)
 none)
 none)
 (c19bn (x) (y) (s) (ids) (l) (j) (n) (kg) (kx) (ky) (kh) (IntKind.i64.wrap (i + 1))))
 none)
 none)
 none)
 none)
 (bsel (decide (n = n))
 (bsel (decide (n = n))
 (bsel (decide ((↑(n + 1) : Int) * (((72 : Nat) : Int) + 1) ≤ (↑limit : Int)))
 (c15b (x) (y) (s) (ids) (l) (IntKind.i64.wrap (j + 1)) (n + 1) (fun j ↦ if j < n then kg j else F.agg [F.int .i64 kx, F.int .i64 ky, F.int .i64 kh, F.sl 0 fun x ↦ F.bool false, F.sl 0 fun x ↦ F.bool false]))
 none)
 none)
 none))
def T37l_19bo {ρ : Type} (D : Nat) (ret : KJ68 ρ) (c15a : KJ67 ρ) (c19an : KJ65 ρ) (c19ao : KJ63 ρ) (c15b : KJ66 ρ) (c19bn : KJ64 ρ) (c19bo : KJ62 ρ) (c6 : Option ρ) (x : Int) (y : Int) (s : Int) (ids : List Int) (l : List It) (j : Int) (n : Nat) (kg : Nat → F) (kx : Int) (ky : Int) (kh : Int) (i : Int) (m : Nat) (mg : Nat → F) : Option ρ :=
 (bsel (decide (i < (↑ids.length : Int)))
 (bsel (decide (0 ≤ i))
 (bsel (decide (i < (↑ids.length : Int)))
 (bsel (decide (l.length = l.length))
 (bsel (isItems (F.sl l.length (offF 0 fun i ↦ itF (l.getD i It.zero))) && fewItsV (unItems (F.sl l.length (offF 0 fun i ↦ itF (l.getD i It.zero)))))
 (bsel (decide (m = m))
 (bsel (meetsV (segAt (unItems (F.sl l.length (offF 0 fun i ↦ itF (l.getD i It.zero)))) (ids.getD i.toNat 0)).x0 (segAt (unItems (F.sl l.length (offF 0 fun i ↦ itF (l.getD i It.zero)))) (ids.getD i.toNat 0)).y0 (segAt (unItems (F.sl l.length (offF 0 fun i ↦ itF (l.getD i It.zero)))) (ids.getD i.toNat 0)).x1 (segAt (unItems (F.sl l.length (offF 0 fun i ↦ itF (l.getD i It.zero)))) (ids.getD i.toNat 0)).y1 kx ky (IntKind.i64.wrap (kx + kh)) (IntKind.i64.wrap (ky + kh)))
 (bsel (decide (0 ≤ i))
 (bsel (decide (i < (↑ids.length : Int)))
 (bsel (decide (m = m))
 (bsel (decide (m = m))
 (bsel (decide ((↑(m + 1) : Int) * (((8 : Nat) : Int) + 1) ≤ (↑limit : Int)))
 (c19bo (x) (y) (s) (ids) (l) (j) (n) (kg) (kx) (ky) (kh) (IntKind.i64.wrap (i + 1)) (m + 1) (fun j ↦ if j < m then mg j else F.int .i64 (ids.getD i.toNat 0)))
 none)
 none)
 none)
 none)
 none)
 (c19bo (x) (y) (s) (ids) (l) (j) (n) (kg) (kx) (ky) (kh) (IntKind.i64.wrap (i + 1)) (m) (mg)))
 none)
 none)
 none)
 none)
 none)
 (bsel (decide (m = m))
 (bsel (decide (n = n))
 (bsel (decide (n = n))
 (bsel (decide ((↑(n + 1) : Int) * (((72 : Nat) : Int) + 1) ≤ (↑limit : Int)))
 (c15b (x) (y) (s) (ids) (l) (IntKind.i64.wrap (j + 1)) (n + 1) (fun j ↦ if j < n then kg j else F.agg [F.int .i64 kx, F.int .i64 ky, F.int .i64 kh, F.sl 0 fun x ↦ F.bool false, F.sl m mg]))
 none)
 none)
 none)
 none))
def T37l_6 {ρ : Type} (D : Nat) (ret : KJ68 ρ) (c15a : KJ67 ρ) (c19an : KJ65 ρ) (c19ao : KJ63 ρ) (c15b : KJ66 ρ) (c19bn : KJ64 ρ) (c19bo : KJ62 ρ) (c6 : Option ρ)  : Option ρ :=
 none
mutual
def L37l_15a (D : Nat) : Nat → (Int) → (Int) → (Int) → (List Int) → (List It) → (Nat → F) → Option ((F) × (Nat) × (Nat → F))
  | 0, _, _, _, _, _, _ => none
  | k + 1, x, y, s, ids, l, zg => T37l_15a D (fun rt nn ig => some (rt, nn, ig)) (L37l_15a D k) (L37l_19an D k) (L37l_19ao D k) (L37l_15b D k) (L37l_19bn D k) (L37l_19bo D k) (L37l_6 D k) x y s ids l zg
  termination_by structural k => k
def L37l_19an (D : Nat) : Nat → (Int) → (Int) → (Int) → (List Int) → (List It) → (Nat → F) → (Int) → (Int) → (Int) → (Int) → (Int) → Option ((F) × (Nat) × (Nat → F))
  | 0, _, _, _, _, _, _, _, _, _, _, _ => none
  | k + 1, x, y, s, ids, l, zg, j, kx, ky, kh, i => T37l_19an D (fun rt nn ig => some (rt, nn, ig)) (L37l_15a D k) (L37l_19an D k) (L37l_19ao D k) (L37l_15b D k) (L37l_19bn D k) (L37l_19bo D k) (L37l_6 D k) x y s ids l zg j kx ky kh i
  termination_by structural k => k
def L37l_19ao (D : Nat) : Nat → (Int) → (Int) → (Int) → (List Int) → (List It) → (Nat → F) → (Int) → (Int) → (Int) → (Int) → (Int) → (Nat) → (Nat → F) → Option ((F) × (Nat) × (Nat → F))
  | 0, _, _, _, _, _, _, _, _, _, _, _, _, _ => none
  | k + 1, x, y, s, ids, l, zg, j, kx, ky, kh, i, m, mg => T37l_19ao D (fun rt nn ig => some (rt, nn, ig)) (L37l_15a D k) (L37l_19an D k) (L37l_19ao D k) (L37l_15b D k) (L37l_19bn D k) (L37l_19bo D k) (L37l_6 D k) x y s ids l zg j kx ky kh i m mg
  termination_by structural k => k
def L37l_15b (D : Nat) : Nat → (Int) → (Int) → (Int) → (List Int) → (List It) → (Int) → (Nat) → (Nat → F) → Option ((F) × (Nat) × (Nat → F))
  | 0, _, _, _, _, _, _, _, _ => none
  | k + 1, x, y, s, ids, l, j, n, kg => T37l_15b D (fun rt nn ig => some (rt, nn, ig)) (L37l_15a D k) (L37l_19an D k) (L37l_19ao D k) (L37l_15b D k) (L37l_19bn D k) (L37l_19bo D k) (L37l_6 D k) x y s ids l j n kg
  termination_by structural k => k
def L37l_19bn (D : Nat) : Nat → (Int) → (Int) → (Int) → (List Int) → (List It) → (Int) → (Nat) → (Nat → F) → (Int) → (Int) → (Int) → (Int) → Option ((F) × (Nat) × (Nat → F))
  | 0, _, _, _, _, _, _, _, _, _, _, _, _ => none
  | k + 1, x, y, s, ids, l, j, n, kg, kx, ky, kh, i => T37l_19bn D (fun rt nn ig => some (rt, nn, ig)) (L37l_15a D k) (L37l_19an D k) (L37l_19ao D k) (L37l_15b D k) (L37l_19bn D k) (L37l_19bo D k) (L37l_6 D k) x y s ids l j n kg kx ky kh i
  termination_by structural k => k
def L37l_19bo (D : Nat) : Nat → (Int) → (Int) → (Int) → (List Int) → (List It) → (Int) → (Nat) → (Nat → F) → (Int) → (Int) → (Int) → (Int) → (Nat) → (Nat → F) → Option ((F) × (Nat) × (Nat → F))
  | 0, _, _, _, _, _, _, _, _, _, _, _, _, _, _ => none
  | k + 1, x, y, s, ids, l, j, n, kg, kx, ky, kh, i, m, mg => T37l_19bo D (fun rt nn ig => some (rt, nn, ig)) (L37l_15a D k) (L37l_19an D k) (L37l_19ao D k) (L37l_15b D k) (L37l_19bn D k) (L37l_19bo D k) (L37l_6 D k) x y s ids l j n kg kx ky kh i m mg
  termination_by structural k => k
def L37l_6 (D : Nat) : Nat → Option ((F) × (Nat) × (Nat → F))
  | 0 => none
  | k + 1 => T37l_6 D (fun rt nn ig => some (rt, nn, ig)) (L37l_15a D k) (L37l_19an D k) (L37l_19ao D k) (L37l_15b D k) (L37l_19bn D k) (L37l_19bo D k) (L37l_6 D k) 
  termination_by structural k => k
end
def T37l {ρ : Type} (D : Nat) (ret : KJ68 ρ) (c15a : KJ67 ρ) (c19an : KJ65 ρ) (c19ao : KJ63 ρ) (c15b : KJ66 ρ) (c19bn : KJ64 ρ) (c19bo : KJ62 ρ) (c6 : Option ρ) (x : Int) (y : Int) (s : Int) (ids : List Int) (l : List It) (id : Int) (g : Sg) (most : Int) (deep : Int) : Option ρ :=
 (bsel (!meetsV g.x0 g.y0 g.x1 g.y1 (Tr.leaf x y s ids).x (Tr.leaf x y s ids).y (IntKind.i64.wrap ((Tr.leaf x y s ids).x + (Tr.leaf x y s ids).size)) (IntKind.i64.wrap ((Tr.leaf x y s ids).y + (Tr.leaf x y s ids).size)))
 (ret (trF (Tr.leaf x y s ids)) (l.length) (fun i ↦ itF (l.getD i It.zero)))
 (bsel (isInts (intsF (Tr.leaf x y s ids).ids) && fewIntsV (unInts (intsF (Tr.leaf x y s ids).ids)))
 (bsel (decide ((↑(withV (unInts (intsF (Tr.leaf x y s ids).ids)) id).length : Int) ≤ most) == false)
 (bsel (decide (deep < 1))
 (ret (F.agg [F.int .i64 (Tr.leaf x y s ids).x, F.int .i64 (Tr.leaf x y s ids).y, F.int .i64 (Tr.leaf x y s ids).size, F.cl 0 fun x ↦ F.bool false, intsF (withV (unInts (intsF (Tr.leaf x y s ids).ids)) id)]) (l.length) (fun i ↦ itF (l.getD i It.zero)))
 (c15a ((Tr.leaf x y s ids).x) ((Tr.leaf x y s ids).y) ((Tr.leaf x y s ids).size) (withV (unInts (intsF (Tr.leaf x y s ids).ids)) id) (l) (fun x ↦ F.bool false)))
 (ret (F.agg [F.int .i64 (Tr.leaf x y s ids).x, F.int .i64 (Tr.leaf x y s ids).y, F.int .i64 (Tr.leaf x y s ids).size, F.cl 0 fun x ↦ F.bool false, intsF (withV (unInts (intsF (Tr.leaf x y s ids).ids)) id)]) (l.length) (fun i ↦ itF (l.getD i It.zero))))
 none))
def G37l (D : Nat) (k : Nat) (x : Int) (y : Int) (s : Int) (ids : List Int) (l : List It) (id : Int) (g : Sg) (most : Int) (deep : Int) : Option ((F) × (Nat) × (Nat → F)) := T37l D (fun rt nn ig => some (rt, nn, ig)) (L37l_15a D k) (L37l_19an D k) (L37l_19ao D k) (L37l_15b D k) (L37l_19bn D k) (L37l_19bo D k) (L37l_6 D k) x y s ids l id g most deep
mutual
theorem t37l_15a (D : Nat) (hE : EnvOK Try.prog (envPt D)) : ∀ (k : Nat) (x : Int) (y : Int) (s : Int) (ids : List Int) (l : List It) (zg : Nat → F) (rt : F) (nn : Nat) (ig : Nat → F), L37l_15a D k x y s ids l zg = some (rt, nn, ig) → EndsN Try.prog 1 Try.f37.results.toList (at_ Try.f37 15) (S37l_15a x y s ids l zg) (F.tup [rt, F.sl nn ig])
  | 0, _, _, _, _, _, _, _, _, _, h => nomatch h
  | k + 1, x, y, s, ids, l, zg, rt, nn, ig, h => by
    refine Ends.of_cut tyOK hE (T := [(15, [1, 6, 12, 15], 1000), (19, [1, 6, 12, 15, 16, 17], 1000), (6, [1, 2, 4, 5, 6, 9, 12, 13, 14], 1000)]) (n := 200) ?_
    have e : runCut Try.prog (tiOf Try.prog) (envPt D) [(15, [1, 6, 12, 15], 1000), (19, [1, 6, 12, 15, 16, 17], 1000), (6, [1, 2, 4, 5, 6, 9, 12, 13, 14], 1000)] 1 Try.f37.results.toList some 200 (at_ Try.f37 15) (S37l_15a x y s ids l zg) = T37l_15a D (fun rt nn ig => some (.ret (F.tup [rt, F.sl nn ig]))) (fun x y s ids l zg => some (.cut (at_ Try.f37 15) (S37l_15a x y s ids l zg))) (fun x y s ids l zg j kx ky kh i => some (.cut (at_ Try.f37 19) (S37l_19an x y s ids l zg j kx ky kh i))) (fun x y s ids l zg j kx ky kh i m mg => some (.cut (at_ Try.f37 19) (S37l_19ao x y s ids l zg j kx ky kh i m mg))) (fun x y s ids l j n kg => some (.cut (at_ Try.f37 15) (S37l_15b x y s ids l j n kg))) (fun x y s ids l j n kg kx ky kh i => some (.cut (at_ Try.f37 19) (S37l_19bn x y s ids l j n kg kx ky kh i))) (fun x y s ids l j n kg kx ky kh i m mg => some (.cut (at_ Try.f37 19) (S37l_19bo x y s ids l j n kg kx ky kh i m mg))) (some (.cut (at_ Try.f37 6) (S37l_6 ))) x y s ids l zg := by kernel_rfl
    rw [e]
    exact good_cut (t37l_19an D hE k _ _ _ _ _ _ _ _ _ _ _ rt nn ig h)
theorem t37l_19an (D : Nat) (hE : EnvOK Try.prog (envPt D)) : ∀ (k : Nat) (x : Int) (y : Int) (s : Int) (ids : List Int) (l : List It) (zg : Nat → F) (j : Int) (kx : Int) (ky : Int) (kh : Int) (i : Int) (rt : F) (nn : Nat) (ig : Nat → F), L37l_19an D k x y s ids l zg j kx ky kh i = some (rt, nn, ig) → EndsN Try.prog 1 Try.f37.results.toList (at_ Try.f37 19) (S37l_19an x y s ids l zg j kx ky kh i) (F.tup [rt, F.sl nn ig])
  | 0, _, _, _, _, _, _, _, _, _, _, _, _, _, _, h => nomatch h
  | k + 1, x, y, s, ids, l, zg, j, kx, ky, kh, i, rt, nn, ig, h => by
    refine Ends.of_cut tyOK hE (T := [(15, [1, 6, 12, 15], 1000), (19, [1, 6, 12, 15, 16, 17], 1000), (6, [1, 2, 4, 5, 6, 9, 12, 13, 14], 1000)]) (n := 200) ?_
    have e : runCut Try.prog (tiOf Try.prog) (envPt D) [(15, [1, 6, 12, 15], 1000), (19, [1, 6, 12, 15, 16, 17], 1000), (6, [1, 2, 4, 5, 6, 9, 12, 13, 14], 1000)] 1 Try.f37.results.toList some 200 (at_ Try.f37 19) (S37l_19an x y s ids l zg j kx ky kh i) = T37l_19an D (fun rt nn ig => some (.ret (F.tup [rt, F.sl nn ig]))) (fun x y s ids l zg => some (.cut (at_ Try.f37 15) (S37l_15a x y s ids l zg))) (fun x y s ids l zg j kx ky kh i => some (.cut (at_ Try.f37 19) (S37l_19an x y s ids l zg j kx ky kh i))) (fun x y s ids l zg j kx ky kh i m mg => some (.cut (at_ Try.f37 19) (S37l_19ao x y s ids l zg j kx ky kh i m mg))) (fun x y s ids l j n kg => some (.cut (at_ Try.f37 15) (S37l_15b x y s ids l j n kg))) (fun x y s ids l j n kg kx ky kh i => some (.cut (at_ Try.f37 19) (S37l_19bn x y s ids l j n kg kx ky kh i))) (fun x y s ids l j n kg kx ky kh i m mg => some (.cut (at_ Try.f37 19) (S37l_19bo x y s ids l j n kg kx ky kh i m mg))) (some (.cut (at_ Try.f37 6) (S37l_6 ))) x y s ids l zg j kx ky kh i := by kernel_rfl
    rw [e]
    exact (good_sel h (fun _ h => (good_sel h (fun _ h => (good_sel h (fun _ h => (good_sel h (fun _ h => (good_sel h (fun _ h => (good_sel h (fun _ h => (good_sel h (fun _ h => (good_sel h (fun _ h => (good_sel h (fun _ h => good_cut (t37l_19ao D hE k _ _ _ _ _ _ _ _ _ _ _ _ _ rt nn ig h)) (fun _ h => nomatch h))) (fun _ h => nomatch h))) (fun _ h => nomatch h))) (fun _ h => good_cut (t37l_19an D hE k _ _ _ _ _ _ _ _ _ _ _ rt nn ig h)))) (fun _ h => nomatch h))) (fun _ h => nomatch h))) (fun _ h => nomatch h))) (fun _ h => nomatch h))) (fun _ h => (good_sel h (fun _ h => good_cut (t37l_15b D hE k _ _ _ _ _ _ _ _ rt nn ig h)) (fun _ h => nomatch h))))
theorem t37l_19ao (D : Nat) (hE : EnvOK Try.prog (envPt D)) : ∀ (k : Nat) (x : Int) (y : Int) (s : Int) (ids : List Int) (l : List It) (zg : Nat → F) (j : Int) (kx : Int) (ky : Int) (kh : Int) (i : Int) (m : Nat) (mg : Nat → F) (rt : F) (nn : Nat) (ig : Nat → F), L37l_19ao D k x y s ids l zg j kx ky kh i m mg = some (rt, nn, ig) → EndsN Try.prog 1 Try.f37.results.toList (at_ Try.f37 19) (S37l_19ao x y s ids l zg j kx ky kh i m mg) (F.tup [rt, F.sl nn ig])
  | 0, _, _, _, _, _, _, _, _, _, _, _, _, _, _, _, _, h => nomatch h
  | k + 1, x, y, s, ids, l, zg, j, kx, ky, kh, i, m, mg, rt, nn, ig, h => by
    refine Ends.of_cut tyOK hE (T := [(15, [1, 6, 12, 15], 1000), (19, [1, 6, 12, 15, 16, 17], 1000), (6, [1, 2, 4, 5, 6, 9, 12, 13, 14], 1000)]) (n := 200) ?_
    have e : runCut Try.prog (tiOf Try.prog) (envPt D) [(15, [1, 6, 12, 15], 1000), (19, [1, 6, 12, 15, 16, 17], 1000), (6, [1, 2, 4, 5, 6, 9, 12, 13, 14], 1000)] 1 Try.f37.results.toList some 200 (at_ Try.f37 19) (S37l_19ao x y s ids l zg j kx ky kh i m mg) = T37l_19ao D (fun rt nn ig => some (.ret (F.tup [rt, F.sl nn ig]))) (fun x y s ids l zg => some (.cut (at_ Try.f37 15) (S37l_15a x y s ids l zg))) (fun x y s ids l zg j kx ky kh i => some (.cut (at_ Try.f37 19) (S37l_19an x y s ids l zg j kx ky kh i))) (fun x y s ids l zg j kx ky kh i m mg => some (.cut (at_ Try.f37 19) (S37l_19ao x y s ids l zg j kx ky kh i m mg))) (fun x y s ids l j n kg => some (.cut (at_ Try.f37 15) (S37l_15b x y s ids l j n kg))) (fun x y s ids l j n kg kx ky kh i => some (.cut (at_ Try.f37 19) (S37l_19bn x y s ids l j n kg kx ky kh i))) (fun x y s ids l j n kg kx ky kh i m mg => some (.cut (at_ Try.f37 19) (S37l_19bo x y s ids l j n kg kx ky kh i m mg))) (some (.cut (at_ Try.f37 6) (S37l_6 ))) x y s ids l zg j kx ky kh i m mg := by kernel_rfl
    rw [e]
    exact (good_sel h (fun _ h => (good_sel h (fun _ h => (good_sel h (fun _ h => (good_sel h (fun _ h => (good_sel h (fun _ h => (good_sel h (fun _ h => (good_sel h (fun _ h => (good_sel h (fun _ h => (good_sel h (fun _ h => (good_sel h (fun _ h => (good_sel h (fun _ h => (good_sel h (fun _ h => good_cut (t37l_19ao D hE k _ _ _ _ _ _ _ _ _ _ _ _ _ rt nn ig h)) (fun _ h => nomatch h))) (fun _ h => nomatch h))) (fun _ h => nomatch h))) (fun _ h => nomatch h))) (fun _ h => nomatch h))) (fun _ h => good_cut (t37l_19ao D hE k _ _ _ _ _ _ _ _ _ _ _ _ _ rt nn ig h)))) (fun _ h => nomatch h))) (fun _ h => nomatch h))) (fun _ h => nomatch h))) (fun _ h => nomatch h))) (fun _ h => nomatch h))) (fun _ h => (good_sel h (fun _ h => (good_sel h (fun _ h => good_cut (t37l_15b D hE k _ _ _ _ _ _ _ _ rt nn ig h)) (fun _ h => nomatch h))) (fun _ h => nomatch h))))
theorem t37l_15b (D : Nat) (hE : EnvOK Try.prog (envPt D)) : ∀ (k : Nat) (x : Int) (y : Int) (s : Int) (ids : List Int) (l : List It) (j : Int) (n : Nat) (kg : Nat → F) (rt : F) (nn : Nat) (ig : Nat → F), L37l_15b D k x y s ids l j n kg = some (rt, nn, ig) → EndsN Try.prog 1 Try.f37.results.toList (at_ Try.f37 15) (S37l_15b x y s ids l j n kg) (F.tup [rt, F.sl nn ig])
  | 0, _, _, _, _, _, _, _, _, _, _, _, h => nomatch h
  | k + 1, x, y, s, ids, l, j, n, kg, rt, nn, ig, h => by
    refine Ends.of_cut tyOK hE (T := [(15, [1, 6, 12, 15], 1000), (19, [1, 6, 12, 15, 16, 17], 1000), (6, [1, 2, 4, 5, 6, 9, 12, 13, 14], 1000)]) (n := 200) ?_
    have e : runCut Try.prog (tiOf Try.prog) (envPt D) [(15, [1, 6, 12, 15], 1000), (19, [1, 6, 12, 15, 16, 17], 1000), (6, [1, 2, 4, 5, 6, 9, 12, 13, 14], 1000)] 1 Try.f37.results.toList some 200 (at_ Try.f37 15) (S37l_15b x y s ids l j n kg) = T37l_15b D (fun rt nn ig => some (.ret (F.tup [rt, F.sl nn ig]))) (fun x y s ids l zg => some (.cut (at_ Try.f37 15) (S37l_15a x y s ids l zg))) (fun x y s ids l zg j kx ky kh i => some (.cut (at_ Try.f37 19) (S37l_19an x y s ids l zg j kx ky kh i))) (fun x y s ids l zg j kx ky kh i m mg => some (.cut (at_ Try.f37 19) (S37l_19ao x y s ids l zg j kx ky kh i m mg))) (fun x y s ids l j n kg => some (.cut (at_ Try.f37 15) (S37l_15b x y s ids l j n kg))) (fun x y s ids l j n kg kx ky kh i => some (.cut (at_ Try.f37 19) (S37l_19bn x y s ids l j n kg kx ky kh i))) (fun x y s ids l j n kg kx ky kh i m mg => some (.cut (at_ Try.f37 19) (S37l_19bo x y s ids l j n kg kx ky kh i m mg))) (some (.cut (at_ Try.f37 6) (S37l_6 ))) x y s ids l j n kg := by kernel_rfl
    rw [e]
    exact (good_sel h (fun _ h => good_cut (t37l_19bn D hE k _ _ _ _ _ _ _ _ _ _ _ _ rt nn ig h)) (fun _ h => (good_sel h (fun _ h => good_ret (by cases h; rfl)) (fun _ h => nomatch h))))
theorem t37l_19bn (D : Nat) (hE : EnvOK Try.prog (envPt D)) : ∀ (k : Nat) (x : Int) (y : Int) (s : Int) (ids : List Int) (l : List It) (j : Int) (n : Nat) (kg : Nat → F) (kx : Int) (ky : Int) (kh : Int) (i : Int) (rt : F) (nn : Nat) (ig : Nat → F), L37l_19bn D k x y s ids l j n kg kx ky kh i = some (rt, nn, ig) → EndsN Try.prog 1 Try.f37.results.toList (at_ Try.f37 19) (S37l_19bn x y s ids l j n kg kx ky kh i) (F.tup [rt, F.sl nn ig])
  | 0, _, _, _, _, _, _, _, _, _, _, _, _, _, _, _, h => nomatch h
  | k + 1, x, y, s, ids, l, j, n, kg, kx, ky, kh, i, rt, nn, ig, h => by
    refine Ends.of_cut tyOK hE (T := [(15, [1, 6, 12, 15], 1000), (19, [1, 6, 12, 15, 16, 17], 1000), (6, [1, 2, 4, 5, 6, 9, 12, 13, 14], 1000)]) (n := 200) ?_
    have e : runCut Try.prog (tiOf Try.prog) (envPt D) [(15, [1, 6, 12, 15], 1000), (19, [1, 6, 12, 15, 16, 17], 1000), (6, [1, 2, 4, 5, 6, 9, 12, 13, 14], 1000)] 1 Try.f37.results.toList some 200 (at_ Try.f37 19) (S37l_19bn x y s ids l j n kg kx ky kh i) = T37l_19bn D (fun rt nn ig => some (.ret (F.tup [rt, F.sl nn ig]))) (fun x y s ids l zg => some (.cut (at_ Try.f37 15) (S37l_15a x y s ids l zg))) (fun x y s ids l zg j kx ky kh i => some (.cut (at_ Try.f37 19) (S37l_19an x y s ids l zg j kx ky kh i))) (fun x y s ids l zg j kx ky kh i m mg => some (.cut (at_ Try.f37 19) (S37l_19ao x y s ids l zg j kx ky kh i m mg))) (fun x y s ids l j n kg => some (.cut (at_ Try.f37 15) (S37l_15b x y s ids l j n kg))) (fun x y s ids l j n kg kx ky kh i => some (.cut (at_ Try.f37 19) (S37l_19bn x y s ids l j n kg kx ky kh i))) (fun x y s ids l j n kg kx ky kh i m mg => some (.cut (at_ Try.f37 19) (S37l_19bo x y s ids l j n kg kx ky kh i m mg))) (some (.cut (at_ Try.f37 6) (S37l_6 ))) x y s ids l j n kg kx ky kh i := by kernel_rfl
    rw [e]
    exact (good_sel h (fun _ h => (good_sel h (fun _ h => (good_sel h (fun _ h => (good_sel h (fun _ h => (good_sel h (fun _ h => (good_sel h (fun _ h => (good_sel h (fun _ h => (good_sel h (fun _ h => (good_sel h (fun _ h => good_cut (t37l_19bo D hE k _ _ _ _ _ _ _ _ _ _ _ _ _ _ rt nn ig h)) (fun _ h => nomatch h))) (fun _ h => nomatch h))) (fun _ h => nomatch h))) (fun _ h => good_cut (t37l_19bn D hE k _ _ _ _ _ _ _ _ _ _ _ _ rt nn ig h)))) (fun _ h => nomatch h))) (fun _ h => nomatch h))) (fun _ h => nomatch h))) (fun _ h => nomatch h))) (fun _ h => (good_sel h (fun _ h => (good_sel h (fun _ h => (good_sel h (fun _ h => good_cut (t37l_15b D hE k _ _ _ _ _ _ _ _ rt nn ig h)) (fun _ h => nomatch h))) (fun _ h => nomatch h))) (fun _ h => nomatch h))))
theorem t37l_19bo (D : Nat) (hE : EnvOK Try.prog (envPt D)) : ∀ (k : Nat) (x : Int) (y : Int) (s : Int) (ids : List Int) (l : List It) (j : Int) (n : Nat) (kg : Nat → F) (kx : Int) (ky : Int) (kh : Int) (i : Int) (m : Nat) (mg : Nat → F) (rt : F) (nn : Nat) (ig : Nat → F), L37l_19bo D k x y s ids l j n kg kx ky kh i m mg = some (rt, nn, ig) → EndsN Try.prog 1 Try.f37.results.toList (at_ Try.f37 19) (S37l_19bo x y s ids l j n kg kx ky kh i m mg) (F.tup [rt, F.sl nn ig])
  | 0, _, _, _, _, _, _, _, _, _, _, _, _, _, _, _, _, _, h => nomatch h
  | k + 1, x, y, s, ids, l, j, n, kg, kx, ky, kh, i, m, mg, rt, nn, ig, h => by
    refine Ends.of_cut tyOK hE (T := [(15, [1, 6, 12, 15], 1000), (19, [1, 6, 12, 15, 16, 17], 1000), (6, [1, 2, 4, 5, 6, 9, 12, 13, 14], 1000)]) (n := 200) ?_
    have e : runCut Try.prog (tiOf Try.prog) (envPt D) [(15, [1, 6, 12, 15], 1000), (19, [1, 6, 12, 15, 16, 17], 1000), (6, [1, 2, 4, 5, 6, 9, 12, 13, 14], 1000)] 1 Try.f37.results.toList some 200 (at_ Try.f37 19) (S37l_19bo x y s ids l j n kg kx ky kh i m mg) = T37l_19bo D (fun rt nn ig => some (.ret (F.tup [rt, F.sl nn ig]))) (fun x y s ids l zg => some (.cut (at_ Try.f37 15) (S37l_15a x y s ids l zg))) (fun x y s ids l zg j kx ky kh i => some (.cut (at_ Try.f37 19) (S37l_19an x y s ids l zg j kx ky kh i))) (fun x y s ids l zg j kx ky kh i m mg => some (.cut (at_ Try.f37 19) (S37l_19ao x y s ids l zg j kx ky kh i m mg))) (fun x y s ids l j n kg => some (.cut (at_ Try.f37 15) (S37l_15b x y s ids l j n kg))) (fun x y s ids l j n kg kx ky kh i => some (.cut (at_ Try.f37 19) (S37l_19bn x y s ids l j n kg kx ky kh i))) (fun x y s ids l j n kg kx ky kh i m mg => some (.cut (at_ Try.f37 19) (S37l_19bo x y s ids l j n kg kx ky kh i m mg))) (some (.cut (at_ Try.f37 6) (S37l_6 ))) x y s ids l j n kg kx ky kh i m mg := by kernel_rfl
    rw [e]
    exact (good_sel h (fun _ h => (good_sel h (fun _ h => (good_sel h (fun _ h => (good_sel h (fun _ h => (good_sel h (fun _ h => (good_sel h (fun _ h => (good_sel h (fun _ h => (good_sel h (fun _ h => (good_sel h (fun _ h => (good_sel h (fun _ h => (good_sel h (fun _ h => (good_sel h (fun _ h => good_cut (t37l_19bo D hE k _ _ _ _ _ _ _ _ _ _ _ _ _ _ rt nn ig h)) (fun _ h => nomatch h))) (fun _ h => nomatch h))) (fun _ h => nomatch h))) (fun _ h => nomatch h))) (fun _ h => nomatch h))) (fun _ h => good_cut (t37l_19bo D hE k _ _ _ _ _ _ _ _ _ _ _ _ _ _ rt nn ig h)))) (fun _ h => nomatch h))) (fun _ h => nomatch h))) (fun _ h => nomatch h))) (fun _ h => nomatch h))) (fun _ h => nomatch h))) (fun _ h => (good_sel h (fun _ h => (good_sel h (fun _ h => (good_sel h (fun _ h => (good_sel h (fun _ h => good_cut (t37l_15b D hE k _ _ _ _ _ _ _ _ rt nn ig h)) (fun _ h => nomatch h))) (fun _ h => nomatch h))) (fun _ h => nomatch h))) (fun _ h => nomatch h))))
theorem t37l_6 (D : Nat) (hE : EnvOK Try.prog (envPt D)) : ∀ (k : Nat)  (rt : F) (nn : Nat) (ig : Nat → F), L37l_6 D k  = some (rt, nn, ig) → EndsN Try.prog 1 Try.f37.results.toList (at_ Try.f37 6) (S37l_6 ) (F.tup [rt, F.sl nn ig])
  | 0, _, _, _, h => nomatch h
  | k + 1, rt, nn, ig, h => by
    refine Ends.of_cut tyOK hE (T := [(15, [1, 6, 12, 15], 1000), (19, [1, 6, 12, 15, 16, 17], 1000), (6, [1, 2, 4, 5, 6, 9, 12, 13, 14], 1000)]) (n := 200) ?_
    have e : runCut Try.prog (tiOf Try.prog) (envPt D) [(15, [1, 6, 12, 15], 1000), (19, [1, 6, 12, 15, 16, 17], 1000), (6, [1, 2, 4, 5, 6, 9, 12, 13, 14], 1000)] 1 Try.f37.results.toList some 200 (at_ Try.f37 6) (S37l_6 ) = T37l_6 D (fun rt nn ig => some (.ret (F.tup [rt, F.sl nn ig]))) (fun x y s ids l zg => some (.cut (at_ Try.f37 15) (S37l_15a x y s ids l zg))) (fun x y s ids l zg j kx ky kh i => some (.cut (at_ Try.f37 19) (S37l_19an x y s ids l zg j kx ky kh i))) (fun x y s ids l zg j kx ky kh i m mg => some (.cut (at_ Try.f37 19) (S37l_19ao x y s ids l zg j kx ky kh i m mg))) (fun x y s ids l j n kg => some (.cut (at_ Try.f37 15) (S37l_15b x y s ids l j n kg))) (fun x y s ids l j n kg kx ky kh i => some (.cut (at_ Try.f37 19) (S37l_19bn x y s ids l j n kg kx ky kh i))) (fun x y s ids l j n kg kx ky kh i m mg => some (.cut (at_ Try.f37 19) (S37l_19bo x y s ids l j n kg kx ky kh i m mg))) (some (.cut (at_ Try.f37 6) (S37l_6 )))  := by kernel_rfl
    rw [e]
    exact nomatch h
end
theorem t37l (D : Nat) (hE : EnvOK Try.prog (envPt D)) (k : Nat) (x : Int) (y : Int) (s : Int) (ids : List Int) (l : List It) (id : Int) (g : Sg) (most : Int) (deep : Int) (rt : F) (nn : Nat) (ig : Nat → F) (h : G37l D k x y s ids l id g most deep = some (rt, nn, ig)) : EndsN Try.prog 1 Try.f37.results.toList [.code (bodyOf Try.f37)] (startN Try.f37.ntmps [U.f (trF (Tr.leaf x y s ids)), U.hs 0 l.length 0 l.length, U.f (F.int .i64 id), U.f (sgF g), U.f (F.int .i64 most), U.f (F.int .i64 deep)] [HO.arr 5 l.length (fun i => itF (l.getD i It.zero))]) (F.tup [rt, F.sl nn ig]) := by
  refine Ends.of_run tyOK hE (T := [(15, [1, 6, 12, 15], 1000), (19, [1, 6, 12, 15, 16, 17], 1000), (6, [1, 2, 4, 5, 6, 9, 12, 13, 14], 1000)]) (n := 200) ?_
  have e : run Try.prog (tiOf Try.prog) (envPt D) [(15, [1, 6, 12, 15], 1000), (19, [1, 6, 12, 15, 16, 17], 1000), (6, [1, 2, 4, 5, 6, 9, 12, 13, 14], 1000)] 1 Try.f37.results.toList some 200 [.code (bodyOf Try.f37)] (startN Try.f37.ntmps [U.f (trF (Tr.leaf x y s ids)), U.hs 0 l.length 0 l.length, U.f (F.int .i64 id), U.f (sgF g), U.f (F.int .i64 most), U.f (F.int .i64 deep)] [HO.arr 5 l.length (fun i => itF (l.getD i It.zero))]) = T37l D (fun rt nn ig => some (.ret (F.tup [rt, F.sl nn ig]))) (fun x y s ids l zg => some (.cut (at_ Try.f37 15) (S37l_15a x y s ids l zg))) (fun x y s ids l zg j kx ky kh i => some (.cut (at_ Try.f37 19) (S37l_19an x y s ids l zg j kx ky kh i))) (fun x y s ids l zg j kx ky kh i m mg => some (.cut (at_ Try.f37 19) (S37l_19ao x y s ids l zg j kx ky kh i m mg))) (fun x y s ids l j n kg => some (.cut (at_ Try.f37 15) (S37l_15b x y s ids l j n kg))) (fun x y s ids l j n kg kx ky kh i => some (.cut (at_ Try.f37 19) (S37l_19bn x y s ids l j n kg kx ky kh i))) (fun x y s ids l j n kg kx ky kh i m mg => some (.cut (at_ Try.f37 19) (S37l_19bo x y s ids l j n kg kx ky kh i m mg))) (some (.cut (at_ Try.f37 6) (S37l_6 ))) x y s ids l id g most deep := by kernel_rfl
  rw [e]
  exact (good_sel h (fun _ h => good_ret (by cases h; rfl)) (fun _ h => (good_sel h (fun _ h => (good_sel h (fun _ h => (good_sel h (fun _ h => good_ret (by cases h; rfl)) (fun _ h => good_cut (t37l_15a D hE k _ _ _ _ _ _ rt nn ig h)))) (fun _ h => good_ret (by cases h; rfl)))) (fun _ h => nomatch h))))
def itG (l : List It) : Nat → F := fun i => itF (l.getD i It.zero)
theorem its0 (l : List It) : F.sl l.length (offF 0 fun i => itF (l.getD i It.zero)) = itemsF l := rfl
theorem its1 (l : List It) : (F.sl l.length fun i => itF (l.getD i It.zero)) = itemsF l := rfl
theorem kid_le {kx ky kh : Int} {m : Nat} {mg : Nat → F} {o : List Int} (h : Lists i64F 0 m mg o) : ElLe (F.agg [F.int .i64 kx, F.int .i64 ky, F.int .i64 kh, F.sl 0 fun x => F.bool false, F.sl m mg]) (trL (.leaf kx ky kh o)) :=
  ElLe.agg ⟨.refl _, .refl _, .refl _, FLe.sl fun j hj => absurd hj (Nat.not_lt_zero _), h.le, trivial⟩ fun _ u hu => by
    simp only [List.mem_cons, List.not_mem_nil, or_false] at hu
    rcases hu with rfl | rfl | rfl | rfl | rfl <;> rfl
section
variable (D : Nat) (x y s : Int) (ids : List Int) (l : List It) (hi : ids.length ≤ 10000) (hl : l.length ≤ 100000) (f : Nat)
include hi hl
section
variable (j : Int) (n : Nat) (kg : Nat → F) (hn : n ≤ 4) (kx ky kh : Int)
include hn
theorem put_bo : ∀ (d i m : Nat) (mg : Nat → F) (o : List Int), i + d = ids.length → Lists i64F 0 m mg o → m ≤ i → ∃ w, ElLe w (trL (.leaf kx ky kh (o ++ (ids.drop i).filter (kidMeets l kx ky kh)))) ∧
    L37l_19bo D (f + d + 1) x y s ids l j n kg kx ky kh i m mg = L37l_15b D f x y s ids l (IntKind.i64.wrap (j + 1)) (n + 1) (fun q => if q < n then kg q else w)
  | 0, i, m, mg, o, h, hg, hm => by
    have c1 : decide ((i : Int) < (ids.length : Int)) = false := decide_eq_false (by omega)
    have c2 : decide (((n + 1 : Nat) : Int) * (((72 : Nat) : Int) + 1) ≤ (limit : Int)) = true := by rw [limit_eq]; exact decide_eq_true (by omega)
    refine ⟨F.agg [F.int .i64 kx, F.int .i64 ky, F.int .i64 kh, F.sl 0 fun x => F.bool false, F.sl m mg], ?_, ?_⟩
    · rw [List.drop_eq_nil_of_le (by omega)]
      simpa using kid_le hg
    · rw [L37l_19bo]
      simp only [T37l_19bo, c1, c2, bsel_false, bsel_true, decide_true, Nat.add_zero]
  | d + 1, i, m, mg, o, h, hg, hm => by
    have hlt : i < ids.length := by omega
    have c1 : decide ((i : Int) < (ids.length : Int)) = true := decide_eq_true (by omega)
    have c2 : decide (0 ≤ (i : Int)) = true := decide_eq_true (by omega)
    have c3 : decide (((m + 1 : Nat) : Int) * (((8 : Nat) : Int) + 1) ≤ (limit : Int)) = true := by rw [limit_eq]; exact decide_eq_true (by omega)
    have c4 : fewItsV l = true := decide_eq_true hl
    have hw : IntKind.i64.wrap ((i : Int) + 1) = ((i + 1 : Nat) : Int) := by rw [wrapi (by omega) (by omega)]; omega
    have h1 : ids.getD i 0 = ids[i] := by simp [List.getD, List.getElem?_eq_getElem hlt]
    have hk : meetsV (segAt l ids[i]).x0 (segAt l ids[i]).y0 (segAt l ids[i]).x1 (segAt l ids[i]).y1 kx ky (IntKind.i64.wrap (kx + kh)) (IntKind.i64.wrap (ky + kh)) = kidMeets l kx ky kh ids[i] := rfl
    rw [List.drop_eq_getElem_cons hlt, show f + (d + 1) + 1 = (f + d + 1) + 1 by omega, L37l_19bo]
    simp only [T37l_19bo, c1, c2, c3, c4, hw, its0 l, its1 l, isItems_itemsF, unItems_itemsF, Int.toNat_natCast, h1, hk, Bool.and_self, decide_true, bsel_true, List.filter_cons]
    cases kidMeets l kx ky kh ids[i] with
    | true =>
      obtain ⟨w, e1, e2⟩ := put_bo d (i + 1) (m + 1) _ (o ++ [ids[i]]) (by omega) (hg.push ids[i]) (by omega)
      exact ⟨w, by simpa using e1, e2⟩
    | false =>
      obtain ⟨w, e1, e2⟩ := put_bo d (i + 1) m mg o (by omega) hg (by omega)
      exact ⟨w, by simpa using e1, e2⟩
theorem put_bn : ∀ (d i : Nat), i + d = ids.length → ∃ w, ElLe w (trL (.leaf kx ky kh ((ids.drop i).filter (kidMeets l kx ky kh)))) ∧
    L37l_19bn D (f + d + 1) x y s ids l j n kg kx ky kh i = L37l_15b D f x y s ids l (IntKind.i64.wrap (j + 1)) (n + 1) (fun q => if q < n then kg q else w)
  | 0, i, h => by
    have c1 : decide ((i : Int) < (ids.length : Int)) = false := decide_eq_false (by omega)
    have c2 : decide (((n + 1 : Nat) : Int) * (((72 : Nat) : Int) + 1) ≤ (limit : Int)) = true := by rw [limit_eq]; exact decide_eq_true (by omega)
    refine ⟨F.agg [F.int .i64 kx, F.int .i64 ky, F.int .i64 kh, F.sl 0 fun x => F.bool false, F.sl 0 fun x => F.bool false], ?_, ?_⟩
    · rw [List.drop_eq_nil_of_le (by omega)]
      exact kid_le (m := 0) (mg := fun x => F.bool false) Lists.nil
    · rw [L37l_19bn]
      simp only [T37l_19bn, c1, c2, bsel_false, bsel_true, decide_true, Nat.add_zero]
  | d + 1, i, h => by
    have hlt : i < ids.length := by omega
    have c1 : decide ((i : Int) < (ids.length : Int)) = true := decide_eq_true (by omega)
    have c2 : decide (0 ≤ (i : Int)) = true := decide_eq_true (by omega)
    have c3 : decide (((1 : Nat) : Int) * (((8 : Nat) : Int) + 1) ≤ (limit : Int)) = true := by rw [limit_eq]; exact decide_eq_true (by omega)
    have c4 : fewItsV l = true := decide_eq_true hl
    have hw : IntKind.i64.wrap ((i : Int) + 1) = ((i + 1 : Nat) : Int) := by rw [wrapi (by omega) (by omega)]; omega
    have h1 : ids.getD i 0 = ids[i] := by simp [List.getD, List.getElem?_eq_getElem hlt]
    have hk : meetsV (segAt l ids[i]).x0 (segAt l ids[i]).y0 (segAt l ids[i]).x1 (segAt l ids[i]).y1 kx ky (IntKind.i64.wrap (kx + kh)) (IntKind.i64.wrap (ky + kh)) = kidMeets l kx ky kh ids[i] := rfl
    rw [List.drop_eq_getElem_cons hlt, show f + (d + 1) + 1 = (f + d + 1) + 1 by omega, L37l_19bn]
    simp only [T37l_19bn, c1, c2, c3, c4, hw, its0 l, its1 l, isItems_itemsF, unItems_itemsF, Int.toNat_natCast, h1, hk, Bool.and_self, decide_true, bsel_true, List.filter_cons]
    cases kidMeets l kx ky kh ids[i] with
    | true =>
      obtain ⟨w, e1, e2⟩ := put_bo D x y s ids l hi hl f j n kg hn kx ky kh d (i + 1) 1 (fun _ => F.int .i64 ids[i]) [ids[i]] (by omega) ⟨rfl, fun q hq => by
        obtain rfl : q = 0 := by omega
        rfl⟩ (by omega)
      exact ⟨w, by simpa using e1, e2⟩
    | false => exact put_bn d (i + 1) (by omega)
end
section
variable (zg : Nat → F) (j : Int) (kx ky kh : Int)
theorem put_ao : ∀ (d i m : Nat) (mg : Nat → F) (o : List Int), i + d = ids.length → Lists i64F 0 m mg o → m ≤ i → ∃ w, ElLe w (trL (.leaf kx ky kh (o ++ (ids.drop i).filter (kidMeets l kx ky kh)))) ∧
    L37l_19ao D (f + d + 1) x y s ids l zg j kx ky kh i m mg = L37l_15b D f x y s ids l (IntKind.i64.wrap (j + 1)) 1 (fun _ => w)
  | 0, i, m, mg, o, h, hg, hm => by
    have c1 : decide ((i : Int) < (ids.length : Int)) = false := decide_eq_false (by omega)
    have c2 : decide (((1 : Nat) : Int) * (((72 : Nat) : Int) + 1) ≤ (limit : Int)) = true := by rw [limit_eq]; exact decide_eq_true (by omega)
    refine ⟨F.agg [F.int .i64 kx, F.int .i64 ky, F.int .i64 kh, F.sl 0 fun x => F.bool false, F.sl m mg], ?_, ?_⟩
    · rw [List.drop_eq_nil_of_le (by omega)]
      simpa using kid_le hg
    · rw [L37l_19ao]
      simp only [T37l_19ao, c1, c2, bsel_false, bsel_true, decide_true, Nat.add_zero]
  | d + 1, i, m, mg, o, h, hg, hm => by
    have hlt : i < ids.length := by omega
    have c1 : decide ((i : Int) < (ids.length : Int)) = true := decide_eq_true (by omega)
    have c2 : decide (0 ≤ (i : Int)) = true := decide_eq_true (by omega)
    have c3 : decide (((m + 1 : Nat) : Int) * (((8 : Nat) : Int) + 1) ≤ (limit : Int)) = true := by rw [limit_eq]; exact decide_eq_true (by omega)
    have c4 : fewItsV l = true := decide_eq_true hl
    have hw : IntKind.i64.wrap ((i : Int) + 1) = ((i + 1 : Nat) : Int) := by rw [wrapi (by omega) (by omega)]; omega
    have h1 : ids.getD i 0 = ids[i] := by simp [List.getD, List.getElem?_eq_getElem hlt]
    have hk : meetsV (segAt l ids[i]).x0 (segAt l ids[i]).y0 (segAt l ids[i]).x1 (segAt l ids[i]).y1 kx ky (IntKind.i64.wrap (kx + kh)) (IntKind.i64.wrap (ky + kh)) = kidMeets l kx ky kh ids[i] := rfl
    rw [List.drop_eq_getElem_cons hlt, show f + (d + 1) + 1 = (f + d + 1) + 1 by omega, L37l_19ao]
    simp only [T37l_19ao, c1, c2, c3, c4, hw, its0 l, its1 l, isItems_itemsF, unItems_itemsF, Int.toNat_natCast, h1, hk, Bool.and_self, decide_true, bsel_true, List.filter_cons]
    cases kidMeets l kx ky kh ids[i] with
    | true =>
      obtain ⟨w, e1, e2⟩ := put_ao d (i + 1) (m + 1) _ (o ++ [ids[i]]) (by omega) (hg.push ids[i]) (by omega)
      exact ⟨w, by simpa using e1, e2⟩
    | false =>
      obtain ⟨w, e1, e2⟩ := put_ao d (i + 1) m mg o (by omega) hg (by omega)
      exact ⟨w, by simpa using e1, e2⟩
theorem put_an : ∀ (d i : Nat), i + d = ids.length → ∃ w, ElLe w (trL (.leaf kx ky kh ((ids.drop i).filter (kidMeets l kx ky kh)))) ∧
    L37l_19an D (f + d + 1) x y s ids l zg j kx ky kh i = L37l_15b D f x y s ids l (IntKind.i64.wrap (j + 1)) 1 (fun _ => w)
  | 0, i, h => by
    have c1 : decide ((i : Int) < (ids.length : Int)) = false := decide_eq_false (by omega)
    have c2 : decide (((1 : Nat) : Int) * (((72 : Nat) : Int) + 1) ≤ (limit : Int)) = true := by rw [limit_eq]; exact decide_eq_true (by omega)
    refine ⟨F.agg [F.int .i64 kx, F.int .i64 ky, F.int .i64 kh, F.sl 0 fun x => F.bool false, F.sl 0 fun x => F.bool false], ?_, ?_⟩
    · rw [List.drop_eq_nil_of_le (by omega)]
      exact kid_le (m := 0) (mg := fun x => F.bool false) Lists.nil
    · rw [L37l_19an]
      simp only [T37l_19an, c1, c2, bsel_false, bsel_true, decide_true, Nat.add_zero]
  | d + 1, i, h => by
    have hlt : i < ids.length := by omega
    have c1 : decide ((i : Int) < (ids.length : Int)) = true := decide_eq_true (by omega)
    have c2 : decide (0 ≤ (i : Int)) = true := decide_eq_true (by omega)
    have c3 : decide (((1 : Nat) : Int) * (((8 : Nat) : Int) + 1) ≤ (limit : Int)) = true := by rw [limit_eq]; exact decide_eq_true (by omega)
    have c4 : fewItsV l = true := decide_eq_true hl
    have hw : IntKind.i64.wrap ((i : Int) + 1) = ((i + 1 : Nat) : Int) := by rw [wrapi (by omega) (by omega)]; omega
    have h1 : ids.getD i 0 = ids[i] := by simp [List.getD, List.getElem?_eq_getElem hlt]
    have hk : meetsV (segAt l ids[i]).x0 (segAt l ids[i]).y0 (segAt l ids[i]).x1 (segAt l ids[i]).y1 kx ky (IntKind.i64.wrap (kx + kh)) (IntKind.i64.wrap (ky + kh)) = kidMeets l kx ky kh ids[i] := rfl
    rw [List.drop_eq_getElem_cons hlt, show f + (d + 1) + 1 = (f + d + 1) + 1 by omega, L37l_19an]
    simp only [T37l_19an, c1, c2, c3, c4, hw, its0 l, its1 l, isItems_itemsF, unItems_itemsF, Int.toNat_natCast, h1, hk, Bool.and_self, decide_true, bsel_true, List.filter_cons]
    cases kidMeets l kx ky kh ids[i] with
    | true =>
      obtain ⟨w, e1, e2⟩ := put_ao D x y s ids l hi hl f zg j kx ky kh d (i + 1) 1 (fun _ => F.int .i64 ids[i]) [ids[i]] (by omega) ⟨rfl, fun q hq => by
        obtain rfl : q = 0 := by omega
        rfl⟩ (by omega)
      exact ⟨w, by simpa using e1, e2⟩
    | false => exact put_an d (i + 1) (by omega)
end
theorem put_kid (j : Int) (n : Nat) (kg : Nat → F) (hn : n ≤ 4) (hj : 0 ≤ j) (hj4 : j < 4) : ∃ w, ElLe w (trL (putKid l x y s ids j)) ∧
    L37l_15b D (f + ids.length + 1 + 1) x y s ids l j n kg = L37l_15b D f x y s ids l (j + 1) (n + 1) (fun q => if q < n then kg q else w) := by
  have c1 : decide (j < 4) = true := decide_eq_true hj4
  have hw : IntKind.i64.wrap (j + 1) = j + 1 := wrapi (by omega) (by omega)
  obtain ⟨w, e1, e2⟩ := put_bn D x y s ids l hi hl f j n kg hn (kidX x s j) (kidY y s j) (halfV s) ids.length 0 (by omega)
  rw [List.drop_zero] at e1
  refine ⟨w, e1, ?_⟩
  rw [hw] at e2
  rw [← e2, L37l_15b]
  simp only [T37l_15b, c1, bsel_true]
  rfl
theorem put_split (zg : Nat → F) : ∃ g4, L37l_15a D (1 + ids.length + 1 + 1 + ids.length + 1 + 1 + ids.length + 1 + 1 + ids.length + 1 + 1) x y s ids l zg = some (F.agg [F.int .i64 x, F.int .i64 y, F.int .i64 s, F.sl 4 g4, F.sl 0 fun x => F.bool false], l.length, itG l) ∧
    FLe (F.sl 4 g4) (F.sl 4 (kidL (.node x y s (putKid l x y s ids 0) (putKid l x y s ids 1) (putKid l x y s ids 2) (putKid l x y s ids 3)))) := by
  have hw : IntKind.i64.wrap ((0 : Int) + 1) = 1 := wrapi (by omega) (by omega)
  obtain ⟨w0, a0, b0⟩ := put_an D x y s ids l hi hl (1 + ids.length + 1 + 1 + ids.length + 1 + 1 + ids.length + 1 + 1) zg 0 (kidX x s 0) (kidY y s 0) (halfV s) ids.length 0 (by omega)
  rw [List.drop_zero] at a0
  obtain ⟨w1, a1, b1⟩ := put_kid D x y s ids l hi hl (1 + ids.length + 1 + 1 + ids.length + 1 + 1) 1 1 (fun _ => w0) (by omega) (by omega) (by omega)
  obtain ⟨w2, a2, b2⟩ := put_kid D x y s ids l hi hl (1 + ids.length + 1 + 1) 2 2 (fun q => if q < 1 then w0 else w1) (by omega) (by omega) (by omega)
  obtain ⟨w3, a3, b3⟩ := put_kid D x y s ids l hi hl 1 3 3 (fun q => if q < 2 then (if q < 1 then w0 else w1) else w2) (by omega) (by omega) (by omega)
  refine ⟨fun q => if q < 3 then (if q < 2 then (if q < 1 then w0 else w1) else w2) else w3, ?_, ?_⟩
  · rw [L37l_15a]
    simp only [T37l_15a]
    refine Eq.trans b0 ?_
    rw [hw]
    refine Eq.trans b1 ?_
    refine Eq.trans b2 ?_
    refine Eq.trans b3 ?_
    have c1 : decide ((3 : Int) + 1 < 4) = false := by decide
    rw [L37l_15b]
    simp only [T37l_15b, c1, bsel_false, decide_true, bsel_true]
    rfl
  · refine FLe.slEl fun q hq => ?_
    have : q = 0 ∨ q = 1 ∨ q = 2 ∨ q = 3 := by omega
    rcases this with rfl | rfl | rfl | rfl
    · exact a0
    · exact a1
    · exact a2
    · exact a3
end
theorem put_leaf (D : Nat) (x y s : Int) (ids : List Int) (l : List It) (id : Int) (g : Sg) (most deep : Int) (ho : ptOk (D + 1) (.leaf x y s ids) l = true) : ∃ k rt, G37l D k x y s ids l id g most deep = some (rt, l.length, itG l) ∧ FLe rt (trL (putV l id g most (.leaf x y s ids) deep)) := by
  simp only [ptOk, Bool.and_eq_true, decide_eq_true_eq, idsLe] at ho
  obtain ⟨⟨_, hl⟩, hi⟩ := ho
  have hlen := withV_len ids id
  have c1 : fewIntsV ids = true := decide_eq_true (by omega)
  obtain ⟨g4, e1, e2⟩ := put_split D x y s (withV ids id) l (by omega) (by omega) (fun x => F.bool false)
  refine ⟨1 + (withV ids id).length + 1 + 1 + (withV ids id).length + 1 + 1 + (withV ids id).length + 1 + 1 + (withV ids id).length + 1 + 1, ?_⟩
  unfold G37l T37l
  rw [putV]
  have hm : trMeetsV (.leaf x y s ids) g.x0 g.y0 g.x1 g.y1 = meetsV g.x0 g.y0 g.x1 g.y1 x y (IntKind.i64.wrap (x + s)) (IntKind.i64.wrap (y + s)) := rfl
  rw [hm]
  have i1 : (Tr.leaf x y s ids).ids = ids := rfl
  have i2 : (Tr.leaf x y s ids).x = x := rfl
  have i3 : (Tr.leaf x y s ids).y = y := rfl
  have i4 : (Tr.leaf x y s ids).size = s := rfl
  have one : FLe (F.agg [F.int .i64 x, F.int .i64 y, F.int .i64 s, F.cl 0 fun x => F.bool false, intsF (withV ids id)]) (trL (.leaf x y s (withV ids id))) := FLe.agg ⟨.refl _, .refl _, .refl _, FLe.unCl fun q hq => absurd hq (Nat.not_lt_zero _), .refl _, trivial⟩
  simp only [i1, i2, i3, i4, isInts_intsF, unInts_intsF, c1, Bool.and_self, bsel_true]
  cases meetsV g.x0 g.y0 g.x1 g.y1 x y (IntKind.i64.wrap (x + s)) (IntKind.i64.wrap (y + s)) with
  | false => exact ⟨_, rfl, trFL _⟩
  | true =>
    simp only [Bool.not_true, bsel_false, cond_false]
    cases decide (((withV ids id).length : Int) ≤ most) with
    | true => exact ⟨_, rfl, one⟩
    | false =>
      cases decide (deep < 1) with
      | true => exact ⟨_, rfl, one⟩
      | false =>
        refine ⟨_, e1, ?_⟩
        exact FLe.agg ⟨.refl _, .refl _, .refl _, e2, FLe.sl fun q hq => absurd hq (Nat.not_lt_zero _), trivial⟩
theorem put_node (D : Nat) (x y s : Int) (a b c d : Tr) (l : List It) (id : Int) (g : Sg) (most deep : Int) (ho : ptOk (D + 1) (.node x y s a b c d) l = true) : ∃ rt, G37n D 5 x y s a b c d l id g most deep = some (rt, l.length, itG l) ∧ FLe rt (trL (putV l id g most (.node x y s a b c d) deep)) := by
  simp only [ptOk, Bool.and_eq_true, decide_eq_true_eq, trDepth, idsLe] at ho
  obtain ⟨⟨ho, hl⟩, ⟨⟨ia, ib⟩, ic⟩, idd⟩ := ho
  have hm := Nat.max_lt.1 (Nat.lt_of_succ_lt_succ (of_decide_eq_true ho))
  have hm1 := Nat.max_lt.1 hm.1
  have hm2 := Nat.max_lt.1 hm.2
  have ok : ∀ t, trDepth t < D → idsLe 1000 t = true → ptOk D t l = true := fun t ht hi => by simp only [ptOk, Bool.and_eq_true, decide_eq_true_eq]; exact ⟨⟨ht, hl⟩, hi⟩
  have lim : ∀ n : Int, n ≤ 4 → decide (n * (((72 : Nat) : Int) + 1) ≤ (limit : Int)) = true := fun n hn => by rw [limit_eq]; exact decide_eq_true (by omega)
  have c1 := lim (0 + 1) (by omega)
  have c2 := lim (1 + 1) (by omega)
  have c3 := lim (2 + 1) (by omega)
  have c4 := lim (3 + 1) (by omega)
  unfold G37n T37n
  rw [putV]
  have hmv : trMeetsV (.node x y s a b c d) g.x0 g.y0 g.x1 g.y1 = meetsV g.x0 g.y0 g.x1 g.y1 x y (IntKind.i64.wrap (x + s)) (IntKind.i64.wrap (y + s)) := rfl
  rw [hmv]
  have i2 : (Tr.node x y s a b c d).x = x := rfl
  have i3 : (Tr.node x y s a b c d).y = y := rfl
  have i4 : (Tr.node x y s a b c d).size = s := rfl
  simp only [i2, i3, i4, L37n_6n0, T37n_6n0, L37n_6n1, T37n_6n1, L37n_6n2, T37n_6n2, L37n_6n3, T37n_6n3, L37n_6n4, T37n_6n4, isTr_trF, unTr_trF, its0 l, its1 l, isItems_itemsF, unItems_itemsF, ok a hm1.1 ia, ok b hm1.2 ib, ok c hm2.1 ic, ok d hm2.2 idd, c1, c2, c3, c4, Bool.and_self, bsel_true]
  cases meetsV g.x0 g.y0 g.x1 g.y1 x y (IntKind.i64.wrap (x + s)) (IntKind.i64.wrap (y + s)) with
  | false => exact ⟨_, rfl, trFL _⟩
  | true =>
    simp only [Bool.not_true, bsel_false, cond_false]
    refine ⟨_, rfl, FLe.agg ⟨.refl _, .refl _, .refl _, FLe.sl fun q hq => ?_, .refl _, trivial⟩⟩
    have hq : q < 4 := hq
    have : q = 0 ∨ q = 1 ∨ q = 2 ∨ q = 3 := by omega
    rcases this with rfl | rfl | rfl | rfl <;> rfl
theorem okPut : ∀ D, SpOK Try.prog 37 (.lentd 5 (prePt D) resPt)
  | 0 => fn_lentd (c := bodyOf Try.f37) Try.func37 (by kernel_rfl) (by kernel_rfl) fun x0 xs n g hp => by
    exfalso
    unfold prePt at hp
    split at hp
    · simp only [ptOk, Bool.and_eq_true, decide_eq_true_eq] at hp
      omega
    · cases hp
  | D + 1 => fn_lentd (c := bodyOf Try.f37) Try.func37 (by kernel_rfl) (by kernel_rfl) fun x0 xs n ig hp => match xs, hp with
    | [.int .i64 id, .agg [.int .i64 ga, .int .i64 gb, .int .i64 gc, .int .i64 gd], .int .i64 most, .int .i64 deep], hp => by
      simp only [prePt, Bool.and_eq_true] at hp
      obtain ⟨⟨h1, h2⟩, h3⟩ := hp
      have ht := tr_eq h1
      have hr : resPt [x0, .int .i64 id, .agg [.int .i64 ga, .int .i64 gb, .int .i64 gc, .int .i64 gd], .int .i64 most, .int .i64 deep] n ig = trL (putV (unItems (.sl n ig)) id ⟨ga, gb, gc, gd⟩ most (unTr x0) deep) := rfl
      rw [hr]
      have hat : ∀ j, j < n → ig j = itF ((unItems (.sl n ig)).getD j It.zero) := fun j hj => atItems h2 hj
      have hlen : n = (unItems (.sl n ig)).length := by rw [unItems, unSl_len]
      generalize unItems (.sl n ig) = l at h3 hat hlen ⊢
      generalize unTr x0 = t' at ht h3 ⊢
      subst ht
      subst hlen
      have hH : HLe [HO.arr 5 l.length ig] [HO.arr 5 l.length (fun i => itF (l.getD i It.zero))] := ⟨rfl, fun k ob ob' hk hk' => by
        have hk0 := (List.getElem?_eq_some_iff.1 hk).1
        obtain rfl : k = 0 := by simp at hk0; exact hk0
        simp at hk hk'
        exact .inr ⟨5, l.length, ig, _, hk.symm, hk'.symm, hat⟩⟩
      cases t' with
      | leaf x y s ids =>
        obtain ⟨k, rt, e1, e2⟩ := put_leaf D x y s ids l id ⟨ga, gb, gc, gd⟩ most deep h3
        have ht := t37l D (Env.add_ok envB1_ok (okPut D)) k x y s ids l id ⟨ga, gb, gc, gd⟩ most deep _ _ _ e1
        refine ⟨rt, itG l, Ends.weak ?_ ?_ ht, e2, fun j hj => (hat j hj).symm⟩
        · exact UsLe.refl _
        · exact hH
      | node x y s a b c d =>
        obtain ⟨rt, e1, e2⟩ := put_node D x y s a b c d l id ⟨ga, gb, gc, gd⟩ most deep h3
        have ht := t37n D (Env.add_ok envB1_ok (okPut D)) 5 x y s a b c d l id ⟨ga, gb, gc, gd⟩ most deep _ _ _ e1
        refine ⟨rt, itG l, Ends.weak ?_ ?_ ht, e2, fun j hj => (hat j hj).symm⟩
        · exact UsLe.refl _
        · exact hH
def envB4 : Env := envB3.add 37 (.lentd 5 (prePt 10) resPt)
theorem envB4_ok : EnvOK Try.prog envB4 := (Env.add_ok envB3_ok (okPut 10))
end
end Go.Proofs.Ytbnainbjcaekjaa.R
