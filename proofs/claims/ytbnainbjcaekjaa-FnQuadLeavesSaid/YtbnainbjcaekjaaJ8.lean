/-
  The own walk and what it shows, part 8 of 8.
-/
import Derived.Test.YtbnainbjcaekjaaJ1
import Derived.Test.YtbnainbjcaekjaaJ2
import Derived.Test.YtbnainbjcaekjaaJ3
import Derived.Test.YtbnainbjcaekjaaJ4
import Derived.Test.YtbnainbjcaekjaaJ5
import Derived.Test.YtbnainbjcaekjaaJ6
import Derived.Test.YtbnainbjcaekjaaJ7
set_option linter.unusedVariables false
set_option linter.unusedSimpArgs false
set_option maxRecDepth 100000
set_option exponentiation.threshold 30000
namespace Go.Proofs.Ytbnainbjcaekjaa.R
open Go
noncomputable section
/-! ### function 20 -/
def S20_7 (q : Qd) (id : Int) (g : Sg) (tr : Tr) (m : Nat) (kg : Nat → F) (dn : Bool) (i : Int) : St := ⟨[.bad, (U.f (F.int .i64 id)), .bad, (U.hp 0 0), .bad, (U.hp 1 0), (U.hp 2 0), .bad, (U.hp 3 0), .bad, (U.hs 4 m 0 m), (U.f (F.bool dn)), (U.f (F.int .i64 i)), .bad, .bad, .bad, .bad, .bad, .bad, .bad, .bad, .bad, .bad, .bad, .bad, .bad, .bad, .bad, .bad, .bad, .bad, .bad, .bad, .bad, .bad, .bad, .bad, .bad, .bad, .bad, .bad, .bad, .bad, .bad, .bad, .bad, .bad, .bad, .bad, .bad, .bad, .bad, .bad, .bad, .bad, .bad, .bad, .bad, .bad, .bad, .bad, .bad, .bad, .bad, .bad, .bad, .bad, .bad, .bad, .bad, .bad, .bad, .bad, .bad, .bad, .bad, .bad, .bad, .bad, .bad, .bad, .bad, .bad, .bad, .bad, .bad, .bad, .bad, .bad, .bad, .bad, .bad, .bad, .bad, .bad, .bad, .bad, .bad, .bad, .bad, .bad, .bad, .bad, .bad, .bad, .bad, .bad, .bad, .bad, .bad], [HO.box [(U.f (F.int .i64 q.most)), (U.f (F.int .i64 q.deep)), (U.f (itemsF q.items)), (U.f (blocksF q.blocks))], HO.box [(U.f (F.int .i64 g.x0)), (U.f (F.int .i64 g.y0)), (U.f (F.int .i64 g.x1)), (U.f (F.int .i64 g.y1))], HO.box [(U.f (F.int .i64 0)), (U.f (F.int .i64 0)), U.nils, U.nils], HO.box [(U.f (F.int .i64 tr.x)), (U.f (F.int .i64 tr.y)), (U.f (F.int .i64 tr.size)), (U.f (F.cl tr.kn (kidG tr))), (U.f (intsF tr.ids))], HO.arr 5 m kg]⟩
def T20_7 {ρ : Type} (ret : (F) → Option ρ) (c7 : (Qd) → (Int) → (Sg) → (Tr) → (Nat) → (Nat → F) → (Bool) → (Int) → Option ρ) (q : Qd) (id : Int) (g : Sg) (tr : Tr) (m : Nat) (kg : Nat → F) (dn : Bool) (i : Int) : Option ρ :=
 (bsel (decide (i < (↑q.items.length : Int)))
 (bsel (decide (0 ≤ i))
 (bsel (decide (i < (↑q.items.length : Int)))
 (bsel ((q.items.getD i.toNat It.zero).id == id)
 (ret (F.tup [F.agg [F.int .i64 0, F.int .i64 0, F.tup [], F.tup []], F.bool false]))
 (bsel ((!dn) == true)
 (bsel (decide (0 ≤ i))
 (bsel (decide (i < (↑q.items.length : Int)))
 (bsel (decide ((q.items.getD i.toNat It.zero).id > id))
 (bsel (decide (m = m))
 (bsel (decide (m = m))
 (bsel (decide ((↑(m + 1) : Int) * (((40 : Nat) : Int) + 1) ≤ (↑limit : Int)))
 (bsel (decide (0 ≤ i))
 (bsel (decide (i < (↑q.items.length : Int)))
 (bsel (decide (m + 1 = m + 1))
 (bsel (decide (m + 1 = m + 1))
 (bsel (decide ((↑(m + 1 + 1) : Int) * (((40 : Nat) : Int) + 1) ≤ (↑limit : Int)))
 (c7 (q) (id) (g) (tr) (m + 1 + 1) (fun j ↦ if j < m + 1 then if j < m then kg j else F.agg [F.int .i64 id, F.int .i64 g.x0, F.int .i64 g.y0, F.int .i64 g.x1, F.int .i64 g.y1] else itF (q.items.getD i.toNat It.zero)) (true) (IntKind.i64.wrap (i + 1)))
 none)
 none)
 none)
 none)
 none)
 none)
 none)
 none)
 (bsel (decide (0 ≤ i))
 (bsel (decide (i < (↑q.items.length : Int)))
 (bsel (decide (m = m))
 (bsel (decide (m = m))
 (bsel (decide ((↑(m + 1) : Int) * (((40 : Nat) : Int) + 1) ≤ (↑limit : Int)))
 (c7 (q) (id) (g) (tr) (m + 1) (fun j ↦ if j < m then kg j else itF (q.items.getD i.toNat It.zero)) (dn) (IntKind.i64.wrap (i + 1)))
 none)
 none)
 none)
 none)
 none))
 none)
 none)
 (bsel (decide (0 ≤ i))
 (bsel (decide (i < (↑q.items.length : Int)))
 (bsel (decide (m = m))
 (bsel (decide (m = m))
 (bsel (decide ((↑(m + 1) : Int) * (((40 : Nat) : Int) + 1) ≤ (↑limit : Int)))
 (c7 (q) (id) (g) (tr) (m + 1) (fun j ↦ if j < m then kg j else itF (q.items.getD i.toNat It.zero)) (dn) (IntKind.i64.wrap (i + 1)))
 none)
 none)
 none)
 none)
 none)))
 none)
 none)
 (bsel (!dn)
 (bsel (decide (m = m))
 (bsel (decide (m = m))
 (bsel (decide ((↑(m + 1) : Int) * (((40 : Nat) : Int) + 1) ≤ (↑limit : Int)))
 (bsel (decide (m + 1 = m + 1) && true && decide (m + 1 = m + 1))
 (bsel (isTr (trF tr) && isItems (F.sl (m + 1) fun j ↦ if j < m then kg j else F.agg [F.int .i64 id, F.int .i64 g.x0, F.int .i64 g.y0, F.int .i64 g.x1, F.int .i64 g.y1]) && ptOk 10 (unTr (trF tr)) (unItems (F.sl (m + 1) fun j ↦ if j < m then kg j else F.agg [F.int .i64 id, F.int .i64 g.x0, F.int .i64 g.y0, F.int .i64 g.x1, F.int .i64 g.y1])))
 (bsel (isTrA (resPt [trF tr, F.int .i64 id, F.agg [F.int .i64 g.x0, F.int .i64 g.y0, F.int .i64 g.x1, F.int .i64 g.y1], F.int .i64 q.most, F.int .i64 q.deep] (m + 1) fun j ↦ if j < m then kg j else F.agg [F.int .i64 id, F.int .i64 g.x0, F.int .i64 g.y0, F.int .i64 g.x1, F.int .i64 g.y1]) && wrOk 11 (unTrA (resPt [trF tr, F.int .i64 id, F.agg [F.int .i64 g.x0, F.int .i64 g.y0, F.int .i64 g.x1, F.int .i64 g.y1], F.int .i64 q.most, F.int .i64 q.deep] (m + 1) fun j ↦ if j < m then kg j else F.agg [F.int .i64 id, F.int .i64 g.x0, F.int .i64 g.y0, F.int .i64 g.x1, F.int .i64 g.y1])))
 (bsel (decide ((↑(writeV (unTrA (resPt [trF tr, F.int .i64 id, F.agg [F.int .i64 g.x0, F.int .i64 g.y0, F.int .i64 g.x1, F.int .i64 g.y1], F.int .i64 q.most, F.int .i64 q.deep] (m + 1) fun j ↦ if j < m then kg j else F.agg [F.int .i64 id, F.int .i64 g.x0, F.int .i64 g.y0, F.int .i64 g.x1, F.int .i64 g.y1]))).length : Int) > 2000))
 (ret (F.tup [F.agg [F.int .i64 0, F.int .i64 0, F.tup [], F.tup []], F.bool false]))
 (bsel (decide (m + 1 = m + 1) && true && decide (m + 1 = m + 1))
 (ret (F.tup [F.agg [F.int .i64 q.most, F.int .i64 q.deep, F.tup [F.int .i64 ((5 : Nat) : Int), F.sl (m + 1) fun j ↦ if j < m then kg j else F.agg [F.int .i64 id, F.int .i64 g.x0, F.int .i64 g.y0, F.int .i64 g.x1, F.int .i64 g.y1]], blocksF (writeV (unTrA (resPt [trF tr, F.int .i64 id, F.agg [F.int .i64 g.x0, F.int .i64 g.y0, F.int .i64 g.x1, F.int .i64 g.y1], F.int .i64 q.most, F.int .i64 q.deep] (m + 1) fun j ↦ if j < m then kg j else F.agg [F.int .i64 id, F.int .i64 g.x0, F.int .i64 g.y0, F.int .i64 g.x1, F.int .i64 g.y1])))], F.bool true]))
 none))
 none)
 none)
 none)
 none)
 none)
 none)
 (bsel (decide (m = m) && true && decide (m = m))
 (bsel (isTr (trF tr) && isItems (F.sl m kg) && ptOk 10 (unTr (trF tr)) (unItems (F.sl m kg)))
 (bsel (isTrA (resPt [trF tr, F.int .i64 id, F.agg [F.int .i64 g.x0, F.int .i64 g.y0, F.int .i64 g.x1, F.int .i64 g.y1], F.int .i64 q.most, F.int .i64 q.deep] m kg) && wrOk 11 (unTrA (resPt [trF tr, F.int .i64 id, F.agg [F.int .i64 g.x0, F.int .i64 g.y0, F.int .i64 g.x1, F.int .i64 g.y1], F.int .i64 q.most, F.int .i64 q.deep] m kg)))
 (bsel (decide ((↑(writeV (unTrA (resPt [trF tr, F.int .i64 id, F.agg [F.int .i64 g.x0, F.int .i64 g.y0, F.int .i64 g.x1, F.int .i64 g.y1], F.int .i64 q.most, F.int .i64 q.deep] m kg))).length : Int) > 2000))
 (ret (F.tup [F.agg [F.int .i64 0, F.int .i64 0, F.tup [], F.tup []], F.bool false]))
 (bsel (decide (m = m) && true && decide (m = m))
 (ret (F.tup [F.agg [F.int .i64 q.most, F.int .i64 q.deep, F.tup [F.int .i64 ((5 : Nat) : Int), F.sl m kg], blocksF (writeV (unTrA (resPt [trF tr, F.int .i64 id, F.agg [F.int .i64 g.x0, F.int .i64 g.y0, F.int .i64 g.x1, F.int .i64 g.y1], F.int .i64 q.most, F.int .i64 q.deep] m kg)))], F.bool true]))
 none))
 none)
 none)
 none)))
def L20_7 : Nat → (Qd) → (Int) → (Sg) → (Tr) → (Nat) → (Nat → F) → (Bool) → (Int) → Option (F)
  | 0, _, _, _, _, _, _, _, _ => none
  | k + 1, q, id, g, tr, m, kg, dn, i => T20_7 some (L20_7 k) q id g tr m kg dn i
def T20 {ρ : Type} (ret : (F) → Option ρ) (c7 : (Qd) → (Int) → (Sg) → (Tr) → (Nat) → (Nat → F) → (Bool) → (Int) → Option ρ) (q : Qd) (id : Int) (g : Sg) : Option ρ :=
 (bsel (isQd (qdF q) && allShortV (unQd (qdF q)).blocks)
 (bsel ((!(treeV (unQd (qdF q))).snd) == false)
 (bsel ((!inV id 1 1000) == false)
 (bsel ((!segOkV g.x0 g.y0 g.x1 g.y1) == false)
 (bsel (decide ((↑q.items.length : Int) ≥ 40))
 (ret (F.tup [F.agg [F.int .i64 0, F.int .i64 0, F.tup [], F.tup []], F.bool false]))
 (c7 (q) (id) (g) ((treeV (unQd (qdF q))).fst) (0) (lget []) (false) (0)))
 (ret (F.tup [F.agg [F.int .i64 0, F.int .i64 0, F.tup [], F.tup []], F.bool false])))
 (ret (F.tup [F.agg [F.int .i64 0, F.int .i64 0, F.tup [], F.tup []], F.bool false])))
 (ret (F.tup [F.agg [F.int .i64 0, F.int .i64 0, F.tup [], F.tup []], F.bool false])))
 none)
def G20 (k : Nat) (q : Qd) (id : Int) (g : Sg) : Option (F) := T20 some (L20_7 k) q id g
theorem t20_7 : ∀ (k : Nat) (q : Qd) (id : Int) (g : Sg) (tr : Tr) (m : Nat) (kg : Nat → F) (dn : Bool) (i : Int) (rt : F), L20_7 k q id g tr m kg dn i = some rt → Ends Try.prog (ResultVar.tmp 1000001 :: Go.Proofs.Try.f20.results.toList) (at_ Try.f20 7) (S20_7 q id g tr m kg dn i) (rt)
  | 0, _, _, _, _, _, _, _, _, _, h => nomatch h
  | k + 1, q, id, g, tr, m, kg, dn, i, rt, h => by
    refine Ends.of_cut tyOK envB5_ok (T := [(7, [1, 3, 5, 6, 8, 10, 11, 12], 1000)]) (n := 200) ?_
    have e : runCut Try.prog (tiOf Try.prog) envB5 [(7, [1, 3, 5, 6, 8, 10, 11, 12], 1000)] 0 (ResultVar.tmp 1000001 :: Go.Proofs.Try.f20.results.toList) some 200 (at_ Try.f20 7) (S20_7 q id g tr m kg dn i) = T20_7 (fun rt => some (.ret (rt))) (fun q id g tr m kg dn i => some (.cut (at_ Try.f20 7) (S20_7 q id g tr m kg dn i))) q id g tr m kg dn i := by kernel_rfl
    rw [e]
    exact (good_sel h (fun _ h => (good_sel h (fun _ h => (good_sel h (fun _ h => (good_sel h (fun _ h => good_ret (by cases h; rfl)) (fun _ h => (good_sel h (fun _ h => (good_sel h (fun _ h => (good_sel h (fun _ h => (good_sel h (fun _ h => (good_sel h (fun _ h => (good_sel h (fun _ h => (good_sel h (fun _ h => (good_sel h (fun _ h => (good_sel h (fun _ h => (good_sel h (fun _ h => (good_sel h (fun _ h => (good_sel h (fun _ h => good_cut (t20_7 k _ _ _ _ _ _ _ _ rt h)) (fun _ h => nomatch h))) (fun _ h => nomatch h))) (fun _ h => nomatch h))) (fun _ h => nomatch h))) (fun _ h => nomatch h))) (fun _ h => nomatch h))) (fun _ h => nomatch h))) (fun _ h => nomatch h))) (fun _ h => (good_sel h (fun _ h => (good_sel h (fun _ h => (good_sel h (fun _ h => (good_sel h (fun _ h => (good_sel h (fun _ h => good_cut (t20_7 k _ _ _ _ _ _ _ _ rt h)) (fun _ h => nomatch h))) (fun _ h => nomatch h))) (fun _ h => nomatch h))) (fun _ h => nomatch h))) (fun _ h => nomatch h))))) (fun _ h => nomatch h))) (fun _ h => nomatch h))) (fun _ h => (good_sel h (fun _ h => (good_sel h (fun _ h => (good_sel h (fun _ h => (good_sel h (fun _ h => (good_sel h (fun _ h => good_cut (t20_7 k _ _ _ _ _ _ _ _ rt h)) (fun _ h => nomatch h))) (fun _ h => nomatch h))) (fun _ h => nomatch h))) (fun _ h => nomatch h))) (fun _ h => nomatch h))))))) (fun _ h => nomatch h))) (fun _ h => nomatch h))) (fun _ h => (good_sel h (fun _ h => (good_sel h (fun _ h => (good_sel h (fun _ h => (good_sel h (fun _ h => (good_sel h (fun _ h => (good_sel h (fun _ h => (good_sel h (fun _ h => (good_sel h (fun _ h => good_ret (by cases h; rfl)) (fun _ h => (good_sel h (fun _ h => good_ret (by cases h; rfl)) (fun _ h => nomatch h))))) (fun _ h => nomatch h))) (fun _ h => nomatch h))) (fun _ h => nomatch h))) (fun _ h => nomatch h))) (fun _ h => nomatch h))) (fun _ h => nomatch h))) (fun _ h => (good_sel h (fun _ h => (good_sel h (fun _ h => (good_sel h (fun _ h => (good_sel h (fun _ h => good_ret (by cases h; rfl)) (fun _ h => (good_sel h (fun _ h => good_ret (by cases h; rfl)) (fun _ h => nomatch h))))) (fun _ h => nomatch h))) (fun _ h => nomatch h))) (fun _ h => nomatch h))))))
theorem t20 (k : Nat) (q : Qd) (id : Int) (g : Sg) (rt : F) (h : G20 k q id g = some rt) : Ends Try.prog (ResultVar.tmp 1000001 :: Go.Proofs.Try.f20.results.toList) [.code (bodyOf Try.f20)] (start Try.f20.ntmps ([qdF q, F.int .i64 id, sgF g].map .f)) (rt) := by
  refine Ends.of_run tyOK envB5_ok (T := [(7, [1, 3, 5, 6, 8, 10, 11, 12], 1000)]) (n := 200) ?_
  have e : run Try.prog (tiOf Try.prog) envB5 [(7, [1, 3, 5, 6, 8, 10, 11, 12], 1000)] 0 (ResultVar.tmp 1000001 :: Go.Proofs.Try.f20.results.toList) some 200 [.code (bodyOf Try.f20)] (start Try.f20.ntmps ([qdF q, F.int .i64 id, sgF g].map .f)) = T20 (fun rt => some (.ret (rt))) (fun q id g tr m kg dn i => some (.cut (at_ Try.f20 7) (S20_7 q id g tr m kg dn i))) q id g := by kernel_rfl
  rw [e]
  exact (good_sel h (fun _ h => (good_sel h (fun _ h => (good_sel h (fun _ h => (good_sel h (fun _ h => (good_sel h (fun _ h => good_ret (by cases h; rfl)) (fun _ h => good_cut (t20_7 k _ _ _ _ _ _ _ _ rt h)))) (fun _ h => good_ret (by cases h; rfl)))) (fun _ h => good_ret (by cases h; rfl)))) (fun _ h => good_ret (by cases h; rfl)))) (fun _ h => nomatch h))
/-! ### function 23 -/
def S23_6 (q : Qd) (id : Int) (tr : Tr) (m : Nat) (kg : Nat → F) (i : Int) : St := ⟨[.bad, (U.f (F.int .i64 id)), (U.hp 0 0), .bad, (U.hp 1 0), .bad, (U.hp 2 0), .bad, (U.hs 3 m 0 m), (U.f (F.int .i64 i)), .bad, .bad, .bad, .bad, .bad, .bad, .bad, .bad, .bad, .bad, .bad, .bad, .bad, .bad, .bad, .bad, .bad, .bad, .bad, .bad, .bad, .bad, .bad, .bad, .bad, .bad, .bad, .bad, .bad, .bad, .bad, .bad, .bad, .bad, .bad, .bad, .bad, .bad, .bad, .bad, .bad, .bad, .bad, .bad, .bad, .bad, .bad, .bad, .bad, .bad, .bad], [HO.box [(U.f (F.int .i64 q.most)), (U.f (F.int .i64 q.deep)), (U.f (itemsF q.items)), (U.f (blocksF q.blocks))], HO.box [(U.f (F.int .i64 0)), (U.f (F.int .i64 0)), U.nils, U.nils], HO.box [(U.f (F.int .i64 tr.x)), (U.f (F.int .i64 tr.y)), (U.f (F.int .i64 tr.size)), (U.f (F.cl tr.kn (kidG tr))), (U.f (intsF tr.ids))], HO.arr 5 m kg]⟩
def T23_6 {ρ : Type} (ret : (F) → Option ρ) (c6 : (Qd) → (Int) → (Tr) → (Nat) → (Nat → F) → (Int) → Option ρ) (q : Qd) (id : Int) (tr : Tr) (m : Nat) (kg : Nat → F) (i : Int) : Option ρ :=
 (bsel (decide (i < (↑q.items.length : Int)))
 (bsel (decide (0 ≤ i))
 (bsel (decide (i < (↑q.items.length : Int)))
 (bsel ((q.items.getD i.toNat It.zero).id != id)
 (bsel (decide (0 ≤ i))
 (bsel (decide (i < (↑q.items.length : Int)))
 (bsel (decide (m = m))
 (bsel (decide (m = m))
 (bsel (decide ((↑(m + 1) : Int) * (((40 : Nat) : Int) + 1) ≤ (↑limit : Int)))
 (c6 (q) (id) (tr) (m + 1) (fun j ↦ if j < m then kg j else itF (q.items.getD i.toNat It.zero)) (IntKind.i64.wrap (i + 1)))
 none)
 none)
 none)
 none)
 none)
 (c6 (q) (id) (tr) (m) (kg) (IntKind.i64.wrap (i + 1))))
 none)
 none)
 (bsel (decide (m = m))
 (bsel ((↑m : Int) == (↑q.items.length : Int))
 (ret (F.tup [F.agg [F.int .i64 0, F.int .i64 0, F.tup [], F.tup []], F.bool false]))
 (bsel (isTrA (trF tr) && ctOk 10 q.most (unTrA (trF tr)))
 (bsel (isTrA (resCt [trF tr, F.int .i64 id, F.int .i64 q.most]) && wrOk 11 (unTrA (resCt [trF tr, F.int .i64 id, F.int .i64 q.most])))
 (bsel (decide (m = m) && true && decide (m = m))
 (ret (F.tup [F.agg [F.int .i64 q.most, F.int .i64 q.deep, F.tup [F.int .i64 ((5 : Nat) : Int), F.sl m kg], blocksF (writeV (unTrA (resCt [trF tr, F.int .i64 id, F.int .i64 q.most])))], F.bool true]))
 none)
 none)
 none))
 none))
def L23_6 : Nat → (Qd) → (Int) → (Tr) → (Nat) → (Nat → F) → (Int) → Option (F)
  | 0, _, _, _, _, _, _ => none
  | k + 1, q, id, tr, m, kg, i => T23_6 some (L23_6 k) q id tr m kg i
def T23 {ρ : Type} (ret : (F) → Option ρ) (c6 : (Qd) → (Int) → (Tr) → (Nat) → (Nat → F) → (Int) → Option ρ) (q : Qd) (id : Int) : Option ρ :=
 (bsel (isQd (qdF q) && allShortV (unQd (qdF q)).blocks)
 (bsel (!(treeV (unQd (qdF q))).snd)
 (ret (F.tup [F.agg [F.int .i64 0, F.int .i64 0, F.tup [], F.tup []], F.bool false]))
 (c6 (q) (id) ((treeV (unQd (qdF q))).fst) (0) (lget []) (0)))
 none)
def G23 (k : Nat) (q : Qd) (id : Int) : Option (F) := T23 some (L23_6 k) q id
theorem t23_6 : ∀ (k : Nat) (q : Qd) (id : Int) (tr : Tr) (m : Nat) (kg : Nat → F) (i : Int) (rt : F), L23_6 k q id tr m kg i = some rt → Ends Try.prog (ResultVar.tmp 1000001 :: Go.Proofs.Try.f23.results.toList) (at_ Try.f23 6) (S23_6 q id tr m kg i) (rt)
  | 0, _, _, _, _, _, _, _, h => nomatch h
  | k + 1, q, id, tr, m, kg, i, rt, h => by
    refine Ends.of_cut tyOK envB5_ok (T := [(6, [1, 2, 4, 6, 8, 9], 1000)]) (n := 200) ?_
    have e : runCut Try.prog (tiOf Try.prog) envB5 [(6, [1, 2, 4, 6, 8, 9], 1000)] 0 (ResultVar.tmp 1000001 :: Go.Proofs.Try.f23.results.toList) some 200 (at_ Try.f23 6) (S23_6 q id tr m kg i) = T23_6 (fun rt => some (.ret (rt))) (fun q id tr m kg i => some (.cut (at_ Try.f23 6) (S23_6 q id tr m kg i))) q id tr m kg i := by kernel_rfl
    rw [e]
    exact (good_sel h (fun _ h => (good_sel h (fun _ h => (good_sel h (fun _ h => (good_sel h (fun _ h => (good_sel h (fun _ h => (good_sel h (fun _ h => (good_sel h (fun _ h => (good_sel h (fun _ h => (good_sel h (fun _ h => good_cut (t23_6 k _ _ _ _ _ _ rt h)) (fun _ h => nomatch h))) (fun _ h => nomatch h))) (fun _ h => nomatch h))) (fun _ h => nomatch h))) (fun _ h => nomatch h))) (fun _ h => good_cut (t23_6 k _ _ _ _ _ _ rt h)))) (fun _ h => nomatch h))) (fun _ h => nomatch h))) (fun _ h => (good_sel h (fun _ h => (good_sel h (fun _ h => good_ret (by cases h; rfl)) (fun _ h => (good_sel h (fun _ h => (good_sel h (fun _ h => (good_sel h (fun _ h => good_ret (by cases h; rfl)) (fun _ h => nomatch h))) (fun _ h => nomatch h))) (fun _ h => nomatch h))))) (fun _ h => nomatch h))))
theorem t23 (k : Nat) (q : Qd) (id : Int) (rt : F) (h : G23 k q id = some rt) : Ends Try.prog (ResultVar.tmp 1000001 :: Go.Proofs.Try.f23.results.toList) [.code (bodyOf Try.f23)] (start Try.f23.ntmps ([qdF q, F.int .i64 id].map .f)) (rt) := by
  refine Ends.of_run tyOK envB5_ok (T := [(6, [1, 2, 4, 6, 8, 9], 1000)]) (n := 200) ?_
  have e : run Try.prog (tiOf Try.prog) envB5 [(6, [1, 2, 4, 6, 8, 9], 1000)] 0 (ResultVar.tmp 1000001 :: Go.Proofs.Try.f23.results.toList) some 200 [.code (bodyOf Try.f23)] (start Try.f23.ntmps ([qdF q, F.int .i64 id].map .f)) = T23 (fun rt => some (.ret (rt))) (fun q id tr m kg i => some (.cut (at_ Try.f23 6) (S23_6 q id tr m kg i))) q id := by kernel_rfl
  rw [e]
  exact (good_sel h (fun _ h => (good_sel h (fun _ h => good_ret (by cases h; rfl)) (fun _ h => good_cut (t23_6 k _ _ _ _ _ _ rt h)))) (fun _ h => nomatch h))
theorem its_lists {m : Nat} {kg : Nat → F} {o : List It} (h : Lists itF It.zero m kg o) : isItems (.sl m kg) = true ∧ unItems (.sl m kg) = o := by
  have h1 : isItems (.sl m kg) = true := by
    simp only [isItems, isSl, List.all_eq_true, List.mem_range]
    intro j hj
    rw [h.2 j hj]
    rfl
  refine ⟨h1, List.ext_getElem (by rw [unItems, unSl_len, h.1]) fun j h2 h3 => ?_⟩
  have hj : j < m := by rw [h.1]; exact h3
  have := atItems h1 hj
  rw [h.2 j hj] at this
  simp only [List.getD, List.getElem?_eq_getElem h2, List.getElem?_eq_getElem h3, Option.getD_some] at this
  have inj : ∀ a b : It, itF a = itF b → a = b := fun a b e => by
    cases a; cases b
    simp only [itF, F.agg.injEq, List.cons.injEq, F.int.injEq, true_and, and_true] at e
    simp_all
  exact (inj _ _ this).symm
/-! One more, in its place. -/
def insS (t : It) (s : List It × Bool) (x : It) : List It × Bool := bif !s.2 && decide (x.id > t.id) then (s.1 ++ [t] ++ [x], true) else (s.1 ++ [x], s.2)
def insGo (t : It) (l : List It) (s : List It × Bool) : List It × Bool := l.foldl (insS t) s
def insEnd (t : It) (s : List It × Bool) : List It := bif s.2 then s.1 else s.1 ++ [t]
def insV (t : It) (l : List It) : List It := insEnd t (insGo t l ([], false))
theorem insS_eq (t x : It) (o : List It) (b : Bool) : insS t (o, b) x = (bif !b && decide (x.id > t.id) then (o ++ [t] ++ [x], true) else (o ++ [x], b)) := rfl
def hasId (id : Int) (l : List It) : Bool := l.any fun t => t.id == id
def goodV (q : Qd) (id : Int) (g : Sg) (tr : Tr) (l : List It) : Bool := !decide (((writeV (putV l id g q.most tr q.deep)).length : Int) > 2000)
def failQ : List F := [.agg [.int .i64 0, .int .i64 0, .tup [], .tup []], .bool false]
def ownQ (q : Qd) : List F := [.agg [.int .i64 q.most, .int .i64 q.deep, .tup [.int .i64 ((5 : Nat) : Int), .sl q.items.length (itG q.items)], blocksF q.blocks], .bool true]
def putOf (q : Qd) (id : Int) (g : Sg) (tr : Tr) (l : List It) : Qd := ⟨q.most, q.deep, l, writeV (putV l id g q.most tr q.deep)⟩
theorem ownQ_le {q : Qd} {m : Nat} {kg : Nat → F} (h : Lists itF It.zero m kg q.items) : Owns2 [.agg [.int .i64 q.most, .int .i64 q.deep, .tup [.int .i64 ((5 : Nat) : Int), .sl m kg], blocksF q.blocks], .bool true] (ownQ q) := by
  obtain ⟨rfl, h2⟩ := h
  exact ⟨.agg ⟨.dat _ rfl, .dat _ rfl, .obj _ _ _ _ _ h2, .dat _ rfl, trivial⟩, .of (.dat _ rfl), trivial⟩
def it' (id : Int) (g : Sg) : It := ⟨id, g.x0, g.y0, g.x1, g.y1⟩
theorem put_end (q : Qd) (id : Int) (g : Sg) (tr : Tr) (hd : trDepth tr ≤ 8) (hi : idsLe 40 tr = true) {m : Nat} {kg : Nat → F} {o : List It} (hg : Lists itF It.zero m kg o) (hm : o.length ≤ 1000) :
    isItems (.sl m kg) = true ∧ ptOk 10 tr (unItems (.sl m kg)) = true ∧ resPt [trF tr, .int .i64 id, .agg [.int .i64 g.x0, .int .i64 g.y0, .int .i64 g.x1, .int .i64 g.y1], .int .i64 q.most, .int .i64 q.deep] m kg = trL (putV o id g q.most tr q.deep) ∧ wrOk 11 (putV o id g q.most tr q.deep) = true := by
  obtain ⟨h1, h2⟩ := its_lists hg
  have h3 := putV_depth o id g q.most tr q.deep
  refine ⟨h1, ?_, ?_, ?_⟩
  · rw [h2]
    simp only [ptOk, Bool.and_eq_true, decide_eq_true_eq]
    exact ⟨⟨by omega, hm⟩, idsLe_mono (by omega) hi⟩
  · show trL (putV (unItems (.sl m kg)) id ⟨g.x0, g.y0, g.x1, g.y1⟩ q.most (unTr (trF tr)) q.deep) = _
    rw [h2, unTr_trF]
  · simp only [wrOk, Bool.and_eq_true, decide_eq_true_eq]
    omega
theorem put_loop (q : Qd) (id : Int) (g : Sg) (tr : Tr) (hn : q.items.length ≤ 40) (hd : trDepth tr ≤ 8) (hi : idsLe 40 tr = true) : ∀ (d i m : Nat) (kg : Nat → F) (dn : Bool) (o : List It), i + d = q.items.length → Lists itF It.zero m kg o → m ≤ 2 * i →
    ∃ es, L20_7 (d + 1) q id g tr m kg dn i = some (.tup es) ∧
      (bif hasId id (q.items.drop i) || !goodV q id g tr (insEnd (it' id g) (insGo (it' id g) (q.items.drop i) (o, dn))) then es = failQ else Owns2 es (ownQ (putOf q id g tr (insEnd (it' id g) (insGo (it' id g) (q.items.drop i) (o, dn))))))
  | 0, i, m, kg, dn, o, h, hg, hm => by
    have c1 : decide ((i : Int) < (q.items.length : Int)) = false := decide_eq_false (by omega)
    have c3 : decide (((m + 1 : Nat) : Int) * (((40 : Nat) : Int) + 1) ≤ (limit : Int)) = true := by rw [limit_eq]; exact decide_eq_true (by omega)
    rw [L20_7, List.drop_eq_nil_of_le (by omega)]
    have hno : hasId id [] = false := rfl
    have hml : m = o.length := hg.1
    cases dn with
    | true =>
      obtain ⟨k1, k2, k3, k4⟩ := put_end q id g tr hd hi hg (by omega)
      have e : insEnd (it' id g) (insGo (it' id g) [] (o, true)) = o := rfl
      simp only [T20_7, c1, bsel_false, Bool.not_true, decide_true, isTr_trF, unTr_trF, k1, k2, k3, k4, isTrA_trL, unTrA_trL, Bool.and_self, bsel_true, hno, Bool.false_or, e]
      unfold goodV
      cases decide (((writeV (putV o id g q.most tr q.deep)).length : Int) > 2000) with
      | true => exact ⟨_, rfl, rfl⟩
      | false => exact ⟨_, rfl, ownQ_le (q := putOf q id g tr o) hg⟩
    | false =>
      have hg2 := hg.push (it' id g)
      obtain ⟨k1, k2, k3, k4⟩ := put_end q id g tr hd hi hg2 (by simp; omega)
      have e : insEnd (it' id g) (insGo (it' id g) [] (o, false)) = o ++ [it' id g] := rfl
      have e2 : (fun j => if j < m then kg j else F.agg [F.int .i64 id, F.int .i64 g.x0, F.int .i64 g.y0, F.int .i64 g.x1, F.int .i64 g.y1]) = fun j => if j < m then kg j else itF (it' id g) := rfl
      simp only [T20_7, c1, c3, bsel_false, Bool.not_false, decide_true, isTr_trF, unTr_trF, e2, k1, k2, k3, k4, isTrA_trL, unTrA_trL, Bool.and_self, bsel_true, hno, Bool.false_or, e]
      unfold goodV
      cases decide (((writeV (putV (o ++ [it' id g]) id g q.most tr q.deep)).length : Int) > 2000) with
      | true => exact ⟨_, rfl, rfl⟩
      | false => exact ⟨_, rfl, ownQ_le (q := putOf q id g tr (o ++ [it' id g])) hg2⟩
  | d + 1, i, m, kg, dn, o, h, hg, hm => by
    have hlt : i < q.items.length := by omega
    have c1 : decide ((i : Int) < (q.items.length : Int)) = true := decide_eq_true (by omega)
    have c2 : decide (0 ≤ (i : Int)) = true := decide_eq_true (by omega)
    have c3 : decide (((m + 1 : Nat) : Int) * (((40 : Nat) : Int) + 1) ≤ (limit : Int)) = true := by rw [limit_eq]; exact decide_eq_true (by omega)
    have c4 : decide (((m + 1 + 1 : Nat) : Int) * (((40 : Nat) : Int) + 1) ≤ (limit : Int)) = true := by rw [limit_eq]; exact decide_eq_true (by omega)
    have hw : IntKind.i64.wrap ((i : Int) + 1) = ((i + 1 : Nat) : Int) := by rw [wrapi (by omega) (by omega)]; omega
    have h1 : q.items.getD i .zero = q.items[i] := by simp [List.getD, List.getElem?_eq_getElem hlt]
    rw [List.drop_eq_getElem_cons hlt, L20_7]
    have hgo : ∀ b, insGo (it' id g) (q.items[i] :: q.items.drop (i + 1)) (o, b) = insGo (it' id g) (q.items.drop (i + 1)) (insS (it' id g) (o, b) q.items[i]) := fun _ => rfl
    have hid : hasId id (q.items[i] :: q.items.drop (i + 1)) = (q.items[i].id == id || hasId id (q.items.drop (i + 1))) := rfl
    rw [hgo, insS_eq, hid]
    simp only [T20_7, c1, c2, c3, c4, hw, bsel_true, decide_true, Int.toNat_natCast, h1]
    have ht : (it' id g).id = id := rfl
    rw [ht]
    generalize q.items[i] = x
    cases hx : (x.id == id) with
    | true => exact ⟨_, rfl, rfl⟩
    | false =>
      cases dn with
      | true =>
        obtain ⟨es, e1, e2⟩ := put_loop q id g tr hn hd hi d (i + 1) (m + 1) _ true (o ++ [x]) (by omega) (hg.push x) (by omega)
        exact ⟨es, e1, e2⟩
      | false =>
        cases hge : decide (x.id > id) with
        | true =>
          obtain ⟨es, e1, e2⟩ := put_loop q id g tr hn hd hi d (i + 1) (m + 1 + 1) _ true (o ++ [it' id g] ++ [x]) (by omega) ((hg.push (it' id g)).push x) (by omega)
          exact ⟨es, e1, e2⟩
        | false =>
          obtain ⟨es, e1, e2⟩ := put_loop q id g tr hn hd hi d (i + 1) (m + 1) _ false (o ++ [x]) (by omega) (hg.push x) (by omega)
          exact ⟨es, e1, e2⟩
def putOkV (q : Qd) (id : Int) (g : Sg) : Bool := (treeV q).2 && (inV id 1 1000 && (segOkV g.x0 g.y0 g.x1 g.y1 && (!decide ((q.items.length : Int) ≥ 40) && !(hasId id q.items || !goodV q id g (treeV q).1 (insV (it' id g) q.items)))))
def putQ (q : Qd) (id : Int) (g : Sg) : Qd := putOf q id g (treeV q).1 (insV (it' id g) q.items)
theorem put_law (q : Qd) (id : Int) (g : Sg) (hs : allShortV q.blocks = true) : ∃ es, G20 (q.items.length + 1) q id g = some (.tup es) ∧ (bif putOkV q id g then Owns2 es (ownQ (putQ q id g)) else es = failQ) := by
  unfold G20 T20 putOkV
  simp only [isQd_qdF, unQd_qdF, hs, Bool.and_self, bsel_true]
  cases h1 : (treeV q).2 with
  | false => exact ⟨_, rfl, rfl⟩
  | true =>
    cases inV id 1 1000 with
    | false => exact ⟨_, rfl, rfl⟩
    | true =>
      cases segOkV g.x0 g.y0 g.x1 g.y1 with
      | false => exact ⟨_, rfl, rfl⟩
      | true =>
        cases decide ((q.items.length : Int) ≥ 40) with
        | true => exact ⟨_, rfl, rfl⟩
        | false =>
          obtain ⟨_, _, t3, t4, _⟩ := tree_flat h1
          obtain ⟨u1, u2, _⟩ := tree_ids h1
          obtain ⟨es, e1, e2⟩ := put_loop q id g (treeV q).1 u2 (by omega) u1 q.items.length 0 0 (lget []) false [] (by omega) Lists.nil (by omega)
          rw [List.drop_zero] at e2
          have hi : insEnd (it' id g) (insGo (it' id g) q.items ([], false)) = insV (it' id g) q.items := rfl
          rw [hi] at e2
          refine ⟨es, e1, ?_⟩
          cases hc : (hasId id q.items || !goodV q id g (treeV q).1 (insV (it' id g) q.items)) with
          | true => rw [hc] at e2; exact e2
          | false => rw [hc] at e2; exact e2
def prePutQ : List F → Bool | [q, .int .i64 _, .agg [.int .i64 _, .int .i64 _, .int .i64 _, .int .i64 _]] => isQd q && okQd (unQd q) | _ => false
def cPutQ : List F → Bool | [q, .int .i64 id, .agg [.int .i64 a, .int .i64 b, .int .i64 c, .int .i64 d]] => putOkV (unQd q) id ⟨a, b, c, d⟩ | _ => false
def qdOwn (q : Qd) : F := .tup [.agg [.int .i64 q.most, .int .i64 q.deep, .tup [.int .i64 5, .sl q.items.length fun i => itF (q.items.getD i .zero)], blocksF q.blocks], .bool true]
def r1PutQ : List F → F | [q, .int .i64 id, .agg [.int .i64 a, .int .i64 b, .int .i64 c, .int .i64 d]] => qdOwn (putQ (unQd q) id ⟨a, b, c, d⟩) | _ => .dflt
def failF : F := .tup [.agg [.int .i64 0, .int .i64 0, .tup [], .tup []], .bool false]
def r2PutQ : List F → F := fun _ => failF
theorem fail_cells : ∀ x ∈ flatF failQ, x = .tup [] ∨ (scal0 x = true ∧ cellF x = true) := by
  intro x hx
  simp only [failQ, flatF, List.cons_append, List.nil_append, List.mem_cons, List.not_mem_nil, or_false] at hx
  rcases hx with rfl | rfl | rfl | rfl | rfl
  · exact .inr ⟨rfl, rfl⟩
  · exact .inr ⟨rfl, rfl⟩
  · exact .inl rfl
  · exact .inl rfl
  · exact .inr ⟨rfl, rfl⟩
theorem okPutQ : SpOK Try.prog 20 (.ownd prePutQ cPutQ r1PutQ r2PutQ) :=
  fn_ownd (c := bodyOf Try.f20) Try.func20 (by kernel_rfl) (by kernel_rfl)
    (fun xs hp hc => match xs, hp, hc with
    | [q, .int .i64 id, .agg [.int .i64 a, .int .i64 b, .int .i64 c, .int .i64 d]], hp, hc => by
      simp only [prePutQ, Bool.and_eq_true] at hp
      obtain ⟨es, e1, e2⟩ := put_law (unQd q) id ⟨a, b, c, d⟩ hp.2
      have hc' : putOkV (unQd q) id ⟨a, b, c, d⟩ = true := hc
      rw [hc'] at e2
      exact ⟨[qdF (unQd q), _, _], es, ownQ (putQ (unQd q) id ⟨a, b, c, d⟩), ⟨(qd_eqv hp.1).1, .refl _, .refl _, trivial⟩, t20 _ _ _ _ _ e1, e2, rfl⟩)
    (fun xs hp hc => match xs, hp, hc with
    | [q, .int .i64 id, .agg [.int .i64 a, .int .i64 b, .int .i64 c, .int .i64 d]], hp, hc => by
      simp only [prePutQ, Bool.and_eq_true] at hp
      obtain ⟨es, e1, e2⟩ := put_law (unQd q) id ⟨a, b, c, d⟩ hp.2
      have hc' : putOkV (unQd q) id ⟨a, b, c, d⟩ = false := hc
      rw [hc'] at e2
      have e3 : es = failQ := e2
      subst e3
      exact ⟨[qdF (unQd q), _, _], failQ, ⟨(qd_eqv hp.1).1, .refl _, .refl _, trivial⟩, t20 _ _ _ _ _ e1, fail_cells, rfl⟩)
/-! Without one. -/
def cutIts (id : Int) (l : List It) : List It := l.filter fun t => t.id != id
theorem cutIts_cons (id : Int) (x : It) (l : List It) : cutIts id (x :: l) = bif x.id != id then x :: cutIts id l else cutIts id l := by
  unfold cutIts
  rw [List.filter_cons]
  cases (x.id != id) <;> rfl
def cutOf (q : Qd) (id : Int) (tr : Tr) (l : List It) : Qd := ⟨q.most, q.deep, l, writeV (cutV id q.most tr)⟩
theorem cut_loop (q : Qd) (id : Int) (tr : Tr) (hn : q.items.length ≤ 40) (hd : trDepth tr ≤ 8) (hi : idsLe 40 tr = true) (hmo : q.most ≤ 8) : ∀ (d i m : Nat) (kg : Nat → F) (o : List It), i + d = q.items.length → Lists itF It.zero m kg o → m ≤ i →
    ∃ es, L23_6 (d + 1) q id tr m kg i = some (.tup es) ∧
      (bif (((o ++ cutIts id (q.items.drop i)).length : Int) == (q.items.length : Int)) then es = failQ else Owns2 es (ownQ (cutOf q id tr (o ++ cutIts id (q.items.drop i)))))
  | 0, i, m, kg, o, h, hg, hm => by
    have c1 : decide ((i : Int) < (q.items.length : Int)) = false := decide_eq_false (by omega)
    have c2 : ctOk 10 q.most tr = true := by
      simp only [ctOk, Bool.and_eq_true, decide_eq_true_eq]
      exact ⟨⟨by omega, by omega⟩, idsLe_mono (by omega) hi⟩
    have h3 := cutV_depth id q.most tr
    have c3 : wrOk 11 (cutV id q.most tr) = true := by
      simp only [wrOk, Bool.and_eq_true, decide_eq_true_eq]
      omega
    have hr : resCt [trF tr, F.int .i64 id, F.int .i64 q.most] = trL (cutV id q.most (unTrA (trF tr))) := rfl
    rw [L23_6, List.drop_eq_nil_of_le (by omega)]
    have e : o ++ cutIts id [] = o := by simp [cutIts]
    have hml : m = o.length := hg.1
    rw [e, ← hml]
    simp only [T23_6, c1, bsel_false, decide_true, isTrA_trF, unTrA_trF, hr, c2, c3, isTrA_trL, unTrA_trL, Bool.and_self, bsel_true]
    cases ((m : Int) == (q.items.length : Int)) with
    | true => exact ⟨_, rfl, rfl⟩
    | false => exact ⟨_, rfl, ownQ_le (q := cutOf q id tr o) hg⟩
  | d + 1, i, m, kg, o, h, hg, hm => by
    have hlt : i < q.items.length := by omega
    have c1 : decide ((i : Int) < (q.items.length : Int)) = true := decide_eq_true (by omega)
    have c2 : decide (0 ≤ (i : Int)) = true := decide_eq_true (by omega)
    have c3 : decide (((m + 1 : Nat) : Int) * (((40 : Nat) : Int) + 1) ≤ (limit : Int)) = true := by rw [limit_eq]; exact decide_eq_true (by omega)
    have hw : IntKind.i64.wrap ((i : Int) + 1) = ((i + 1 : Nat) : Int) := by rw [wrapi (by omega) (by omega)]; omega
    have h1 : q.items.getD i .zero = q.items[i] := by simp [List.getD, List.getElem?_eq_getElem hlt]
    rw [List.drop_eq_getElem_cons hlt, L23_6]
    simp only [T23_6, c1, c2, c3, hw, bsel_true, decide_true, Int.toNat_natCast, h1]
    cases hx : (q.items[i].id != id) with
    | true =>
      obtain ⟨es, e1, e2⟩ := cut_loop q id tr hn hd hi hmo d (i + 1) (m + 1) _ (o ++ [q.items[i]]) (by omega) (hg.push q.items[i]) (by omega)
      have e : o ++ cutIts id (q.items[i] :: q.items.drop (i + 1)) = o ++ [q.items[i]] ++ cutIts id (q.items.drop (i + 1)) := by rw [cutIts_cons, hx, cond_true, List.append_assoc]; rfl
      rw [e]
      exact ⟨es, e1, e2⟩
    | false =>
      obtain ⟨es, e1, e2⟩ := cut_loop q id tr hn hd hi hmo d (i + 1) m kg o (by omega) hg (by omega)
      have e : o ++ cutIts id (q.items[i] :: q.items.drop (i + 1)) = o ++ cutIts id (q.items.drop (i + 1)) := by rw [cutIts_cons, hx, cond_false]
      rw [e]
      exact ⟨es, e1, e2⟩
def cutOkV (q : Qd) (id : Int) : Bool := (treeV q).2 && !(((cutIts id q.items).length : Int) == (q.items.length : Int))
def cutQ (q : Qd) (id : Int) : Qd := cutOf q id (treeV q).1 (cutIts id q.items)
theorem cut_law (q : Qd) (id : Int) (hs : allShortV q.blocks = true) : ∃ es, G23 (q.items.length + 1) q id = some (.tup es) ∧ (bif cutOkV q id then Owns2 es (ownQ (cutQ q id)) else es = failQ) := by
  unfold G23 T23 cutOkV
  simp only [isQd_qdF, unQd_qdF, hs, Bool.and_self, bsel_true]
  cases h1 : (treeV q).2 with
  | false => exact ⟨_, rfl, rfl⟩
  | true =>
    obtain ⟨_, _, t3, t4, _⟩ := tree_flat h1
    obtain ⟨u1, u2, u3⟩ := tree_ids h1
    obtain ⟨es, e1, e2⟩ := cut_loop q id (treeV q).1 u2 (by omega) u1 u3 q.items.length 0 0 (lget []) [] (by omega) Lists.nil (by omega)
    rw [List.drop_zero, List.nil_append] at e2
    refine ⟨es, e1, ?_⟩
    cases hc : (((cutIts id q.items).length : Int) == (q.items.length : Int)) with
    | true => rw [hc] at e2; exact e2
    | false => rw [hc] at e2; exact e2
def preCutQ : List F → Bool | [q, .int .i64 _] => isQd q && okQd (unQd q) | _ => false
def cCutQ : List F → Bool | [q, .int .i64 id] => cutOkV (unQd q) id | _ => false
def r1CutQ : List F → F | [q, .int .i64 id] => qdOwn (cutQ (unQd q) id) | _ => .dflt
theorem okCutQ : SpOK Try.prog 23 (.ownd preCutQ cCutQ r1CutQ r2PutQ) :=
  fn_ownd (c := bodyOf Try.f23) Try.func23 (by kernel_rfl) (by kernel_rfl)
    (fun xs hp hc => match xs, hp, hc with
    | [q, .int .i64 id], hp, hc => by
      simp only [preCutQ, Bool.and_eq_true] at hp
      obtain ⟨es, e1, e2⟩ := cut_law (unQd q) id hp.2
      have hc' : cutOkV (unQd q) id = true := hc
      rw [hc'] at e2
      exact ⟨[qdF (unQd q), _], es, ownQ (cutQ (unQd q) id), ⟨(qd_eqv hp.1).1, .refl _, trivial⟩, t23 _ _ _ _ e1, e2, rfl⟩)
    (fun xs hp hc => match xs, hp, hc with
    | [q, .int .i64 id], hp, hc => by
      simp only [preCutQ, Bool.and_eq_true] at hp
      obtain ⟨es, e1, e2⟩ := cut_law (unQd q) id hp.2
      have hc' : cutOkV (unQd q) id = false := hc
      rw [hc'] at e2
      have e3 : es = failQ := e2
      subst e3
      exact ⟨[qdF (unQd q), _], failQ, ⟨(qd_eqv hp.1).1, .refl _, trivial⟩, t23 _ _ _ _ e1, fail_cells, rfl⟩)
def envB6 : Env := (envB5.add 20 (.ownd prePutQ cPutQ r1PutQ r2PutQ)).add 23 (.ownd preCutQ cCutQ r1CutQ r2PutQ)
theorem envB6_ok : EnvOK Try.prog envB6 := (Env.add_ok (Env.add_ok envB5_ok okPutQ) okCutQ)
end
end Go.Proofs.Ytbnainbjcaekjaa.R
namespace Go.Proofs.Ytbnainbjcaekjaa.R
open Go
noncomputable section
theorem insS_len (t : It) (s : List It × Bool) (x : It) : (insEnd t (insS t s x)).length ≤ (insEnd t s).length + 1 := by
  obtain ⟨o, b⟩ := s
  unfold insEnd insS
  cases b <;> cases decide (x.id > t.id) <;> simp
theorem insGo_len (t : It) : ∀ (l : List It) (s : List It × Bool), (insEnd t (insGo t l s)).length ≤ (insEnd t s).length + l.length
  | [], s => Nat.le_refl _
  | x :: l, s => by
    have h1 := insGo_len t l (insS t s x)
    have h2 := insS_len t s x
    have h3 : insGo t (x :: l) s = insGo t l (insS t s x) := rfl
    rw [h3, List.length_cons]
    omega
theorem insV_len (t : It) (l : List It) : (insV t l).length ≤ l.length + 1 := by
  have := insGo_len t l ([], false)
  have h : (insEnd t ([], false)).length = 1 := rfl
  unfold insV
  omega
theorem short_of {l : List Bk} {m : Nat} (hl : l.length ≤ 1048576) (hi : ∀ b ∈ l, b.ids.length ≤ m) (hm : m ≤ 1048576) : allShortV l = true :=
  allShort_iff.2 ⟨hl, fun b hb => decide_eq_true (Nat.le_trans (hi b hb) hm)⟩
theorem put_short {q : Qd} {id : Int} {g : Sg} (h : putOkV q id g = true) : allShortV (putQ q id g).blocks = true ∧ (putQ q id g).items.length ≤ 1000 := by
  simp only [putOkV, goodV, Bool.and_eq_true, Bool.not_eq_true', Bool.or_eq_false_iff, decide_eq_false_iff_not, Bool.not_eq_false', decide_eq_true_eq] at h
  obtain ⟨h1, _, _, _, _, h5⟩ := h
  obtain ⟨u1, u2, _⟩ := tree_ids h1
  refine ⟨short_of (m := 41) ?_ (writeV_ids _ (putV_ids _ _ _ _ _ _ u1)) (by omega), ?_⟩
  · show (writeV (putV (insV (it' id g) q.items) id g q.most (treeV q).1 q.deep)).length ≤ 1048576
    omega
  · have := insV_len (it' id g) q.items
    show (insV (it' id g) q.items).length ≤ 1000
    omega
theorem cut_short {q : Qd} {id : Int} (h : cutOkV q id = true) : allShortV (cutQ q id).blocks = true ∧ (cutQ q id).items.length ≤ 1000 := by
  simp only [cutOkV, Bool.and_eq_true] at h
  obtain ⟨u1, u2, u3⟩ := tree_ids h.1
  obtain ⟨_, _, t3, t4, _⟩ := tree_flat h.1
  have hd := cutV_depth id q.most (treeV q).1
  have hl := writeV_len (cutV id q.most (treeV q).1)
  have h2 : 4 ^ (trDepth (cutV id q.most (treeV q).1) + 1) ≤ 4 ^ 9 := Nat.pow_le_pow_right (by omega) (by omega)
  have h3 : 4 ^ 9 = 262144 := by decide
  refine ⟨short_of (m := 40) ?_ (writeV_ids _ (cutV_ids _ _ (by omega) _ u1)) (by omega), ?_⟩
  · show (writeV (cutV id q.most (treeV q).1)).length ≤ 1048576
    omega
  · show (cutIts id q.items).length ≤ 1000
    have := List.length_filter_le (fun t : It => t.id != id) q.items
    unfold cutIts
    omega
theorem short_take {l : List Bk} (h : allShortV l = true) (k : Nat) : allShortV (l.take k) = true := by
  obtain ⟨h1, h2⟩ := allShort_iff.1 h
  exact allShort_iff.2 ⟨by rw [List.length_take]; omega, fun b hb => h2 b (List.mem_of_mem_take hb)⟩
def QRes (s : ByteArray) (x : Option (F × Int)) : Prop := ∃ rt q p', x = some (rt, p') ∧ FLe rt (qdF q) ∧ rdOk s p' = true ∧ okQd q = true
theorem Lists.self {α : Type} {enc : α → F} {d : α} (l : List α) : Lists enc d l.length (fun j => enc (l.getD j d)) l := ⟨rfl, fun _ _ => rfl⟩
theorem q_leaf {s : ByteArray} {mo de p : Int} {n1 n2 : Nat} {g1 g2 : Nat → F} {o : List It} {bs : List Bk} (h1 : Lists itF .zero n1 g1 o) (h2 : Lists bkF .zero n2 g2 bs) (hp : rdOk s p = true) (hs : allShortV bs = true) :
    QRes s (some (.agg [.int .i64 mo, .int .i64 de, .sl n1 g1, .sl n2 g2], p)) :=
  ⟨_, ⟨mo, de, o, bs⟩, p, rfl, FLe.agg ⟨.refl _, .refl _, h1.le, h2.le, trivial⟩, hp, hs⟩
theorem lastB {l : List Bk} (h : 1 < l.length) (hs : allShortV l = true) : IntKind.i64.wrap ((l.length : Int) - 1) = ((l.length - 1 : Nat) : Int) := by
  have := (allShort_iff.1 hs).1
  rw [wrapi (by omega) (by omega)]; omega
theorem takeB (l : List Bk) {k : Nat} (h : k ≤ l.length) : Lists bkF .zero ((k : Nat) : Int).toNat (fun j => bkF (l.getD j Bk.zero)) (l.take k) := by
  have e : ((k : Nat) : Int).toNat = k := by omega
  rw [e]
  refine ⟨by rw [List.length_take]; omega, fun j hj => ?_⟩
  show bkF (l.getD j Bk.zero) = bkF ((l.take k).getD j Bk.zero)
  rw [List.getD, List.getD, List.getElem?_take, if_pos hj]
theorem q_tail {s : ByteArray} {p3 p4 mo de : Int} {o : List It} {bs : List Bk} (b2 b3 : Bool) (x : It) (ho : o.length ≤ 1000) (hs : allShortV bs = true) (o3 : rdOk s p3 = true) (o4 : rdOk s p4 = true) :
    QRes s (bsel b2
      (bsel (decide ((bs.length : Int) > 1))
        (bsel (decide (0 ≤ IntKind.i64.wrap ((bs.length : Int) - 1)))
          (bsel (decide (IntKind.i64.wrap ((bs.length : Int) - 1) ≤ (bs.length : Int)))
            (bsel b3
              (bsel (decide (((o.length + 1 : Nat) : Int) * (((40 : Nat) : Int) + 1) ≤ (limit : Int)))
                (some (F.agg [F.int .i64 mo, F.int .i64 de, F.sl (o.length + 1) fun j => if j < o.length then itF (o.getD j It.zero) else itF x, F.sl (IntKind.i64.wrap ((bs.length : Int) - 1)).toNat fun j => bkF (bs.getD j Bk.zero)], p4))
                none)
              (some (F.agg [F.int .i64 mo, F.int .i64 de, F.sl o.length fun j => itF (o.getD j It.zero), F.sl (IntKind.i64.wrap ((bs.length : Int) - 1)).toNat fun j => bkF (bs.getD j Bk.zero)], p3)))
            none)
          none)
        (bsel b3
          (bsel (decide (((o.length + 1 : Nat) : Int) * (((40 : Nat) : Int) + 1) ≤ (limit : Int)))
            (some (F.agg [F.int .i64 mo, F.int .i64 de, F.sl (o.length + 1) fun j => if j < o.length then itF (o.getD j It.zero) else itF x, blocksF bs], p4))
            none)
          (some (F.agg [F.int .i64 mo, F.int .i64 de, F.sl o.length fun j => itF (o.getD j It.zero), blocksF bs], p3))))
      (bsel b3
        (bsel (decide (((o.length + 1 : Nat) : Int) * (((40 : Nat) : Int) + 1) ≤ (limit : Int)))
          (some (F.agg [F.int .i64 mo, F.int .i64 de, F.sl (o.length + 1) fun j => if j < o.length then itF (o.getD j It.zero) else itF x, blocksF bs], p4))
          none)
        (some (F.agg [F.int .i64 mo, F.int .i64 de, F.sl o.length fun j => itF (o.getD j It.zero), blocksF bs], p3)))) := by
  have ln : decide (((o.length + 1 : Nat) : Int) * (((40 : Nat) : Int) + 1) ≤ (limit : Int)) = true := by rw [limit_eq]; exact decide_eq_true (by omega)
  rw [ln]
  have hB : Lists bkF .zero bs.length (fun j => bkF (bs.getD j Bk.zero)) bs := Lists.self bs
  have hI : Lists itF .zero o.length (fun j => itF (o.getD j It.zero)) o := Lists.self o
  cases b2 with
  | false =>
    cases b3 with
    | false => exact q_leaf hI hB o3 hs
    | true => exact q_leaf (hI.push x) hB o4 hs
  | true =>
    by_cases hl : 1 < bs.length
    · have hw := lastB hl hs
      have e1 : decide ((bs.length : Int) > 1) = true := decide_eq_true (by omega)
      have e2 : decide (0 ≤ ((bs.length - 1 : Nat) : Int)) = true := decide_eq_true (by omega)
      have e3 : decide (((bs.length - 1 : Nat) : Int) ≤ (bs.length : Int)) = true := decide_eq_true (by omega)
      have hT := takeB bs (k := bs.length - 1) (by omega)
      simp only [hw, e1, e2, e3, bsel_true]
      cases b3 with
      | false => exact q_leaf hI hT o3 (short_take hs _)
      | true => exact q_leaf (hI.push x) hT o4 (short_take hs _)
    · have e1 : decide ((bs.length : Int) > 1) = false := decide_eq_false (by omega)
      simp only [e1, bsel_true, bsel_false]
      cases b3 with
      | false => exact q_leaf hI hB o3 hs
      | true => exact q_leaf (hI.push x) hB o4 hs
theorem q_leaf0 {s : ByteArray} {mo de p : Int} {n1 : Nat} {g1 : Nat → F} {o : List It} (h1 : Lists itF .zero n1 g1 o) (hp : rdOk s p = true) :
    QRes s (some (.agg [.int .i64 mo, .int .i64 de, .sl n1 g1, .sl 1 fun _ => bkE], p)) := by
  have hb : isBlocks (.sl 1 fun _ => bkE) = true := rfl
  exact ⟨_, ⟨mo, de, o, unBlocks (.sl 1 fun _ => bkE)⟩, p, rfl, FLe.agg ⟨.refl _, .refl _, h1.le, (blocks_eqv hb).1, trivial⟩, hp, rfl⟩
end
end Go.Proofs.Ytbnainbjcaekjaa.R
namespace Go.Proofs.Ytbnainbjcaekjaa.R
open Go
noncomputable section
/-! ### function 11 -/
def S11_4z (s : ByteArray) (p : Int) (mo : Int) (de : Int) (cn : Int) (i : Int) : St := ⟨[(U.hp 0 0), .bad, (U.hp 1 0), (U.hp 2 0), .bad, (U.f (F.int .i64 cn)), (U.f (F.int .i64 i)), .bad, .bad, .bad, .bad, .bad, .bad, .bad, .bad, .bad, .bad, .bad, .bad, .bad, .bad, .bad, .bad, .bad, .bad, .bad, .bad, .bad, .bad, .bad, .bad, .bad, .bad, .bad, .bad, .bad, .bad, .bad, .bad, .bad, .bad, .bad, .bad, .bad, .bad, .bad, .bad, .bad, .bad, .bad, .bad, .bad, .bad, .bad, .bad, .bad, .bad, .bad, .bad, .bad, .bad, .bad, .bad, .bad, .bad, .bad, .bad, .bad, .bad, .bad, .bad, .bad, .bad, .bad, .bad, .bad, .bad, .bad, .bad, .bad, .bad, .bad], [HO.box [U.f (bytesF s), U.f (F.int .i64 p)], HO.box [(U.f (F.int .i64 0)), (U.f (F.int .i64 0)), U.nils, U.nils], HO.box [(U.f (F.int .i64 mo)), (U.f (F.int .i64 de)), U.nils, U.nils]]⟩
def S11_4a (s : ByteArray) (p : Int) (mo : Int) (de : Int) (cn : Int) (i : Int) : St := ⟨[(U.hp 0 0), .bad, (U.hp 1 0), (U.hp 3 0), .bad, (U.f (F.int .i64 cn)), (U.f (F.int .i64 i)), .bad, .bad, .bad, .bad, .bad, .bad, .bad, .bad, .bad, .bad, .bad, .bad, .bad, .bad, .bad, .bad, .bad, .bad, .bad, .bad, .bad, .bad, .bad, .bad, .bad, .bad, .bad, .bad, .bad, .bad, .bad, .bad, .bad, .bad, .bad, .bad, .bad, .bad, .bad, .bad, .bad, .bad, .bad, .bad, .bad, .bad, .bad, .bad, .bad, .bad, .bad, .bad, .bad, .bad, .bad, .bad, .bad, .bad, .bad, .bad, .bad, .bad, .bad, .bad, .bad, .bad, .bad, .bad, .bad, .bad, .bad, .bad, .bad, .bad, .bad], [HO.box [U.f (bytesF s), U.f (F.int .i64 p)], HO.box [(U.f (F.int .i64 0)), (U.f (F.int .i64 0)), U.nils, U.nils], HO.arr 5 1 (fun _ => bkE), HO.box [(U.f (F.int .i64 mo)), (U.f (F.int .i64 de)), U.nils, (U.hs 2 1 0 1)]]⟩
def S11_4b (s : ByteArray) (p : Int) (mo : Int) (de : Int) (n : Nat) (ig : Nat → F) (bs : List Bk) (cn : Int) (i : Int) : St := ⟨[(U.hp 0 0), .bad, (U.hp 1 0), (U.hp 2 0), .bad, (U.f (F.int .i64 cn)), (U.f (F.int .i64 i)), .bad, .bad, .bad, .bad, .bad, .bad, .bad, .bad, .bad, .bad, .bad, .bad, .bad, .bad, .bad, .bad, .bad, .bad, .bad, .bad, .bad, .bad, .bad, .bad, .bad, .bad, .bad, .bad, .bad, .bad, .bad, .bad, .bad, .bad, .bad, .bad, .bad, .bad, .bad, .bad, .bad, .bad, .bad, .bad, .bad, .bad, .bad, .bad, .bad, .bad, .bad, .bad, .bad, .bad, .bad, .bad, .bad, .bad, .bad, .bad, .bad, .bad, .bad, .bad, .bad, .bad, .bad, .bad, .bad, .bad, .bad, .bad, .bad, .bad, .bad], [HO.box [U.f (bytesF s), U.f (F.int .i64 p)], HO.box [(U.f (F.int .i64 0)), (U.f (F.int .i64 0)), U.nils, U.nils], HO.box [(U.f (F.int .i64 mo)), (U.f (F.int .i64 de)), (U.hs 3 n 0 n), (U.f (blocksF bs))], HO.arr 5 n ig]⟩
def S11_4bv (s : ByteArray) (p : Int) (mo : Int) (de : Int) (n : Nat) (o : List It) (bs : List Bk) (cn : Int) (i : Int) : St := ⟨[(U.hp 0 0), .bad, (U.hp 1 0), (U.hp 2 0), .bad, (U.f (F.int .i64 cn)), (U.f (F.int .i64 i)), .bad, .bad, .bad, .bad, .bad, .bad, .bad, .bad, .bad, .bad, .bad, .bad, .bad, .bad, .bad, .bad, .bad, .bad, .bad, .bad, .bad, .bad, .bad, .bad, .bad, .bad, .bad, .bad, .bad, .bad, .bad, .bad, .bad, .bad, .bad, .bad, .bad, .bad, .bad, .bad, .bad, .bad, .bad, .bad, .bad, .bad, .bad, .bad, .bad, .bad, .bad, .bad, .bad, .bad, .bad, .bad, .bad, .bad, .bad, .bad, .bad, .bad, .bad, .bad, .bad, .bad, .bad, .bad, .bad, .bad, .bad, .bad, .bad, .bad, .bad], [HO.box [U.f (bytesF s), U.f (F.int .i64 p)], HO.box [(U.f (F.int .i64 0)), (U.f (F.int .i64 0)), U.nils, U.nils], HO.box [(U.f (F.int .i64 mo)), (U.f (F.int .i64 de)), (U.hs 3 n 0 n), (U.f (blocksF bs))], HO.arr 5 n (fun i => itF (o.getD i It.zero))]⟩
abbrev KJ81 (ρ : Type) := (ByteArray) → (Int) → (Int) → (Int) → (Int) → (Int) → Option ρ
abbrev KJ82 (ρ : Type) := (ByteArray) → (Int) → (Int) → (Int) → (Nat) → (Nat → F) → (List Bk) → (Int) → (Int) → Option ρ
def T11_4z {ρ : Type} (ret : (F) → (Int) → Option ρ) (c4z : KJ81 ρ) (c4a : KJ81 ρ) (c4b : KJ82 ρ) (s : ByteArray) (p : Int) (mo : Int) (de : Int) (cn : Int) (i : Int) : Option ρ :=
 (bsel (decide (i < cn))
 (bsel (isBytes (bytesF s) && rdOk (unBytes (bytesF s)) p)
 (bsel (isBytes (bytesF s) && rdOk (unBytes (bytesF s)) (belowV (unBytes (bytesF s)) p 9).snd && true)
 (bsel (putOkV (unQd (F.agg [F.int .i64 mo, F.int .i64 de, F.sl 0 fun x ↦ F.bool false, F.sl 0 fun x ↦ F.bool false])) (IntKind.i64.wrap (1 + (belowV (unBytes (bytesF s)) p 9).fst)) { x0 := (farV (unBytes (bytesF s)) (belowV (unBytes (bytesF s)) p 9).snd).fst, y0 := (farV (unBytes (bytesF s)) (belowV (unBytes (bytesF s)) p 9).snd).snd.fst, x1 := (farV (unBytes (bytesF s)) (belowV (unBytes (bytesF s)) p 9).snd).snd.snd.fst, y1 := (farV (unBytes (bytesF s)) (belowV (unBytes (bytesF s)) p 9).snd).snd.snd.snd.fst })
 (c4b (s) ((resFar [] (unBytes (bytesF s)) (belowV (unBytes (bytesF s)) p 9).snd).snd) ((putQ (unQd (F.agg [F.int .i64 mo, F.int .i64 de, F.sl 0 fun x ↦ F.bool false, F.sl 0 fun x ↦ F.bool false])) (IntKind.i64.wrap (1 + (belowV (unBytes (bytesF s)) p 9).fst)) { x0 := (farV (unBytes (bytesF s)) (belowV (unBytes (bytesF s)) p 9).snd).fst, y0 := (farV (unBytes (bytesF s)) (belowV (unBytes (bytesF s)) p 9).snd).snd.fst, x1 := (farV (unBytes (bytesF s)) (belowV (unBytes (bytesF s)) p 9).snd).snd.snd.fst, y1 := (farV (unBytes (bytesF s)) (belowV (unBytes (bytesF s)) p 9).snd).snd.snd.snd.fst }).most) ((putQ (unQd (F.agg [F.int .i64 mo, F.int .i64 de, F.sl 0 fun x ↦ F.bool false, F.sl 0 fun x ↦ F.bool false])) (IntKind.i64.wrap (1 + (belowV (unBytes (bytesF s)) p 9).fst)) { x0 := (farV (unBytes (bytesF s)) (belowV (unBytes (bytesF s)) p 9).snd).fst, y0 := (farV (unBytes (bytesF s)) (belowV (unBytes (bytesF s)) p 9).snd).snd.fst, x1 := (farV (unBytes (bytesF s)) (belowV (unBytes (bytesF s)) p 9).snd).snd.snd.fst, y1 := (farV (unBytes (bytesF s)) (belowV (unBytes (bytesF s)) p 9).snd).snd.snd.snd.fst }).deep) (1) (fun i ↦ itF ((putQ (unQd (F.agg [F.int .i64 mo, F.int .i64 de, F.sl 0 fun x ↦ F.bool false, F.sl 0 fun x ↦ F.bool false])) (IntKind.i64.wrap (1 + (belowV (unBytes (bytesF s)) p 9).fst)) { x0 := (farV (unBytes (bytesF s)) (belowV (unBytes (bytesF s)) p 9).snd).fst, y0 := (farV (unBytes (bytesF s)) (belowV (unBytes (bytesF s)) p 9).snd).snd.fst, x1 := (farV (unBytes (bytesF s)) (belowV (unBytes (bytesF s)) p 9).snd).snd.snd.fst, y1 := (farV (unBytes (bytesF s)) (belowV (unBytes (bytesF s)) p 9).snd).snd.snd.snd.fst }).items.getD i It.zero)) ((putQ (unQd (F.agg [F.int .i64 mo, F.int .i64 de, F.sl 0 fun x ↦ F.bool false, F.sl 0 fun x ↦ F.bool false])) (IntKind.i64.wrap (1 + (belowV (unBytes (bytesF s)) p 9).fst)) { x0 := (farV (unBytes (bytesF s)) (belowV (unBytes (bytesF s)) p 9).snd).fst, y0 := (farV (unBytes (bytesF s)) (belowV (unBytes (bytesF s)) p 9).snd).snd.fst, x1 := (farV (unBytes (bytesF s)) (belowV (unBytes (bytesF s)) p 9).snd).snd.snd.fst, y1 := (farV (unBytes (bytesF s)) (belowV (unBytes (bytesF s)) p 9).snd).snd.snd.snd.fst }).blocks) (cn) (IntKind.i64.wrap (i + 1)))
 (c4z (s) ((resFar [] (unBytes (bytesF s)) (belowV (unBytes (bytesF s)) p 9).snd).snd) (mo) (de) (cn) (IntKind.i64.wrap (i + 1))))
 none)
 none)
 (bsel (isBytes (bytesF s) && rdOk (unBytes (bytesF s)) p)
 (bsel ((onceV (unBytes (bytesF s)) p 4).fst == true)
 (bsel (isBytes (bytesF s) && rdOk (unBytes (bytesF s)) (onceV (unBytes (bytesF s)) p 4).snd)
 (bsel ((onceV (unBytes (bytesF s)) (onceV (unBytes (bytesF s)) p 4).snd 16).fst == true)
 (bsel (isBytes (bytesF s) && rdOk (unBytes (bytesF s)) (onceV (unBytes (bytesF s)) (onceV (unBytes (bytesF s)) p 4).snd 16).snd)
 (bsel ((onceV (unBytes (bytesF s)) (onceV (unBytes (bytesF s)) (onceV (unBytes (bytesF s)) p 4).snd 16).snd 16).fst)
 (bsel (isBytes (bytesF s) && rdOk (unBytes (bytesF s)) (onceV (unBytes (bytesF s)) (onceV (unBytes (bytesF s)) (onceV (unBytes (bytesF s)) p 4).snd 16).snd 16).snd && true)
 (bsel (decide (((1 : Nat) : Int) * (((40 : Nat) : Int) + 1) ≤ (↑limit : Int)))
 (ret (F.agg [F.int .i64 mo, F.int .i64 de, F.sl 1 fun x ↦ F.agg [F.int .i64 9, F.int .i64 (segV (unBytes (bytesF s)) (onceV (unBytes (bytesF s)) (onceV (unBytes (bytesF s)) (onceV (unBytes (bytesF s)) p 4).snd 16).snd 16).snd).fst, F.int .i64 (segV (unBytes (bytesF s)) (onceV (unBytes (bytesF s)) (onceV (unBytes (bytesF s)) (onceV (unBytes (bytesF s)) p 4).snd 16).snd 16).snd).snd.fst, F.int .i64 (segV (unBytes (bytesF s)) (onceV (unBytes (bytesF s)) (onceV (unBytes (bytesF s)) (onceV (unBytes (bytesF s)) p 4).snd 16).snd 16).snd).snd.snd.fst, F.int .i64 (segV (unBytes (bytesF s)) (onceV (unBytes (bytesF s)) (onceV (unBytes (bytesF s)) (onceV (unBytes (bytesF s)) p 4).snd 16).snd 16).snd).snd.snd.snd.fst], F.sl 0 fun x ↦ F.bool false]) ((resSeg [] (unBytes (bytesF s)) (onceV (unBytes (bytesF s)) (onceV (unBytes (bytesF s)) (onceV (unBytes (bytesF s)) p 4).snd 16).snd 16).snd).snd))
 none)
 none)
 (ret (F.agg [F.int .i64 mo, F.int .i64 de, F.sl 0 fun x ↦ F.bool false, F.sl 0 fun x ↦ F.bool false]) ((onceV (unBytes (bytesF s)) (onceV (unBytes (bytesF s)) (onceV (unBytes (bytesF s)) p 4).snd 16).snd 16).snd)))
 none)
 (bsel (isBytes (bytesF s) && rdOk (unBytes (bytesF s)) (onceV (unBytes (bytesF s)) (onceV (unBytes (bytesF s)) p 4).snd 16).snd)
 (bsel ((onceV (unBytes (bytesF s)) (onceV (unBytes (bytesF s)) (onceV (unBytes (bytesF s)) p 4).snd 16).snd 16).fst)
 (bsel (isBytes (bytesF s) && rdOk (unBytes (bytesF s)) (onceV (unBytes (bytesF s)) (onceV (unBytes (bytesF s)) (onceV (unBytes (bytesF s)) p 4).snd 16).snd 16).snd && true)
 (bsel (decide (((1 : Nat) : Int) * (((40 : Nat) : Int) + 1) ≤ (↑limit : Int)))
 (ret (F.agg [F.int .i64 mo, F.int .i64 de, F.sl 1 fun x ↦ F.agg [F.int .i64 9, F.int .i64 (segV (unBytes (bytesF s)) (onceV (unBytes (bytesF s)) (onceV (unBytes (bytesF s)) (onceV (unBytes (bytesF s)) p 4).snd 16).snd 16).snd).fst, F.int .i64 (segV (unBytes (bytesF s)) (onceV (unBytes (bytesF s)) (onceV (unBytes (bytesF s)) (onceV (unBytes (bytesF s)) p 4).snd 16).snd 16).snd).snd.fst, F.int .i64 (segV (unBytes (bytesF s)) (onceV (unBytes (bytesF s)) (onceV (unBytes (bytesF s)) (onceV (unBytes (bytesF s)) p 4).snd 16).snd 16).snd).snd.snd.fst, F.int .i64 (segV (unBytes (bytesF s)) (onceV (unBytes (bytesF s)) (onceV (unBytes (bytesF s)) (onceV (unBytes (bytesF s)) p 4).snd 16).snd 16).snd).snd.snd.snd.fst], F.sl 0 fun x ↦ F.bool false]) ((resSeg [] (unBytes (bytesF s)) (onceV (unBytes (bytesF s)) (onceV (unBytes (bytesF s)) (onceV (unBytes (bytesF s)) p 4).snd 16).snd 16).snd).snd))
 none)
 none)
 (ret (F.agg [F.int .i64 mo, F.int .i64 de, F.sl 0 fun x ↦ F.bool false, F.sl 0 fun x ↦ F.bool false]) ((onceV (unBytes (bytesF s)) (onceV (unBytes (bytesF s)) (onceV (unBytes (bytesF s)) p 4).snd 16).snd 16).snd)))
 none))
 none)
 (bsel (isBytes (bytesF s) && rdOk (unBytes (bytesF s)) (onceV (unBytes (bytesF s)) p 4).snd)
 (bsel ((onceV (unBytes (bytesF s)) (onceV (unBytes (bytesF s)) p 4).snd 16).fst == true)
 (bsel (isBytes (bytesF s) && rdOk (unBytes (bytesF s)) (onceV (unBytes (bytesF s)) (onceV (unBytes (bytesF s)) p 4).snd 16).snd)
 (bsel ((onceV (unBytes (bytesF s)) (onceV (unBytes (bytesF s)) (onceV (unBytes (bytesF s)) p 4).snd 16).snd 16).fst)
 (bsel (isBytes (bytesF s) && rdOk (unBytes (bytesF s)) (onceV (unBytes (bytesF s)) (onceV (unBytes (bytesF s)) (onceV (unBytes (bytesF s)) p 4).snd 16).snd 16).snd && true)
 (bsel (decide (((1 : Nat) : Int) * (((40 : Nat) : Int) + 1) ≤ (↑limit : Int)))
 (ret (F.agg [F.int .i64 mo, F.int .i64 de, F.sl 1 fun x ↦ F.agg [F.int .i64 9, F.int .i64 (segV (unBytes (bytesF s)) (onceV (unBytes (bytesF s)) (onceV (unBytes (bytesF s)) (onceV (unBytes (bytesF s)) p 4).snd 16).snd 16).snd).fst, F.int .i64 (segV (unBytes (bytesF s)) (onceV (unBytes (bytesF s)) (onceV (unBytes (bytesF s)) (onceV (unBytes (bytesF s)) p 4).snd 16).snd 16).snd).snd.fst, F.int .i64 (segV (unBytes (bytesF s)) (onceV (unBytes (bytesF s)) (onceV (unBytes (bytesF s)) (onceV (unBytes (bytesF s)) p 4).snd 16).snd 16).snd).snd.snd.fst, F.int .i64 (segV (unBytes (bytesF s)) (onceV (unBytes (bytesF s)) (onceV (unBytes (bytesF s)) (onceV (unBytes (bytesF s)) p 4).snd 16).snd 16).snd).snd.snd.snd.fst], F.sl 0 fun x ↦ F.bool false]) ((resSeg [] (unBytes (bytesF s)) (onceV (unBytes (bytesF s)) (onceV (unBytes (bytesF s)) (onceV (unBytes (bytesF s)) p 4).snd 16).snd 16).snd).snd))
 none)
 none)
 (ret (F.agg [F.int .i64 mo, F.int .i64 de, F.sl 0 fun x ↦ F.bool false, F.sl 0 fun x ↦ F.bool false]) ((onceV (unBytes (bytesF s)) (onceV (unBytes (bytesF s)) (onceV (unBytes (bytesF s)) p 4).snd 16).snd 16).snd)))
 none)
 (bsel (isBytes (bytesF s) && rdOk (unBytes (bytesF s)) (onceV (unBytes (bytesF s)) (onceV (unBytes (bytesF s)) p 4).snd 16).snd)
 (bsel ((onceV (unBytes (bytesF s)) (onceV (unBytes (bytesF s)) (onceV (unBytes (bytesF s)) p 4).snd 16).snd 16).fst)
 (bsel (isBytes (bytesF s) && rdOk (unBytes (bytesF s)) (onceV (unBytes (bytesF s)) (onceV (unBytes (bytesF s)) (onceV (unBytes (bytesF s)) p 4).snd 16).snd 16).snd && true)
 (bsel (decide (((1 : Nat) : Int) * (((40 : Nat) : Int) + 1) ≤ (↑limit : Int)))
 (ret (F.agg [F.int .i64 mo, F.int .i64 de, F.sl 1 fun x ↦ F.agg [F.int .i64 9, F.int .i64 (segV (unBytes (bytesF s)) (onceV (unBytes (bytesF s)) (onceV (unBytes (bytesF s)) (onceV (unBytes (bytesF s)) p 4).snd 16).snd 16).snd).fst, F.int .i64 (segV (unBytes (bytesF s)) (onceV (unBytes (bytesF s)) (onceV (unBytes (bytesF s)) (onceV (unBytes (bytesF s)) p 4).snd 16).snd 16).snd).snd.fst, F.int .i64 (segV (unBytes (bytesF s)) (onceV (unBytes (bytesF s)) (onceV (unBytes (bytesF s)) (onceV (unBytes (bytesF s)) p 4).snd 16).snd 16).snd).snd.snd.fst, F.int .i64 (segV (unBytes (bytesF s)) (onceV (unBytes (bytesF s)) (onceV (unBytes (bytesF s)) (onceV (unBytes (bytesF s)) p 4).snd 16).snd 16).snd).snd.snd.snd.fst], F.sl 0 fun x ↦ F.bool false]) ((resSeg [] (unBytes (bytesF s)) (onceV (unBytes (bytesF s)) (onceV (unBytes (bytesF s)) (onceV (unBytes (bytesF s)) p 4).snd 16).snd 16).snd).snd))
 none)
 none)
 (ret (F.agg [F.int .i64 mo, F.int .i64 de, F.sl 0 fun x ↦ F.bool false, F.sl 0 fun x ↦ F.bool false]) ((onceV (unBytes (bytesF s)) (onceV (unBytes (bytesF s)) (onceV (unBytes (bytesF s)) p 4).snd 16).snd 16).snd)))
 none))
 none))
 none))
def T11_4a {ρ : Type} (ret : (F) → (Int) → Option ρ) (c4z : KJ81 ρ) (c4a : KJ81 ρ) (c4b : KJ82 ρ) (s : ByteArray) (p : Int) (mo : Int) (de : Int) (cn : Int) (i : Int) : Option ρ :=
 (bsel (decide (i < cn))
 (bsel (isBytes (bytesF s) && rdOk (unBytes (bytesF s)) p)
 (bsel (isBytes (bytesF s) && rdOk (unBytes (bytesF s)) (belowV (unBytes (bytesF s)) p 9).snd && true)
 (bsel (putOkV (unQd (F.agg [F.int .i64 mo, F.int .i64 de, F.sl 0 fun x ↦ F.bool false, F.sl 1 (offF 0 fun x ↦ F.agg [F.int .i64 (-1048576), F.int .i64 (-1048576), F.int .i64 2097152, F.bool false, F.sl 0 fun x ↦ F.bool false])])) (IntKind.i64.wrap (1 + (belowV (unBytes (bytesF s)) p 9).fst)) { x0 := (farV (unBytes (bytesF s)) (belowV (unBytes (bytesF s)) p 9).snd).fst, y0 := (farV (unBytes (bytesF s)) (belowV (unBytes (bytesF s)) p 9).snd).snd.fst, x1 := (farV (unBytes (bytesF s)) (belowV (unBytes (bytesF s)) p 9).snd).snd.snd.fst, y1 := (farV (unBytes (bytesF s)) (belowV (unBytes (bytesF s)) p 9).snd).snd.snd.snd.fst })
 (c4b (s) ((resFar [] (unBytes (bytesF s)) (belowV (unBytes (bytesF s)) p 9).snd).snd) ((putQ (unQd (F.agg [F.int .i64 mo, F.int .i64 de, F.sl 0 fun x ↦ F.bool false, F.sl 1 (offF 0 fun x ↦ F.agg [F.int .i64 (-1048576), F.int .i64 (-1048576), F.int .i64 2097152, F.bool false, F.sl 0 fun x ↦ F.bool false])])) (IntKind.i64.wrap (1 + (belowV (unBytes (bytesF s)) p 9).fst)) { x0 := (farV (unBytes (bytesF s)) (belowV (unBytes (bytesF s)) p 9).snd).fst, y0 := (farV (unBytes (bytesF s)) (belowV (unBytes (bytesF s)) p 9).snd).snd.fst, x1 := (farV (unBytes (bytesF s)) (belowV (unBytes (bytesF s)) p 9).snd).snd.snd.fst, y1 := (farV (unBytes (bytesF s)) (belowV (unBytes (bytesF s)) p 9).snd).snd.snd.snd.fst }).most) ((putQ (unQd (F.agg [F.int .i64 mo, F.int .i64 de, F.sl 0 fun x ↦ F.bool false, F.sl 1 (offF 0 fun x ↦ F.agg [F.int .i64 (-1048576), F.int .i64 (-1048576), F.int .i64 2097152, F.bool false, F.sl 0 fun x ↦ F.bool false])])) (IntKind.i64.wrap (1 + (belowV (unBytes (bytesF s)) p 9).fst)) { x0 := (farV (unBytes (bytesF s)) (belowV (unBytes (bytesF s)) p 9).snd).fst, y0 := (farV (unBytes (bytesF s)) (belowV (unBytes (bytesF s)) p 9).snd).snd.fst, x1 := (farV (unBytes (bytesF s)) (belowV (unBytes (bytesF s)) p 9).snd).snd.snd.fst, y1 := (farV (unBytes (bytesF s)) (belowV (unBytes (bytesF s)) p 9).snd).snd.snd.snd.fst }).deep) (1) (fun i ↦ itF ((putQ (unQd (F.agg [F.int .i64 mo, F.int .i64 de, F.sl 0 fun x ↦ F.bool false, F.sl 1 (offF 0 fun x ↦ F.agg [F.int .i64 (-1048576), F.int .i64 (-1048576), F.int .i64 2097152, F.bool false, F.sl 0 fun x ↦ F.bool false])])) (IntKind.i64.wrap (1 + (belowV (unBytes (bytesF s)) p 9).fst)) { x0 := (farV (unBytes (bytesF s)) (belowV (unBytes (bytesF s)) p 9).snd).fst, y0 := (farV (unBytes (bytesF s)) (belowV (unBytes (bytesF s)) p 9).snd).snd.fst, x1 := (farV (unBytes (bytesF s)) (belowV (unBytes (bytesF s)) p 9).snd).snd.snd.fst, y1 := (farV (unBytes (bytesF s)) (belowV (unBytes (bytesF s)) p 9).snd).snd.snd.snd.fst }).items.getD i It.zero)) ((putQ (unQd (F.agg [F.int .i64 mo, F.int .i64 de, F.sl 0 fun x ↦ F.bool false, F.sl 1 (offF 0 fun x ↦ F.agg [F.int .i64 (-1048576), F.int .i64 (-1048576), F.int .i64 2097152, F.bool false, F.sl 0 fun x ↦ F.bool false])])) (IntKind.i64.wrap (1 + (belowV (unBytes (bytesF s)) p 9).fst)) { x0 := (farV (unBytes (bytesF s)) (belowV (unBytes (bytesF s)) p 9).snd).fst, y0 := (farV (unBytes (bytesF s)) (belowV (unBytes (bytesF s)) p 9).snd).snd.fst, x1 := (farV (unBytes (bytesF s)) (belowV (unBytes (bytesF s)) p 9).snd).snd.snd.fst, y1 := (farV (unBytes (bytesF s)) (belowV (unBytes (bytesF s)) p 9).snd).snd.snd.snd.fst }).blocks) (cn) (IntKind.i64.wrap (i + 1)))
 (bsel (isBytes (bytesF s) && rdOk (unBytes (bytesF s)) p)
 (bsel (isBytes (bytesF s) && rdOk (unBytes (bytesF s)) (belowV (unBytes (bytesF s)) p 9).snd && true)
 (bsel (putOkV (unQd (F.agg [F.int .i64 mo, F.int .i64 de, F.sl 0 fun x ↦ F.bool false, F.sl 1 (offF 0 fun x ↦ F.agg [F.int .i64 (-1048576), F.int .i64 (-1048576), F.int .i64 2097152, F.bool false, F.sl 0 fun x ↦ F.bool false])])) (IntKind.i64.wrap (1 + (belowV (unBytes (bytesF s)) p 9).fst)) { x0 := (farV (unBytes (bytesF s)) (belowV (unBytes (bytesF s)) p 9).snd).fst, y0 := (farV (unBytes (bytesF s)) (belowV (unBytes (bytesF s)) p 9).snd).snd.fst, x1 := (farV (unBytes (bytesF s)) (belowV (unBytes (bytesF s)) p 9).snd).snd.snd.fst, y1 := (farV (unBytes (bytesF s)) (belowV (unBytes (bytesF s)) p 9).snd).snd.snd.snd.fst })
 none
 (c4a (s) ((resFar [] (unBytes (bytesF s)) (belowV (unBytes (bytesF s)) p 9).snd).snd) (mo) (de) (cn) (IntKind.i64.wrap (i + 1))))
 none)
 none))
 none)
 none)
 (bsel (isBytes (bytesF s) && rdOk (unBytes (bytesF s)) p)
 (bsel ((onceV (unBytes (bytesF s)) p 4).fst == true)
 (bsel (isBytes (bytesF s) && rdOk (unBytes (bytesF s)) (onceV (unBytes (bytesF s)) p 4).snd)
 (bsel ((onceV (unBytes (bytesF s)) (onceV (unBytes (bytesF s)) p 4).snd 16).fst == true)
 (bsel (isBytes (bytesF s) && rdOk (unBytes (bytesF s)) (onceV (unBytes (bytesF s)) (onceV (unBytes (bytesF s)) p 4).snd 16).snd)
 (bsel ((onceV (unBytes (bytesF s)) (onceV (unBytes (bytesF s)) (onceV (unBytes (bytesF s)) p 4).snd 16).snd 16).fst)
 (bsel (isBytes (bytesF s) && rdOk (unBytes (bytesF s)) (onceV (unBytes (bytesF s)) (onceV (unBytes (bytesF s)) (onceV (unBytes (bytesF s)) p 4).snd 16).snd 16).snd && true)
 (bsel (decide (((1 : Nat) : Int) * (((40 : Nat) : Int) + 1) ≤ (↑limit : Int)))
 (ret (F.agg [F.int .i64 mo, F.int .i64 de, F.sl 1 fun x ↦ F.agg [F.int .i64 9, F.int .i64 (segV (unBytes (bytesF s)) (onceV (unBytes (bytesF s)) (onceV (unBytes (bytesF s)) (onceV (unBytes (bytesF s)) p 4).snd 16).snd 16).snd).fst, F.int .i64 (segV (unBytes (bytesF s)) (onceV (unBytes (bytesF s)) (onceV (unBytes (bytesF s)) (onceV (unBytes (bytesF s)) p 4).snd 16).snd 16).snd).snd.fst, F.int .i64 (segV (unBytes (bytesF s)) (onceV (unBytes (bytesF s)) (onceV (unBytes (bytesF s)) (onceV (unBytes (bytesF s)) p 4).snd 16).snd 16).snd).snd.snd.fst, F.int .i64 (segV (unBytes (bytesF s)) (onceV (unBytes (bytesF s)) (onceV (unBytes (bytesF s)) (onceV (unBytes (bytesF s)) p 4).snd 16).snd 16).snd).snd.snd.snd.fst], F.sl 1 fun x ↦ F.agg [F.int .i64 (-1048576), F.int .i64 (-1048576), F.int .i64 2097152, F.bool false, F.sl 0 fun x ↦ F.bool false]]) ((resSeg [] (unBytes (bytesF s)) (onceV (unBytes (bytesF s)) (onceV (unBytes (bytesF s)) (onceV (unBytes (bytesF s)) p 4).snd 16).snd 16).snd).snd))
 none)
 none)
 (ret (F.agg [F.int .i64 mo, F.int .i64 de, F.sl 0 fun x ↦ F.bool false, F.sl 1 fun x ↦ F.agg [F.int .i64 (-1048576), F.int .i64 (-1048576), F.int .i64 2097152, F.bool false, F.sl 0 fun x ↦ F.bool false]]) ((onceV (unBytes (bytesF s)) (onceV (unBytes (bytesF s)) (onceV (unBytes (bytesF s)) p 4).snd 16).snd 16).snd)))
 none)
 (bsel (isBytes (bytesF s) && rdOk (unBytes (bytesF s)) (onceV (unBytes (bytesF s)) (onceV (unBytes (bytesF s)) p 4).snd 16).snd)
 (bsel ((onceV (unBytes (bytesF s)) (onceV (unBytes (bytesF s)) (onceV (unBytes (bytesF s)) p 4).snd 16).snd 16).fst)
 (bsel (isBytes (bytesF s) && rdOk (unBytes (bytesF s)) (onceV (unBytes (bytesF s)) (onceV (unBytes (bytesF s)) (onceV (unBytes (bytesF s)) p 4).snd 16).snd 16).snd && true)
 (bsel (decide (((1 : Nat) : Int) * (((40 : Nat) : Int) + 1) ≤ (↑limit : Int)))
 (ret (F.agg [F.int .i64 mo, F.int .i64 de, F.sl 1 fun x ↦ F.agg [F.int .i64 9, F.int .i64 (segV (unBytes (bytesF s)) (onceV (unBytes (bytesF s)) (onceV (unBytes (bytesF s)) (onceV (unBytes (bytesF s)) p 4).snd 16).snd 16).snd).fst, F.int .i64 (segV (unBytes (bytesF s)) (onceV (unBytes (bytesF s)) (onceV (unBytes (bytesF s)) (onceV (unBytes (bytesF s)) p 4).snd 16).snd 16).snd).snd.fst, F.int .i64 (segV (unBytes (bytesF s)) (onceV (unBytes (bytesF s)) (onceV (unBytes (bytesF s)) (onceV (unBytes (bytesF s)) p 4).snd 16).snd 16).snd).snd.snd.fst, F.int .i64 (segV (unBytes (bytesF s)) (onceV (unBytes (bytesF s)) (onceV (unBytes (bytesF s)) (onceV (unBytes (bytesF s)) p 4).snd 16).snd 16).snd).snd.snd.snd.fst], F.sl 1 fun x ↦ F.agg [F.int .i64 (-1048576), F.int .i64 (-1048576), F.int .i64 2097152, F.bool false, F.sl 0 fun x ↦ F.bool false]]) ((resSeg [] (unBytes (bytesF s)) (onceV (unBytes (bytesF s)) (onceV (unBytes (bytesF s)) (onceV (unBytes (bytesF s)) p 4).snd 16).snd 16).snd).snd))
 none)
 none)
 (ret (F.agg [F.int .i64 mo, F.int .i64 de, F.sl 0 fun x ↦ F.bool false, F.sl 1 fun x ↦ F.agg [F.int .i64 (-1048576), F.int .i64 (-1048576), F.int .i64 2097152, F.bool false, F.sl 0 fun x ↦ F.bool false]]) ((onceV (unBytes (bytesF s)) (onceV (unBytes (bytesF s)) (onceV (unBytes (bytesF s)) p 4).snd 16).snd 16).snd)))
 none))
 none)
 (bsel (isBytes (bytesF s) && rdOk (unBytes (bytesF s)) (onceV (unBytes (bytesF s)) p 4).snd)
 (bsel ((onceV (unBytes (bytesF s)) (onceV (unBytes (bytesF s)) p 4).snd 16).fst == true)
 (bsel (isBytes (bytesF s) && rdOk (unBytes (bytesF s)) (onceV (unBytes (bytesF s)) (onceV (unBytes (bytesF s)) p 4).snd 16).snd)
 (bsel ((onceV (unBytes (bytesF s)) (onceV (unBytes (bytesF s)) (onceV (unBytes (bytesF s)) p 4).snd 16).snd 16).fst)
 (bsel (isBytes (bytesF s) && rdOk (unBytes (bytesF s)) (onceV (unBytes (bytesF s)) (onceV (unBytes (bytesF s)) (onceV (unBytes (bytesF s)) p 4).snd 16).snd 16).snd && true)
 (bsel (decide (((1 : Nat) : Int) * (((40 : Nat) : Int) + 1) ≤ (↑limit : Int)))
 (ret (F.agg [F.int .i64 mo, F.int .i64 de, F.sl 1 fun x ↦ F.agg [F.int .i64 9, F.int .i64 (segV (unBytes (bytesF s)) (onceV (unBytes (bytesF s)) (onceV (unBytes (bytesF s)) (onceV (unBytes (bytesF s)) p 4).snd 16).snd 16).snd).fst, F.int .i64 (segV (unBytes (bytesF s)) (onceV (unBytes (bytesF s)) (onceV (unBytes (bytesF s)) (onceV (unBytes (bytesF s)) p 4).snd 16).snd 16).snd).snd.fst, F.int .i64 (segV (unBytes (bytesF s)) (onceV (unBytes (bytesF s)) (onceV (unBytes (bytesF s)) (onceV (unBytes (bytesF s)) p 4).snd 16).snd 16).snd).snd.snd.fst, F.int .i64 (segV (unBytes (bytesF s)) (onceV (unBytes (bytesF s)) (onceV (unBytes (bytesF s)) (onceV (unBytes (bytesF s)) p 4).snd 16).snd 16).snd).snd.snd.snd.fst], F.sl 1 fun x ↦ F.agg [F.int .i64 (-1048576), F.int .i64 (-1048576), F.int .i64 2097152, F.bool false, F.sl 0 fun x ↦ F.bool false]]) ((resSeg [] (unBytes (bytesF s)) (onceV (unBytes (bytesF s)) (onceV (unBytes (bytesF s)) (onceV (unBytes (bytesF s)) p 4).snd 16).snd 16).snd).snd))
 none)
 none)
 (ret (F.agg [F.int .i64 mo, F.int .i64 de, F.sl 0 fun x ↦ F.bool false, F.sl 1 fun x ↦ F.agg [F.int .i64 (-1048576), F.int .i64 (-1048576), F.int .i64 2097152, F.bool false, F.sl 0 fun x ↦ F.bool false]]) ((onceV (unBytes (bytesF s)) (onceV (unBytes (bytesF s)) (onceV (unBytes (bytesF s)) p 4).snd 16).snd 16).snd)))
 none)
 (bsel (isBytes (bytesF s) && rdOk (unBytes (bytesF s)) (onceV (unBytes (bytesF s)) (onceV (unBytes (bytesF s)) p 4).snd 16).snd)
 (bsel ((onceV (unBytes (bytesF s)) (onceV (unBytes (bytesF s)) (onceV (unBytes (bytesF s)) p 4).snd 16).snd 16).fst)
 (bsel (isBytes (bytesF s) && rdOk (unBytes (bytesF s)) (onceV (unBytes (bytesF s)) (onceV (unBytes (bytesF s)) (onceV (unBytes (bytesF s)) p 4).snd 16).snd 16).snd && true)
 (bsel (decide (((1 : Nat) : Int) * (((40 : Nat) : Int) + 1) ≤ (↑limit : Int)))
 (ret (F.agg [F.int .i64 mo, F.int .i64 de, F.sl 1 fun x ↦ F.agg [F.int .i64 9, F.int .i64 (segV (unBytes (bytesF s)) (onceV (unBytes (bytesF s)) (onceV (unBytes (bytesF s)) (onceV (unBytes (bytesF s)) p 4).snd 16).snd 16).snd).fst, F.int .i64 (segV (unBytes (bytesF s)) (onceV (unBytes (bytesF s)) (onceV (unBytes (bytesF s)) (onceV (unBytes (bytesF s)) p 4).snd 16).snd 16).snd).snd.fst, F.int .i64 (segV (unBytes (bytesF s)) (onceV (unBytes (bytesF s)) (onceV (unBytes (bytesF s)) (onceV (unBytes (bytesF s)) p 4).snd 16).snd 16).snd).snd.snd.fst, F.int .i64 (segV (unBytes (bytesF s)) (onceV (unBytes (bytesF s)) (onceV (unBytes (bytesF s)) (onceV (unBytes (bytesF s)) p 4).snd 16).snd 16).snd).snd.snd.snd.fst], F.sl 1 fun x ↦ F.agg [F.int .i64 (-1048576), F.int .i64 (-1048576), F.int .i64 2097152, F.bool false, F.sl 0 fun x ↦ F.bool false]]) ((resSeg [] (unBytes (bytesF s)) (onceV (unBytes (bytesF s)) (onceV (unBytes (bytesF s)) (onceV (unBytes (bytesF s)) p 4).snd 16).snd 16).snd).snd))
 none)
 none)
 (ret (F.agg [F.int .i64 mo, F.int .i64 de, F.sl 0 fun x ↦ F.bool false, F.sl 1 fun x ↦ F.agg [F.int .i64 (-1048576), F.int .i64 (-1048576), F.int .i64 2097152, F.bool false, F.sl 0 fun x ↦ F.bool false]]) ((onceV (unBytes (bytesF s)) (onceV (unBytes (bytesF s)) (onceV (unBytes (bytesF s)) p 4).snd 16).snd 16).snd)))
 none))
 none))
 none))
def T11_4b {ρ : Type} (ret : (F) → (Int) → Option ρ) (c4z : KJ81 ρ) (c4a : KJ81 ρ) (c4b : KJ82 ρ) (s : ByteArray) (p : Int) (mo : Int) (de : Int) (n : Nat) (o : List It) (bs : List Bk) (cn : Int) (i : Int) : Option ρ :=
 (bsel (decide (i < cn))
 (bsel (decide (n = n))
 (bsel (isBytes (bytesF s) && rdOk (unBytes (bytesF s)) p)
 (bsel (isBytes (bytesF s) && rdOk (unBytes (bytesF s)) (belowV (unBytes (bytesF s)) p 9).snd && true)
 (bsel (isQd (F.agg [F.int .i64 mo, F.int .i64 de, F.sl n (offF 0 fun i ↦ itF (o.getD i It.zero)), blocksF bs]) && allShortV (unQd (F.agg [F.int .i64 mo, F.int .i64 de, F.sl n (offF 0 fun i ↦ itF (o.getD i It.zero)), blocksF bs])).blocks)
 (bsel (putOkV (unQd (F.agg [F.int .i64 mo, F.int .i64 de, F.sl n (offF 0 fun i ↦ itF (o.getD i It.zero)), blocksF bs])) (IntKind.i64.wrap (1 + (belowV (unBytes (bytesF s)) p 9).fst)) { x0 := (farV (unBytes (bytesF s)) (belowV (unBytes (bytesF s)) p 9).snd).fst, y0 := (farV (unBytes (bytesF s)) (belowV (unBytes (bytesF s)) p 9).snd).snd.fst, x1 := (farV (unBytes (bytesF s)) (belowV (unBytes (bytesF s)) p 9).snd).snd.snd.fst, y1 := (farV (unBytes (bytesF s)) (belowV (unBytes (bytesF s)) p 9).snd).snd.snd.snd.fst })
 (c4b (s) ((resFar [] (unBytes (bytesF s)) (belowV (unBytes (bytesF s)) p 9).snd).snd) ((putQ (unQd (F.agg [F.int .i64 mo, F.int .i64 de, F.sl n (offF 0 fun i ↦ itF (o.getD i It.zero)), blocksF bs])) (IntKind.i64.wrap (1 + (belowV (unBytes (bytesF s)) p 9).fst)) { x0 := (farV (unBytes (bytesF s)) (belowV (unBytes (bytesF s)) p 9).snd).fst, y0 := (farV (unBytes (bytesF s)) (belowV (unBytes (bytesF s)) p 9).snd).snd.fst, x1 := (farV (unBytes (bytesF s)) (belowV (unBytes (bytesF s)) p 9).snd).snd.snd.fst, y1 := (farV (unBytes (bytesF s)) (belowV (unBytes (bytesF s)) p 9).snd).snd.snd.snd.fst }).most) ((putQ (unQd (F.agg [F.int .i64 mo, F.int .i64 de, F.sl n (offF 0 fun i ↦ itF (o.getD i It.zero)), blocksF bs])) (IntKind.i64.wrap (1 + (belowV (unBytes (bytesF s)) p 9).fst)) { x0 := (farV (unBytes (bytesF s)) (belowV (unBytes (bytesF s)) p 9).snd).fst, y0 := (farV (unBytes (bytesF s)) (belowV (unBytes (bytesF s)) p 9).snd).snd.fst, x1 := (farV (unBytes (bytesF s)) (belowV (unBytes (bytesF s)) p 9).snd).snd.snd.fst, y1 := (farV (unBytes (bytesF s)) (belowV (unBytes (bytesF s)) p 9).snd).snd.snd.snd.fst }).deep) ((putQ (unQd (F.agg [F.int .i64 mo, F.int .i64 de, F.sl n (offF 0 fun i ↦ itF (o.getD i It.zero)), blocksF bs])) (IntKind.i64.wrap (1 + (belowV (unBytes (bytesF s)) p 9).fst)) { x0 := (farV (unBytes (bytesF s)) (belowV (unBytes (bytesF s)) p 9).snd).fst, y0 := (farV (unBytes (bytesF s)) (belowV (unBytes (bytesF s)) p 9).snd).snd.fst, x1 := (farV (unBytes (bytesF s)) (belowV (unBytes (bytesF s)) p 9).snd).snd.snd.fst, y1 := (farV (unBytes (bytesF s)) (belowV (unBytes (bytesF s)) p 9).snd).snd.snd.snd.fst }).items.length) (fun i ↦ itF ((putQ (unQd (F.agg [F.int .i64 mo, F.int .i64 de, F.sl n (offF 0 fun i ↦ itF (o.getD i It.zero)), blocksF bs])) (IntKind.i64.wrap (1 + (belowV (unBytes (bytesF s)) p 9).fst)) { x0 := (farV (unBytes (bytesF s)) (belowV (unBytes (bytesF s)) p 9).snd).fst, y0 := (farV (unBytes (bytesF s)) (belowV (unBytes (bytesF s)) p 9).snd).snd.fst, x1 := (farV (unBytes (bytesF s)) (belowV (unBytes (bytesF s)) p 9).snd).snd.snd.fst, y1 := (farV (unBytes (bytesF s)) (belowV (unBytes (bytesF s)) p 9).snd).snd.snd.snd.fst }).items.getD i It.zero)) ((putQ (unQd (F.agg [F.int .i64 mo, F.int .i64 de, F.sl n (offF 0 fun i ↦ itF (o.getD i It.zero)), blocksF bs])) (IntKind.i64.wrap (1 + (belowV (unBytes (bytesF s)) p 9).fst)) { x0 := (farV (unBytes (bytesF s)) (belowV (unBytes (bytesF s)) p 9).snd).fst, y0 := (farV (unBytes (bytesF s)) (belowV (unBytes (bytesF s)) p 9).snd).snd.fst, x1 := (farV (unBytes (bytesF s)) (belowV (unBytes (bytesF s)) p 9).snd).snd.snd.fst, y1 := (farV (unBytes (bytesF s)) (belowV (unBytes (bytesF s)) p 9).snd).snd.snd.snd.fst }).blocks) (cn) (IntKind.i64.wrap (i + 1)))
 (bsel (isBytes (bytesF s) && rdOk (unBytes (bytesF s)) p)
 (bsel (isBytes (bytesF s) && rdOk (unBytes (bytesF s)) (belowV (unBytes (bytesF s)) p 9).snd && true)
 (bsel (decide (n = n))
 (bsel (isQd (F.agg [F.int .i64 mo, F.int .i64 de, F.sl n (offF 0 fun i ↦ itF (o.getD i It.zero)), blocksF bs]) && allShortV (unQd (F.agg [F.int .i64 mo, F.int .i64 de, F.sl n (offF 0 fun i ↦ itF (o.getD i It.zero)), blocksF bs])).blocks)
 (bsel (putOkV (unQd (F.agg [F.int .i64 mo, F.int .i64 de, F.sl n (offF 0 fun i ↦ itF (o.getD i It.zero)), blocksF bs])) (IntKind.i64.wrap (1 + (belowV (unBytes (bytesF s)) p 9).fst)) { x0 := (farV (unBytes (bytesF s)) (belowV (unBytes (bytesF s)) p 9).snd).fst, y0 := (farV (unBytes (bytesF s)) (belowV (unBytes (bytesF s)) p 9).snd).snd.fst, x1 := (farV (unBytes (bytesF s)) (belowV (unBytes (bytesF s)) p 9).snd).snd.snd.fst, y1 := (farV (unBytes (bytesF s)) (belowV (unBytes (bytesF s)) p 9).snd).snd.snd.snd.fst })
 none
 (c4b (s) ((resFar [] (unBytes (bytesF s)) (belowV (unBytes (bytesF s)) p 9).snd).snd) (mo) (de) (n) (fun i ↦ itF (o.getD i It.zero)) (bs) (cn) (IntKind.i64.wrap (i + 1))))
 none)
 none)
 none)
 none))
 none)
 none)
 none)
 none)
 (bsel (isBytes (bytesF s) && rdOk (unBytes (bytesF s)) p)
 (bsel ((onceV (unBytes (bytesF s)) p 4).fst == true)
 (bsel (decide (n = n))
 (bsel (decide ((↑n : Int) > 0))
 (bsel (decide (n = n))
 (bsel (decide (0 < (↑n : Int)))
 (bsel (isQd (F.agg [F.int .i64 mo, F.int .i64 de, F.sl n (offF 0 fun i ↦ itF (o.getD i It.zero)), blocksF bs]) && allShortV (unQd (F.agg [F.int .i64 mo, F.int .i64 de, F.sl n (offF 0 fun i ↦ itF (o.getD i It.zero)), blocksF bs])).blocks)
 (bsel (cutOkV (unQd (F.agg [F.int .i64 mo, F.int .i64 de, F.sl n (offF 0 fun i ↦ itF (o.getD i It.zero)), blocksF bs])) (o.getD (Int.toNat 0) It.zero).id)
 (bsel (isBytes (bytesF s) && rdOk (unBytes (bytesF s)) (onceV (unBytes (bytesF s)) p 4).snd)
 (bsel ((onceV (unBytes (bytesF s)) (onceV (unBytes (bytesF s)) p 4).snd 16).fst == true)
 (bsel (decide ((↑(cutQ (unQd (F.agg [F.int .i64 mo, F.int .i64 de, F.sl n (offF 0 fun i ↦ itF (o.getD i It.zero)), blocksF bs])) (o.getD 0 It.zero).id).blocks.length : Int) > 1))
 (bsel (decide (0 ≤ IntKind.i64.wrap ((↑(cutQ (unQd (F.agg [F.int .i64 mo, F.int .i64 de, F.sl n (offF 0 fun i ↦ itF (o.getD i It.zero)), blocksF bs])) (o.getD 0 It.zero).id).blocks.length : Int) - 1)))
 (bsel (decide (IntKind.i64.wrap ((↑(cutQ (unQd (F.agg [F.int .i64 mo, F.int .i64 de, F.sl n (offF 0 fun i ↦ itF (o.getD i It.zero)), blocksF bs])) (o.getD 0 It.zero).id).blocks.length : Int) - 1) ≤ (↑(cutQ (unQd (F.agg [F.int .i64 mo, F.int .i64 de, F.sl n (offF 0 fun i ↦ itF (o.getD i It.zero)), blocksF bs])) (o.getD 0 It.zero).id).blocks.length : Int)))
 (bsel (isBytes (bytesF s) && rdOk (unBytes (bytesF s)) (onceV (unBytes (bytesF s)) (onceV (unBytes (bytesF s)) p 4).snd 16).snd)
 (bsel ((onceV (unBytes (bytesF s)) (onceV (unBytes (bytesF s)) (onceV (unBytes (bytesF s)) p 4).snd 16).snd 16).fst)
 (bsel (isBytes (bytesF s) && rdOk (unBytes (bytesF s)) (onceV (unBytes (bytesF s)) (onceV (unBytes (bytesF s)) (onceV (unBytes (bytesF s)) p 4).snd 16).snd 16).snd && true)
 (bsel (decide ((cutQ (unQd (F.agg [F.int .i64 mo, F.int .i64 de, F.sl n (offF 0 fun i ↦ itF (o.getD i It.zero)), blocksF bs])) (o.getD 0 It.zero).id).items.length = (cutQ (unQd (F.agg [F.int .i64 mo, F.int .i64 de, F.sl n (offF 0 fun i ↦ itF (o.getD i It.zero)), blocksF bs])) (o.getD 0 It.zero).id).items.length))
 (bsel (decide ((cutQ (unQd (F.agg [F.int .i64 mo, F.int .i64 de, F.sl n (offF 0 fun i ↦ itF (o.getD i It.zero)), blocksF bs])) (o.getD 0 It.zero).id).items.length = (cutQ (unQd (F.agg [F.int .i64 mo, F.int .i64 de, F.sl n (offF 0 fun i ↦ itF (o.getD i It.zero)), blocksF bs])) (o.getD 0 It.zero).id).items.length))
 (bsel (decide ((↑((cutQ (unQd (F.agg [F.int .i64 mo, F.int .i64 de, F.sl n (offF 0 fun i ↦ itF (o.getD i It.zero)), blocksF bs])) (o.getD 0 It.zero).id).items.length + 1) : Int) * (((40 : Nat) : Int) + 1) ≤ (↑limit : Int)))
 (bsel (decide ((cutQ (unQd (F.agg [F.int .i64 mo, F.int .i64 de, F.sl n (offF 0 fun i ↦ itF (o.getD i It.zero)), blocksF bs])) (o.getD 0 It.zero).id).items.length + 1 = (cutQ (unQd (F.agg [F.int .i64 mo, F.int .i64 de, F.sl n (offF 0 fun i ↦ itF (o.getD i It.zero)), blocksF bs])) (o.getD 0 It.zero).id).items.length + 1))
 (ret (F.agg [F.int .i64 (cutQ (unQd (F.agg [F.int .i64 mo, F.int .i64 de, F.sl n (offF 0 fun i ↦ itF (o.getD i It.zero)), blocksF bs])) (o.getD (Int.toNat 0) It.zero).id).most, F.int .i64 (cutQ (unQd (F.agg [F.int .i64 mo, F.int .i64 de, F.sl n (offF 0 fun i ↦ itF (o.getD i It.zero)), blocksF bs])) (o.getD (Int.toNat 0) It.zero).id).deep, F.sl ((cutQ (unQd (F.agg [F.int .i64 mo, F.int .i64 de, F.sl n (offF 0 fun i ↦ itF (o.getD i It.zero)), blocksF bs])) (o.getD (Int.toNat 0) It.zero).id).items.length + 1) fun j ↦ if j < (cutQ (unQd (F.agg [F.int .i64 mo, F.int .i64 de, F.sl n (offF 0 fun i ↦ itF (o.getD i It.zero)), blocksF bs])) (o.getD (Int.toNat 0) It.zero).id).items.length then itF ((cutQ (unQd (F.agg [F.int .i64 mo, F.int .i64 de, F.sl n (offF 0 fun i ↦ itF (o.getD i It.zero)), blocksF bs])) (o.getD (Int.toNat 0) It.zero).id).items.getD j It.zero) else F.agg [F.int .i64 9, F.int .i64 (segV (unBytes (bytesF s)) (onceV (unBytes (bytesF s)) (onceV (unBytes (bytesF s)) (onceV (unBytes (bytesF s)) p 4).snd 16).snd 16).snd).fst, F.int .i64 (segV (unBytes (bytesF s)) (onceV (unBytes (bytesF s)) (onceV (unBytes (bytesF s)) (onceV (unBytes (bytesF s)) p 4).snd 16).snd 16).snd).snd.fst, F.int .i64 (segV (unBytes (bytesF s)) (onceV (unBytes (bytesF s)) (onceV (unBytes (bytesF s)) (onceV (unBytes (bytesF s)) p 4).snd 16).snd 16).snd).snd.snd.fst, F.int .i64 (segV (unBytes (bytesF s)) (onceV (unBytes (bytesF s)) (onceV (unBytes (bytesF s)) (onceV (unBytes (bytesF s)) p 4).snd 16).snd 16).snd).snd.snd.snd.fst], F.sl ((IntKind.i64.wrap ((↑(cutQ (unQd (F.agg [F.int .i64 mo, F.int .i64 de, F.sl n (offF 0 fun i ↦ itF (o.getD i It.zero)), blocksF bs])) (o.getD (Int.toNat 0) It.zero).id).blocks.length : Int) - 1)).toNat - 0) fun j ↦ bkF ((cutQ (unQd (F.agg [F.int .i64 mo, F.int .i64 de, F.sl n (offF 0 fun i ↦ itF (o.getD i It.zero)), blocksF bs])) (o.getD (Int.toNat 0) It.zero).id).blocks.getD (Int.toNat 0 + j) Bk.zero)]) ((resSeg [] (unBytes (bytesF s)) (onceV (unBytes (bytesF s)) (onceV (unBytes (bytesF s)) (onceV (unBytes (bytesF s)) p 4).snd 16).snd 16).snd).snd))
 none)
 none)
 none)
 none)
 none)
 (bsel (decide ((cutQ (unQd (F.agg [F.int .i64 mo, F.int .i64 de, F.sl n (offF 0 fun i ↦ itF (o.getD i It.zero)), blocksF bs])) (o.getD 0 It.zero).id).items.length = (cutQ (unQd (F.agg [F.int .i64 mo, F.int .i64 de, F.sl n (offF 0 fun i ↦ itF (o.getD i It.zero)), blocksF bs])) (o.getD 0 It.zero).id).items.length))
 (ret (F.agg [F.int .i64 (cutQ (unQd (F.agg [F.int .i64 mo, F.int .i64 de, F.sl n (offF 0 fun i ↦ itF (o.getD i It.zero)), blocksF bs])) (o.getD (Int.toNat 0) It.zero).id).most, F.int .i64 (cutQ (unQd (F.agg [F.int .i64 mo, F.int .i64 de, F.sl n (offF 0 fun i ↦ itF (o.getD i It.zero)), blocksF bs])) (o.getD (Int.toNat 0) It.zero).id).deep, itemsF (cutQ (unQd (F.agg [F.int .i64 mo, F.int .i64 de, F.sl n (offF 0 fun i ↦ itF (o.getD i It.zero)), blocksF bs])) (o.getD (Int.toNat 0) It.zero).id).items, F.sl ((IntKind.i64.wrap ((↑(cutQ (unQd (F.agg [F.int .i64 mo, F.int .i64 de, F.sl n (offF 0 fun i ↦ itF (o.getD i It.zero)), blocksF bs])) (o.getD (Int.toNat 0) It.zero).id).blocks.length : Int) - 1)).toNat - 0) fun j ↦ bkF ((cutQ (unQd (F.agg [F.int .i64 mo, F.int .i64 de, F.sl n (offF 0 fun i ↦ itF (o.getD i It.zero)), blocksF bs])) (o.getD (Int.toNat 0) It.zero).id).blocks.getD (Int.toNat 0 + j) Bk.zero)]) ((onceV (unBytes (bytesF s)) (onceV (unBytes (bytesF s)) (onceV (unBytes (bytesF s)) p 4).snd 16).snd 16).snd))
 none))
 none)
 none)
 none)
 (bsel (isBytes (bytesF s) && rdOk (unBytes (bytesF s)) (onceV (unBytes (bytesF s)) (onceV (unBytes (bytesF s)) p 4).snd 16).snd)
 (bsel ((onceV (unBytes (bytesF s)) (onceV (unBytes (bytesF s)) (onceV (unBytes (bytesF s)) p 4).snd 16).snd 16).fst)
 (bsel (isBytes (bytesF s) && rdOk (unBytes (bytesF s)) (onceV (unBytes (bytesF s)) (onceV (unBytes (bytesF s)) (onceV (unBytes (bytesF s)) p 4).snd 16).snd 16).snd && true)
 (bsel (decide ((cutQ (unQd (F.agg [F.int .i64 mo, F.int .i64 de, F.sl n (offF 0 fun i ↦ itF (o.getD i It.zero)), blocksF bs])) (o.getD 0 It.zero).id).items.length = (cutQ (unQd (F.agg [F.int .i64 mo, F.int .i64 de, F.sl n (offF 0 fun i ↦ itF (o.getD i It.zero)), blocksF bs])) (o.getD 0 It.zero).id).items.length))
 (bsel (decide ((cutQ (unQd (F.agg [F.int .i64 mo, F.int .i64 de, F.sl n (offF 0 fun i ↦ itF (o.getD i It.zero)), blocksF bs])) (o.getD 0 It.zero).id).items.length = (cutQ (unQd (F.agg [F.int .i64 mo, F.int .i64 de, F.sl n (offF 0 fun i ↦ itF (o.getD i It.zero)), blocksF bs])) (o.getD 0 It.zero).id).items.length))
 (bsel (decide ((↑((cutQ (unQd (F.agg [F.int .i64 mo, F.int .i64 de, F.sl n (offF 0 fun i ↦ itF (o.getD i It.zero)), blocksF bs])) (o.getD 0 It.zero).id).items.length + 1) : Int) * (((40 : Nat) : Int) + 1) ≤ (↑limit : Int)))
 (bsel (decide ((cutQ (unQd (F.agg [F.int .i64 mo, F.int .i64 de, F.sl n (offF 0 fun i ↦ itF (o.getD i It.zero)), blocksF bs])) (o.getD 0 It.zero).id).items.length + 1 = (cutQ (unQd (F.agg [F.int .i64 mo, F.int .i64 de, F.sl n (offF 0 fun i ↦ itF (o.getD i It.zero)), blocksF bs])) (o.getD 0 It.zero).id).items.length + 1))
 (ret (F.agg [F.int .i64 (cutQ (unQd (F.agg [F.int .i64 mo, F.int .i64 de, F.sl n (offF 0 fun i ↦ itF (o.getD i It.zero)), blocksF bs])) (o.getD (Int.toNat 0) It.zero).id).most, F.int .i64 (cutQ (unQd (F.agg [F.int .i64 mo, F.int .i64 de, F.sl n (offF 0 fun i ↦ itF (o.getD i It.zero)), blocksF bs])) (o.getD (Int.toNat 0) It.zero).id).deep, F.sl ((cutQ (unQd (F.agg [F.int .i64 mo, F.int .i64 de, F.sl n (offF 0 fun i ↦ itF (o.getD i It.zero)), blocksF bs])) (o.getD (Int.toNat 0) It.zero).id).items.length + 1) fun j ↦ if j < (cutQ (unQd (F.agg [F.int .i64 mo, F.int .i64 de, F.sl n (offF 0 fun i ↦ itF (o.getD i It.zero)), blocksF bs])) (o.getD (Int.toNat 0) It.zero).id).items.length then itF ((cutQ (unQd (F.agg [F.int .i64 mo, F.int .i64 de, F.sl n (offF 0 fun i ↦ itF (o.getD i It.zero)), blocksF bs])) (o.getD (Int.toNat 0) It.zero).id).items.getD j It.zero) else F.agg [F.int .i64 9, F.int .i64 (segV (unBytes (bytesF s)) (onceV (unBytes (bytesF s)) (onceV (unBytes (bytesF s)) (onceV (unBytes (bytesF s)) p 4).snd 16).snd 16).snd).fst, F.int .i64 (segV (unBytes (bytesF s)) (onceV (unBytes (bytesF s)) (onceV (unBytes (bytesF s)) (onceV (unBytes (bytesF s)) p 4).snd 16).snd 16).snd).snd.fst, F.int .i64 (segV (unBytes (bytesF s)) (onceV (unBytes (bytesF s)) (onceV (unBytes (bytesF s)) (onceV (unBytes (bytesF s)) p 4).snd 16).snd 16).snd).snd.snd.fst, F.int .i64 (segV (unBytes (bytesF s)) (onceV (unBytes (bytesF s)) (onceV (unBytes (bytesF s)) (onceV (unBytes (bytesF s)) p 4).snd 16).snd 16).snd).snd.snd.snd.fst], blocksF (cutQ (unQd (F.agg [F.int .i64 mo, F.int .i64 de, F.sl n (offF 0 fun i ↦ itF (o.getD i It.zero)), blocksF bs])) (o.getD (Int.toNat 0) It.zero).id).blocks]) ((resSeg [] (unBytes (bytesF s)) (onceV (unBytes (bytesF s)) (onceV (unBytes (bytesF s)) (onceV (unBytes (bytesF s)) p 4).snd 16).snd 16).snd).snd))
 none)
 none)
 none)
 none)
 none)
 (bsel (decide ((cutQ (unQd (F.agg [F.int .i64 mo, F.int .i64 de, F.sl n (offF 0 fun i ↦ itF (o.getD i It.zero)), blocksF bs])) (o.getD 0 It.zero).id).items.length = (cutQ (unQd (F.agg [F.int .i64 mo, F.int .i64 de, F.sl n (offF 0 fun i ↦ itF (o.getD i It.zero)), blocksF bs])) (o.getD 0 It.zero).id).items.length))
 (ret (qdF (cutQ (unQd (F.agg [F.int .i64 mo, F.int .i64 de, F.sl n (offF 0 fun i ↦ itF (o.getD i It.zero)), blocksF bs])) (o.getD (Int.toNat 0) It.zero).id)) ((onceV (unBytes (bytesF s)) (onceV (unBytes (bytesF s)) (onceV (unBytes (bytesF s)) p 4).snd 16).snd 16).snd))
 none))
 none))
 (bsel (isBytes (bytesF s) && rdOk (unBytes (bytesF s)) (onceV (unBytes (bytesF s)) (onceV (unBytes (bytesF s)) p 4).snd 16).snd)
 (bsel ((onceV (unBytes (bytesF s)) (onceV (unBytes (bytesF s)) (onceV (unBytes (bytesF s)) p 4).snd 16).snd 16).fst)
 (bsel (isBytes (bytesF s) && rdOk (unBytes (bytesF s)) (onceV (unBytes (bytesF s)) (onceV (unBytes (bytesF s)) (onceV (unBytes (bytesF s)) p 4).snd 16).snd 16).snd && true)
 (bsel (decide ((cutQ (unQd (F.agg [F.int .i64 mo, F.int .i64 de, F.sl n (offF 0 fun i ↦ itF (o.getD i It.zero)), blocksF bs])) (o.getD 0 It.zero).id).items.length = (cutQ (unQd (F.agg [F.int .i64 mo, F.int .i64 de, F.sl n (offF 0 fun i ↦ itF (o.getD i It.zero)), blocksF bs])) (o.getD 0 It.zero).id).items.length))
 (bsel (decide ((cutQ (unQd (F.agg [F.int .i64 mo, F.int .i64 de, F.sl n (offF 0 fun i ↦ itF (o.getD i It.zero)), blocksF bs])) (o.getD 0 It.zero).id).items.length = (cutQ (unQd (F.agg [F.int .i64 mo, F.int .i64 de, F.sl n (offF 0 fun i ↦ itF (o.getD i It.zero)), blocksF bs])) (o.getD 0 It.zero).id).items.length))
 (bsel (decide ((↑((cutQ (unQd (F.agg [F.int .i64 mo, F.int .i64 de, F.sl n (offF 0 fun i ↦ itF (o.getD i It.zero)), blocksF bs])) (o.getD 0 It.zero).id).items.length + 1) : Int) * (((40 : Nat) : Int) + 1) ≤ (↑limit : Int)))
 (bsel (decide ((cutQ (unQd (F.agg [F.int .i64 mo, F.int .i64 de, F.sl n (offF 0 fun i ↦ itF (o.getD i It.zero)), blocksF bs])) (o.getD 0 It.zero).id).items.length + 1 = (cutQ (unQd (F.agg [F.int .i64 mo, F.int .i64 de, F.sl n (offF 0 fun i ↦ itF (o.getD i It.zero)), blocksF bs])) (o.getD 0 It.zero).id).items.length + 1))
 (ret (F.agg [F.int .i64 (cutQ (unQd (F.agg [F.int .i64 mo, F.int .i64 de, F.sl n (offF 0 fun i ↦ itF (o.getD i It.zero)), blocksF bs])) (o.getD (Int.toNat 0) It.zero).id).most, F.int .i64 (cutQ (unQd (F.agg [F.int .i64 mo, F.int .i64 de, F.sl n (offF 0 fun i ↦ itF (o.getD i It.zero)), blocksF bs])) (o.getD (Int.toNat 0) It.zero).id).deep, F.sl ((cutQ (unQd (F.agg [F.int .i64 mo, F.int .i64 de, F.sl n (offF 0 fun i ↦ itF (o.getD i It.zero)), blocksF bs])) (o.getD (Int.toNat 0) It.zero).id).items.length + 1) fun j ↦ if j < (cutQ (unQd (F.agg [F.int .i64 mo, F.int .i64 de, F.sl n (offF 0 fun i ↦ itF (o.getD i It.zero)), blocksF bs])) (o.getD (Int.toNat 0) It.zero).id).items.length then itF ((cutQ (unQd (F.agg [F.int .i64 mo, F.int .i64 de, F.sl n (offF 0 fun i ↦ itF (o.getD i It.zero)), blocksF bs])) (o.getD (Int.toNat 0) It.zero).id).items.getD j It.zero) else F.agg [F.int .i64 9, F.int .i64 (segV (unBytes (bytesF s)) (onceV (unBytes (bytesF s)) (onceV (unBytes (bytesF s)) (onceV (unBytes (bytesF s)) p 4).snd 16).snd 16).snd).fst, F.int .i64 (segV (unBytes (bytesF s)) (onceV (unBytes (bytesF s)) (onceV (unBytes (bytesF s)) (onceV (unBytes (bytesF s)) p 4).snd 16).snd 16).snd).snd.fst, F.int .i64 (segV (unBytes (bytesF s)) (onceV (unBytes (bytesF s)) (onceV (unBytes (bytesF s)) (onceV (unBytes (bytesF s)) p 4).snd 16).snd 16).snd).snd.snd.fst, F.int .i64 (segV (unBytes (bytesF s)) (onceV (unBytes (bytesF s)) (onceV (unBytes (bytesF s)) (onceV (unBytes (bytesF s)) p 4).snd 16).snd 16).snd).snd.snd.snd.fst], blocksF (cutQ (unQd (F.agg [F.int .i64 mo, F.int .i64 de, F.sl n (offF 0 fun i ↦ itF (o.getD i It.zero)), blocksF bs])) (o.getD (Int.toNat 0) It.zero).id).blocks]) ((resSeg [] (unBytes (bytesF s)) (onceV (unBytes (bytesF s)) (onceV (unBytes (bytesF s)) (onceV (unBytes (bytesF s)) p 4).snd 16).snd 16).snd).snd))
 none)
 none)
 none)
 none)
 none)
 (bsel (decide ((cutQ (unQd (F.agg [F.int .i64 mo, F.int .i64 de, F.sl n (offF 0 fun i ↦ itF (o.getD i It.zero)), blocksF bs])) (o.getD 0 It.zero).id).items.length = (cutQ (unQd (F.agg [F.int .i64 mo, F.int .i64 de, F.sl n (offF 0 fun i ↦ itF (o.getD i It.zero)), blocksF bs])) (o.getD 0 It.zero).id).items.length))
 (ret (qdF (cutQ (unQd (F.agg [F.int .i64 mo, F.int .i64 de, F.sl n (offF 0 fun i ↦ itF (o.getD i It.zero)), blocksF bs])) (o.getD (Int.toNat 0) It.zero).id)) ((onceV (unBytes (bytesF s)) (onceV (unBytes (bytesF s)) (onceV (unBytes (bytesF s)) p 4).snd 16).snd 16).snd))
 none))
 none))
 none)
 (bsel (decide (n = n))
 (bsel (decide (0 < (↑n : Int)))
 (bsel (decide (n = n))
 (bsel (decide (n = n))
 (bsel (decide (0 + 0 < n))
 (bsel (decide (n = n))
 (bsel (isQd (F.agg [F.int .i64 mo, F.int .i64 de, F.sl n (offF 0 fun i ↦ itF (o.getD i It.zero)), blocksF bs]) && allShortV (unQd (F.agg [F.int .i64 mo, F.int .i64 de, F.sl n (offF 0 fun i ↦ itF (o.getD i It.zero)), blocksF bs])).blocks)
 (bsel (cutOkV (unQd (F.agg [F.int .i64 mo, F.int .i64 de, F.sl n (offF 0 fun i ↦ itF (o.getD i It.zero)), blocksF bs])) (o.getD (0 + Int.toNat 0) It.zero).id)
 none
 (bsel (isBytes (bytesF s) && rdOk (unBytes (bytesF s)) (onceV (unBytes (bytesF s)) p 4).snd)
 (bsel ((onceV (unBytes (bytesF s)) (onceV (unBytes (bytesF s)) p 4).snd 16).fst == true)
 (bsel (isBytes (bytesF s) && rdOk (unBytes (bytesF s)) (onceV (unBytes (bytesF s)) (onceV (unBytes (bytesF s)) p 4).snd 16).snd)
 (bsel ((onceV (unBytes (bytesF s)) (onceV (unBytes (bytesF s)) (onceV (unBytes (bytesF s)) p 4).snd 16).snd 16).fst)
 (bsel (isBytes (bytesF s) && rdOk (unBytes (bytesF s)) (onceV (unBytes (bytesF s)) (onceV (unBytes (bytesF s)) (onceV (unBytes (bytesF s)) p 4).snd 16).snd 16).snd && true)
 (bsel (decide (((1 : Nat) : Int) * (((40 : Nat) : Int) + 1) ≤ (↑limit : Int)))
 (ret (F.agg [F.int .i64 0, F.int .i64 0, F.sl 1 fun x ↦ F.agg [F.int .i64 9, F.int .i64 (segV (unBytes (bytesF s)) (onceV (unBytes (bytesF s)) (onceV (unBytes (bytesF s)) (onceV (unBytes (bytesF s)) p 4).snd 16).snd 16).snd).fst, F.int .i64 (segV (unBytes (bytesF s)) (onceV (unBytes (bytesF s)) (onceV (unBytes (bytesF s)) (onceV (unBytes (bytesF s)) p 4).snd 16).snd 16).snd).snd.fst, F.int .i64 (segV (unBytes (bytesF s)) (onceV (unBytes (bytesF s)) (onceV (unBytes (bytesF s)) (onceV (unBytes (bytesF s)) p 4).snd 16).snd 16).snd).snd.snd.fst, F.int .i64 (segV (unBytes (bytesF s)) (onceV (unBytes (bytesF s)) (onceV (unBytes (bytesF s)) (onceV (unBytes (bytesF s)) p 4).snd 16).snd 16).snd).snd.snd.snd.fst], F.sl 0 fun x ↦ F.bool false]) ((resSeg [] (unBytes (bytesF s)) (onceV (unBytes (bytesF s)) (onceV (unBytes (bytesF s)) (onceV (unBytes (bytesF s)) p 4).snd 16).snd 16).snd).snd))
 none)
 none)
 (ret (F.agg [F.int .i64 0, F.int .i64 0, F.sl 0 fun x ↦ F.bool false, F.sl 0 fun x ↦ F.bool false]) ((onceV (unBytes (bytesF s)) (onceV (unBytes (bytesF s)) (onceV (unBytes (bytesF s)) p 4).snd 16).snd 16).snd)))
 none)
 (bsel (isBytes (bytesF s) && rdOk (unBytes (bytesF s)) (onceV (unBytes (bytesF s)) (onceV (unBytes (bytesF s)) p 4).snd 16).snd)
 (bsel ((onceV (unBytes (bytesF s)) (onceV (unBytes (bytesF s)) (onceV (unBytes (bytesF s)) p 4).snd 16).snd 16).fst)
 (bsel (isBytes (bytesF s) && rdOk (unBytes (bytesF s)) (onceV (unBytes (bytesF s)) (onceV (unBytes (bytesF s)) (onceV (unBytes (bytesF s)) p 4).snd 16).snd 16).snd && true)
 (bsel (decide (((1 : Nat) : Int) * (((40 : Nat) : Int) + 1) ≤ (↑limit : Int)))
 (ret (F.agg [F.int .i64 0, F.int .i64 0, F.sl 1 fun x ↦ F.agg [F.int .i64 9, F.int .i64 (segV (unBytes (bytesF s)) (onceV (unBytes (bytesF s)) (onceV (unBytes (bytesF s)) (onceV (unBytes (bytesF s)) p 4).snd 16).snd 16).snd).fst, F.int .i64 (segV (unBytes (bytesF s)) (onceV (unBytes (bytesF s)) (onceV (unBytes (bytesF s)) (onceV (unBytes (bytesF s)) p 4).snd 16).snd 16).snd).snd.fst, F.int .i64 (segV (unBytes (bytesF s)) (onceV (unBytes (bytesF s)) (onceV (unBytes (bytesF s)) (onceV (unBytes (bytesF s)) p 4).snd 16).snd 16).snd).snd.snd.fst, F.int .i64 (segV (unBytes (bytesF s)) (onceV (unBytes (bytesF s)) (onceV (unBytes (bytesF s)) (onceV (unBytes (bytesF s)) p 4).snd 16).snd 16).snd).snd.snd.snd.fst], F.sl 0 fun x ↦ F.bool false]) ((resSeg [] (unBytes (bytesF s)) (onceV (unBytes (bytesF s)) (onceV (unBytes (bytesF s)) (onceV (unBytes (bytesF s)) p 4).snd 16).snd 16).snd).snd))
 none)
 none)
 (ret (F.agg [F.int .i64 0, F.int .i64 0, F.sl 0 fun x ↦ F.bool false, F.sl 0 fun x ↦ F.bool false]) ((onceV (unBytes (bytesF s)) (onceV (unBytes (bytesF s)) (onceV (unBytes (bytesF s)) p 4).snd 16).snd 16).snd)))
 none))
 none))
 none)
 none)
 none)
 none)
 none)
 none)
 none))
 none)
 none)
 none)
 (bsel (isBytes (bytesF s) && rdOk (unBytes (bytesF s)) (onceV (unBytes (bytesF s)) p 4).snd)
 (bsel ((onceV (unBytes (bytesF s)) (onceV (unBytes (bytesF s)) p 4).snd 16).fst == true)
 (bsel (decide ((↑bs.length : Int) > 1))
 (bsel (decide (0 ≤ IntKind.i64.wrap ((↑bs.length : Int) - 1)))
 (bsel (decide (IntKind.i64.wrap ((↑bs.length : Int) - 1) ≤ (↑bs.length : Int)))
 (bsel (isBytes (bytesF s) && rdOk (unBytes (bytesF s)) (onceV (unBytes (bytesF s)) (onceV (unBytes (bytesF s)) p 4).snd 16).snd)
 (bsel ((onceV (unBytes (bytesF s)) (onceV (unBytes (bytesF s)) (onceV (unBytes (bytesF s)) p 4).snd 16).snd 16).fst)
 (bsel (isBytes (bytesF s) && rdOk (unBytes (bytesF s)) (onceV (unBytes (bytesF s)) (onceV (unBytes (bytesF s)) (onceV (unBytes (bytesF s)) p 4).snd 16).snd 16).snd && true)
 (bsel (decide (n = n))
 (bsel (decide (n = n))
 (bsel (decide ((↑(n + 1) : Int) * (((40 : Nat) : Int) + 1) ≤ (↑limit : Int)))
 (bsel (decide (n + 1 = n + 1))
 (ret (F.agg [F.int .i64 mo, F.int .i64 de, F.sl (n + 1) fun j ↦ if j < n then itF (o.getD j It.zero) else F.agg [F.int .i64 9, F.int .i64 (segV (unBytes (bytesF s)) (onceV (unBytes (bytesF s)) (onceV (unBytes (bytesF s)) (onceV (unBytes (bytesF s)) p 4).snd 16).snd 16).snd).fst, F.int .i64 (segV (unBytes (bytesF s)) (onceV (unBytes (bytesF s)) (onceV (unBytes (bytesF s)) (onceV (unBytes (bytesF s)) p 4).snd 16).snd 16).snd).snd.fst, F.int .i64 (segV (unBytes (bytesF s)) (onceV (unBytes (bytesF s)) (onceV (unBytes (bytesF s)) (onceV (unBytes (bytesF s)) p 4).snd 16).snd 16).snd).snd.snd.fst, F.int .i64 (segV (unBytes (bytesF s)) (onceV (unBytes (bytesF s)) (onceV (unBytes (bytesF s)) (onceV (unBytes (bytesF s)) p 4).snd 16).snd 16).snd).snd.snd.snd.fst], F.sl ((IntKind.i64.wrap ((↑bs.length : Int) - 1)).toNat - 0) fun j ↦ bkF (bs.getD (Int.toNat 0 + j) Bk.zero)]) ((resSeg [] (unBytes (bytesF s)) (onceV (unBytes (bytesF s)) (onceV (unBytes (bytesF s)) (onceV (unBytes (bytesF s)) p 4).snd 16).snd 16).snd).snd))
 none)
 none)
 none)
 none)
 none)
 (bsel (decide (n = n))
 (ret (F.agg [F.int .i64 mo, F.int .i64 de, F.sl n fun i ↦ itF (o.getD i It.zero), F.sl ((IntKind.i64.wrap ((↑bs.length : Int) - 1)).toNat - 0) fun j ↦ bkF (bs.getD (Int.toNat 0 + j) Bk.zero)]) ((onceV (unBytes (bytesF s)) (onceV (unBytes (bytesF s)) (onceV (unBytes (bytesF s)) p 4).snd 16).snd 16).snd))
 none))
 none)
 none)
 none)
 (bsel (isBytes (bytesF s) && rdOk (unBytes (bytesF s)) (onceV (unBytes (bytesF s)) (onceV (unBytes (bytesF s)) p 4).snd 16).snd)
 (bsel ((onceV (unBytes (bytesF s)) (onceV (unBytes (bytesF s)) (onceV (unBytes (bytesF s)) p 4).snd 16).snd 16).fst)
 (bsel (isBytes (bytesF s) && rdOk (unBytes (bytesF s)) (onceV (unBytes (bytesF s)) (onceV (unBytes (bytesF s)) (onceV (unBytes (bytesF s)) p 4).snd 16).snd 16).snd && true)
 (bsel (decide (n = n))
 (bsel (decide (n = n))
 (bsel (decide ((↑(n + 1) : Int) * (((40 : Nat) : Int) + 1) ≤ (↑limit : Int)))
 (bsel (decide (n + 1 = n + 1))
 (ret (F.agg [F.int .i64 mo, F.int .i64 de, F.sl (n + 1) fun j ↦ if j < n then itF (o.getD j It.zero) else F.agg [F.int .i64 9, F.int .i64 (segV (unBytes (bytesF s)) (onceV (unBytes (bytesF s)) (onceV (unBytes (bytesF s)) (onceV (unBytes (bytesF s)) p 4).snd 16).snd 16).snd).fst, F.int .i64 (segV (unBytes (bytesF s)) (onceV (unBytes (bytesF s)) (onceV (unBytes (bytesF s)) (onceV (unBytes (bytesF s)) p 4).snd 16).snd 16).snd).snd.fst, F.int .i64 (segV (unBytes (bytesF s)) (onceV (unBytes (bytesF s)) (onceV (unBytes (bytesF s)) (onceV (unBytes (bytesF s)) p 4).snd 16).snd 16).snd).snd.snd.fst, F.int .i64 (segV (unBytes (bytesF s)) (onceV (unBytes (bytesF s)) (onceV (unBytes (bytesF s)) (onceV (unBytes (bytesF s)) p 4).snd 16).snd 16).snd).snd.snd.snd.fst], blocksF bs]) ((resSeg [] (unBytes (bytesF s)) (onceV (unBytes (bytesF s)) (onceV (unBytes (bytesF s)) (onceV (unBytes (bytesF s)) p 4).snd 16).snd 16).snd).snd))
 none)
 none)
 none)
 none)
 none)
 (bsel (decide (n = n))
 (ret (F.agg [F.int .i64 mo, F.int .i64 de, F.sl n fun i ↦ itF (o.getD i It.zero), blocksF bs]) ((onceV (unBytes (bytesF s)) (onceV (unBytes (bytesF s)) (onceV (unBytes (bytesF s)) p 4).snd 16).snd 16).snd))
 none))
 none))
 (bsel (isBytes (bytesF s) && rdOk (unBytes (bytesF s)) (onceV (unBytes (bytesF s)) (onceV (unBytes (bytesF s)) p 4).snd 16).snd)
 (bsel ((onceV (unBytes (bytesF s)) (onceV (unBytes (bytesF s)) (onceV (unBytes (bytesF s)) p 4).snd 16).snd 16).fst)
 (bsel (isBytes (bytesF s) && rdOk (unBytes (bytesF s)) (onceV (unBytes (bytesF s)) (onceV (unBytes (bytesF s)) (onceV (unBytes (bytesF s)) p 4).snd 16).snd 16).snd && true)
 (bsel (decide (n = n))
 (bsel (decide (n = n))
 (bsel (decide ((↑(n + 1) : Int) * (((40 : Nat) : Int) + 1) ≤ (↑limit : Int)))
 (bsel (decide (n + 1 = n + 1))
 (ret (F.agg [F.int .i64 mo, F.int .i64 de, F.sl (n + 1) fun j ↦ if j < n then itF (o.getD j It.zero) else F.agg [F.int .i64 9, F.int .i64 (segV (unBytes (bytesF s)) (onceV (unBytes (bytesF s)) (onceV (unBytes (bytesF s)) (onceV (unBytes (bytesF s)) p 4).snd 16).snd 16).snd).fst, F.int .i64 (segV (unBytes (bytesF s)) (onceV (unBytes (bytesF s)) (onceV (unBytes (bytesF s)) (onceV (unBytes (bytesF s)) p 4).snd 16).snd 16).snd).snd.fst, F.int .i64 (segV (unBytes (bytesF s)) (onceV (unBytes (bytesF s)) (onceV (unBytes (bytesF s)) (onceV (unBytes (bytesF s)) p 4).snd 16).snd 16).snd).snd.snd.fst, F.int .i64 (segV (unBytes (bytesF s)) (onceV (unBytes (bytesF s)) (onceV (unBytes (bytesF s)) (onceV (unBytes (bytesF s)) p 4).snd 16).snd 16).snd).snd.snd.snd.fst], blocksF bs]) ((resSeg [] (unBytes (bytesF s)) (onceV (unBytes (bytesF s)) (onceV (unBytes (bytesF s)) (onceV (unBytes (bytesF s)) p 4).snd 16).snd 16).snd).snd))
 none)
 none)
 none)
 none)
 none)
 (bsel (decide (n = n))
 (ret (F.agg [F.int .i64 mo, F.int .i64 de, F.sl n fun i ↦ itF (o.getD i It.zero), blocksF bs]) ((onceV (unBytes (bytesF s)) (onceV (unBytes (bytesF s)) (onceV (unBytes (bytesF s)) p 4).snd 16).snd 16).snd))
 none))
 none))
 none))
 none)
 (bsel (isBytes (bytesF s) && rdOk (unBytes (bytesF s)) (onceV (unBytes (bytesF s)) p 4).snd)
 (bsel ((onceV (unBytes (bytesF s)) (onceV (unBytes (bytesF s)) p 4).snd 16).fst == true)
 (bsel (decide ((↑bs.length : Int) > 1))
 (bsel (decide (0 ≤ IntKind.i64.wrap ((↑bs.length : Int) - 1)))
 (bsel (decide (IntKind.i64.wrap ((↑bs.length : Int) - 1) ≤ (↑bs.length : Int)))
 (bsel (isBytes (bytesF s) && rdOk (unBytes (bytesF s)) (onceV (unBytes (bytesF s)) (onceV (unBytes (bytesF s)) p 4).snd 16).snd)
 (bsel ((onceV (unBytes (bytesF s)) (onceV (unBytes (bytesF s)) (onceV (unBytes (bytesF s)) p 4).snd 16).snd 16).fst)
 (bsel (isBytes (bytesF s) && rdOk (unBytes (bytesF s)) (onceV (unBytes (bytesF s)) (onceV (unBytes (bytesF s)) (onceV (unBytes (bytesF s)) p 4).snd 16).snd 16).snd && true)
 (bsel (decide (n = n))
 (bsel (decide (n = n))
 (bsel (decide ((↑(n + 1) : Int) * (((40 : Nat) : Int) + 1) ≤ (↑limit : Int)))
 (bsel (decide (n + 1 = n + 1))
 (ret (F.agg [F.int .i64 mo, F.int .i64 de, F.sl (n + 1) fun j ↦ if j < n then itF (o.getD j It.zero) else F.agg [F.int .i64 9, F.int .i64 (segV (unBytes (bytesF s)) (onceV (unBytes (bytesF s)) (onceV (unBytes (bytesF s)) (onceV (unBytes (bytesF s)) p 4).snd 16).snd 16).snd).fst, F.int .i64 (segV (unBytes (bytesF s)) (onceV (unBytes (bytesF s)) (onceV (unBytes (bytesF s)) (onceV (unBytes (bytesF s)) p 4).snd 16).snd 16).snd).snd.fst, F.int .i64 (segV (unBytes (bytesF s)) (onceV (unBytes (bytesF s)) (onceV (unBytes (bytesF s)) (onceV (unBytes (bytesF s)) p 4).snd 16).snd 16).snd).snd.snd.fst, F.int .i64 (segV (unBytes (bytesF s)) (onceV (unBytes (bytesF s)) (onceV (unBytes (bytesF s)) (onceV (unBytes (bytesF s)) p 4).snd 16).snd 16).snd).snd.snd.snd.fst], F.sl ((IntKind.i64.wrap ((↑bs.length : Int) - 1)).toNat - 0) fun j ↦ bkF (bs.getD (Int.toNat 0 + j) Bk.zero)]) ((resSeg [] (unBytes (bytesF s)) (onceV (unBytes (bytesF s)) (onceV (unBytes (bytesF s)) (onceV (unBytes (bytesF s)) p 4).snd 16).snd 16).snd).snd))
 none)
 none)
 none)
 none)
 none)
 (bsel (decide (n = n))
 (ret (F.agg [F.int .i64 mo, F.int .i64 de, F.sl n fun i ↦ itF (o.getD i It.zero), F.sl ((IntKind.i64.wrap ((↑bs.length : Int) - 1)).toNat - 0) fun j ↦ bkF (bs.getD (Int.toNat 0 + j) Bk.zero)]) ((onceV (unBytes (bytesF s)) (onceV (unBytes (bytesF s)) (onceV (unBytes (bytesF s)) p 4).snd 16).snd 16).snd))
 none))
 none)
 none)
 none)
 (bsel (isBytes (bytesF s) && rdOk (unBytes (bytesF s)) (onceV (unBytes (bytesF s)) (onceV (unBytes (bytesF s)) p 4).snd 16).snd)
 (bsel ((onceV (unBytes (bytesF s)) (onceV (unBytes (bytesF s)) (onceV (unBytes (bytesF s)) p 4).snd 16).snd 16).fst)
 (bsel (isBytes (bytesF s) && rdOk (unBytes (bytesF s)) (onceV (unBytes (bytesF s)) (onceV (unBytes (bytesF s)) (onceV (unBytes (bytesF s)) p 4).snd 16).snd 16).snd && true)
 (bsel (decide (n = n))
 (bsel (decide (n = n))
 (bsel (decide ((↑(n + 1) : Int) * (((40 : Nat) : Int) + 1) ≤ (↑limit : Int)))
 (bsel (decide (n + 1 = n + 1))
 (ret (F.agg [F.int .i64 mo, F.int .i64 de, F.sl (n + 1) fun j ↦ if j < n then itF (o.getD j It.zero) else F.agg [F.int .i64 9, F.int .i64 (segV (unBytes (bytesF s)) (onceV (unBytes (bytesF s)) (onceV (unBytes (bytesF s)) (onceV (unBytes (bytesF s)) p 4).snd 16).snd 16).snd).fst, F.int .i64 (segV (unBytes (bytesF s)) (onceV (unBytes (bytesF s)) (onceV (unBytes (bytesF s)) (onceV (unBytes (bytesF s)) p 4).snd 16).snd 16).snd).snd.fst, F.int .i64 (segV (unBytes (bytesF s)) (onceV (unBytes (bytesF s)) (onceV (unBytes (bytesF s)) (onceV (unBytes (bytesF s)) p 4).snd 16).snd 16).snd).snd.snd.fst, F.int .i64 (segV (unBytes (bytesF s)) (onceV (unBytes (bytesF s)) (onceV (unBytes (bytesF s)) (onceV (unBytes (bytesF s)) p 4).snd 16).snd 16).snd).snd.snd.snd.fst], blocksF bs]) ((resSeg [] (unBytes (bytesF s)) (onceV (unBytes (bytesF s)) (onceV (unBytes (bytesF s)) (onceV (unBytes (bytesF s)) p 4).snd 16).snd 16).snd).snd))
 none)
 none)
 none)
 none)
 none)
 (bsel (decide (n = n))
 (ret (F.agg [F.int .i64 mo, F.int .i64 de, F.sl n fun i ↦ itF (o.getD i It.zero), blocksF bs]) ((onceV (unBytes (bytesF s)) (onceV (unBytes (bytesF s)) (onceV (unBytes (bytesF s)) p 4).snd 16).snd 16).snd))
 none))
 none))
 (bsel (isBytes (bytesF s) && rdOk (unBytes (bytesF s)) (onceV (unBytes (bytesF s)) (onceV (unBytes (bytesF s)) p 4).snd 16).snd)
 (bsel ((onceV (unBytes (bytesF s)) (onceV (unBytes (bytesF s)) (onceV (unBytes (bytesF s)) p 4).snd 16).snd 16).fst)
 (bsel (isBytes (bytesF s) && rdOk (unBytes (bytesF s)) (onceV (unBytes (bytesF s)) (onceV (unBytes (bytesF s)) (onceV (unBytes (bytesF s)) p 4).snd 16).snd 16).snd && true)
 (bsel (decide (n = n))
 (bsel (decide (n = n))
 (bsel (decide ((↑(n + 1) : Int) * (((40 : Nat) : Int) + 1) ≤ (↑limit : Int)))
 (bsel (decide (n + 1 = n + 1))
 (ret (F.agg [F.int .i64 mo, F.int .i64 de, F.sl (n + 1) fun j ↦ if j < n then itF (o.getD j It.zero) else F.agg [F.int .i64 9, F.int .i64 (segV (unBytes (bytesF s)) (onceV (unBytes (bytesF s)) (onceV (unBytes (bytesF s)) (onceV (unBytes (bytesF s)) p 4).snd 16).snd 16).snd).fst, F.int .i64 (segV (unBytes (bytesF s)) (onceV (unBytes (bytesF s)) (onceV (unBytes (bytesF s)) (onceV (unBytes (bytesF s)) p 4).snd 16).snd 16).snd).snd.fst, F.int .i64 (segV (unBytes (bytesF s)) (onceV (unBytes (bytesF s)) (onceV (unBytes (bytesF s)) (onceV (unBytes (bytesF s)) p 4).snd 16).snd 16).snd).snd.snd.fst, F.int .i64 (segV (unBytes (bytesF s)) (onceV (unBytes (bytesF s)) (onceV (unBytes (bytesF s)) (onceV (unBytes (bytesF s)) p 4).snd 16).snd 16).snd).snd.snd.snd.fst], blocksF bs]) ((resSeg [] (unBytes (bytesF s)) (onceV (unBytes (bytesF s)) (onceV (unBytes (bytesF s)) (onceV (unBytes (bytesF s)) p 4).snd 16).snd 16).snd).snd))
 none)
 none)
 none)
 none)
 none)
 (bsel (decide (n = n))
 (ret (F.agg [F.int .i64 mo, F.int .i64 de, F.sl n fun i ↦ itF (o.getD i It.zero), blocksF bs]) ((onceV (unBytes (bytesF s)) (onceV (unBytes (bytesF s)) (onceV (unBytes (bytesF s)) p 4).snd 16).snd 16).snd))
 none))
 none))
 none))
 none))
mutual
def L11_4z : Nat → (ByteArray) → (Int) → (Int) → (Int) → (Int) → (Int) → Option ((F) × (Int))
  | 0, _, _, _, _, _, _ => none
  | k + 1, s, p, mo, de, cn, i => T11_4z (fun rt pq => some (rt, pq)) (L11_4z k) (L11_4a k) (L11_4b k) s p mo de cn i
def L11_4a : Nat → (ByteArray) → (Int) → (Int) → (Int) → (Int) → (Int) → Option ((F) × (Int))
  | 0, _, _, _, _, _, _ => none
  | k + 1, s, p, mo, de, cn, i => T11_4a (fun rt pq => some (rt, pq)) (L11_4z k) (L11_4a k) (L11_4b k) s p mo de cn i
def L11_4b : Nat → (ByteArray) → (Int) → (Int) → (Int) → (Nat) → (Nat → F) → (List Bk) → (Int) → (Int) → Option ((F) × (Int))
  | 0, _, _, _, _, _, _, _, _, _ => none
  | k + 1, s, p, mo, de, n, ig, bs, cn, i => bsel (isItems (F.sl n ig)) (T11_4b (fun rt pq => some (rt, pq)) (L11_4z k) (L11_4a k) (L11_4b k) s p mo de n (unItems (F.sl n ig)) bs cn i) none
end
def T11 {ρ : Type} (ret : (F) → (Int) → Option ρ) (c4z : KJ81 ρ) (c4a : KJ81 ρ) (c4b : KJ82 ρ) (s : ByteArray) (p : Int) : Option ρ :=
 (bsel (isBytes (bytesF s) && rdOk (unBytes (bytesF s)) p)
 (bsel (isBytes (bytesF s) && rdOk (unBytes (bytesF s)) (belowV (unBytes (bytesF s)) p 3).snd)
 (bsel (limitsV (IntKind.i64.wrap (1 + (belowV (unBytes (bytesF s)) p 3).fst)) (belowV (unBytes (bytesF s)) (belowV (unBytes (bytesF s)) p 3).snd 6).fst)
 (bsel (isBytes (bytesF s) && rdOk (unBytes (bytesF s)) (belowV (unBytes (bytesF s)) (belowV (unBytes (bytesF s)) p 3).snd 6).snd)
 (c4a (s) ((belowV (unBytes (bytesF s)) (belowV (unBytes (bytesF s)) (belowV (unBytes (bytesF s)) p 3).snd 6).snd 8).snd) (IntKind.i64.wrap (1 + (belowV (unBytes (bytesF s)) p 3).fst)) ((belowV (unBytes (bytesF s)) (belowV (unBytes (bytesF s)) p 3).snd 6).fst) ((belowV (unBytes (bytesF s)) (belowV (unBytes (bytesF s)) (belowV (unBytes (bytesF s)) p 3).snd 6).snd 8).fst) (0))
 none)
 (bsel (isBytes (bytesF s) && rdOk (unBytes (bytesF s)) (belowV (unBytes (bytesF s)) (belowV (unBytes (bytesF s)) p 3).snd 6).snd)
 (c4z (s) ((belowV (unBytes (bytesF s)) (belowV (unBytes (bytesF s)) (belowV (unBytes (bytesF s)) p 3).snd 6).snd 8).snd) (0) (0) ((belowV (unBytes (bytesF s)) (belowV (unBytes (bytesF s)) (belowV (unBytes (bytesF s)) p 3).snd 6).snd 8).fst) (0))
 none))
 none)
 none)
def G11 (k : Nat) (s : ByteArray) (p : Int) : Option ((F) × (Int)) := T11 (fun rt pq => some (rt, pq)) (L11_4z k) (L11_4a k) (L11_4b k) s p
mutual
theorem t11_4z : ∀ (k : Nat) (s : ByteArray) (p : Int) (mo : Int) (de : Int) (cn : Int) (i : Int) (rt : F) (pq : Int), L11_4z k s p mo de cn i = some (rt, pq) → EndsN Try.prog 1 Try.f11.results.toList (at_ Try.f11 4) (S11_4z s p mo de cn i) (F.tup [rt, F.agg [bytesF s, F.int .i64 pq]])
  | 0, _, _, _, _, _, _, _, _, h => nomatch h
  | k + 1, s, p, mo, de, cn, i, rt, pq, h => by
    refine Ends.of_cut tyOK envB6_ok (T := [(4, [0, 2, 3, 5, 6], 1000)]) (n := 200) ?_
    have e : runCut Try.prog (tiOf Try.prog) envB6 [(4, [0, 2, 3, 5, 6], 1000)] 1 Try.f11.results.toList some 200 (at_ Try.f11 4) (S11_4z s p mo de cn i) = T11_4z (fun rt pq => some (.ret (F.tup [rt, F.agg [bytesF s, F.int .i64 pq]]))) (fun s p mo de cn i => some (.cut (at_ Try.f11 4) (S11_4z s p mo de cn i))) (fun s p mo de cn i => some (.cut (at_ Try.f11 4) (S11_4a s p mo de cn i))) (fun s p mo de n ig bs cn i => some (.cut (at_ Try.f11 4) (S11_4b s p mo de n ig bs cn i))) s p mo de cn i := by kernel_rfl
    rw [e]
    exact (good_sel h (fun _ h => (good_sel h (fun _ h => (good_sel h (fun _ h => (good_sel h (fun _ h => good_cut (t11_4b k _ _ _ _ _ _ _ _ _ rt pq h)) (fun _ h => good_cut (t11_4z k _ _ _ _ _ _ rt pq h)))) (fun _ h => nomatch h))) (fun _ h => nomatch h))) (fun _ h => (good_sel h (fun _ h => (good_sel h (fun _ h => (good_sel h (fun _ h => (good_sel h (fun _ h => (good_sel h (fun _ h => (good_sel h (fun _ h => (good_sel h (fun _ h => (good_sel h (fun _ h => good_ret (by cases h; rfl)) (fun _ h => nomatch h))) (fun _ h => nomatch h))) (fun _ h => good_ret (by cases h; rfl)))) (fun _ h => nomatch h))) (fun _ h => (good_sel h (fun _ h => (good_sel h (fun _ h => (good_sel h (fun _ h => (good_sel h (fun _ h => good_ret (by cases h; rfl)) (fun _ h => nomatch h))) (fun _ h => nomatch h))) (fun _ h => good_ret (by cases h; rfl)))) (fun _ h => nomatch h))))) (fun _ h => nomatch h))) (fun _ h => (good_sel h (fun _ h => (good_sel h (fun _ h => (good_sel h (fun _ h => (good_sel h (fun _ h => (good_sel h (fun _ h => (good_sel h (fun _ h => good_ret (by cases h; rfl)) (fun _ h => nomatch h))) (fun _ h => nomatch h))) (fun _ h => good_ret (by cases h; rfl)))) (fun _ h => nomatch h))) (fun _ h => (good_sel h (fun _ h => (good_sel h (fun _ h => (good_sel h (fun _ h => (good_sel h (fun _ h => good_ret (by cases h; rfl)) (fun _ h => nomatch h))) (fun _ h => nomatch h))) (fun _ h => good_ret (by cases h; rfl)))) (fun _ h => nomatch h))))) (fun _ h => nomatch h))))) (fun _ h => nomatch h))))
theorem t11_4a : ∀ (k : Nat) (s : ByteArray) (p : Int) (mo : Int) (de : Int) (cn : Int) (i : Int) (rt : F) (pq : Int), L11_4a k s p mo de cn i = some (rt, pq) → EndsN Try.prog 1 Try.f11.results.toList (at_ Try.f11 4) (S11_4a s p mo de cn i) (F.tup [rt, F.agg [bytesF s, F.int .i64 pq]])
  | 0, _, _, _, _, _, _, _, _, h => nomatch h
  | k + 1, s, p, mo, de, cn, i, rt, pq, h => by
    refine Ends.of_cut tyOK envB6_ok (T := [(4, [0, 2, 3, 5, 6], 1000)]) (n := 200) ?_
    have e : runCut Try.prog (tiOf Try.prog) envB6 [(4, [0, 2, 3, 5, 6], 1000)] 1 Try.f11.results.toList some 200 (at_ Try.f11 4) (S11_4a s p mo de cn i) = T11_4a (fun rt pq => some (.ret (F.tup [rt, F.agg [bytesF s, F.int .i64 pq]]))) (fun s p mo de cn i => some (.cut (at_ Try.f11 4) (S11_4z s p mo de cn i))) (fun s p mo de cn i => some (.cut (at_ Try.f11 4) (S11_4a s p mo de cn i))) (fun s p mo de n ig bs cn i => some (.cut (at_ Try.f11 4) (S11_4b s p mo de n ig bs cn i))) s p mo de cn i := by kernel_rfl
    rw [e]
    exact (good_sel h (fun _ h => (good_sel h (fun _ h => (good_sel h (fun _ h => (good_sel h (fun _ h => good_cut (t11_4b k _ _ _ _ _ _ _ _ _ rt pq h)) (fun _ h => (good_sel h (fun _ h => (good_sel h (fun _ h => (good_sel h (fun _ h => nomatch h) (fun _ h => good_cut (t11_4a k _ _ _ _ _ _ rt pq h)))) (fun _ h => nomatch h))) (fun _ h => nomatch h))))) (fun _ h => nomatch h))) (fun _ h => nomatch h))) (fun _ h => (good_sel h (fun _ h => (good_sel h (fun _ h => (good_sel h (fun _ h => (good_sel h (fun _ h => (good_sel h (fun _ h => (good_sel h (fun _ h => (good_sel h (fun _ h => (good_sel h (fun _ h => good_ret (by cases h; rfl)) (fun _ h => nomatch h))) (fun _ h => nomatch h))) (fun _ h => good_ret (by cases h; rfl)))) (fun _ h => nomatch h))) (fun _ h => (good_sel h (fun _ h => (good_sel h (fun _ h => (good_sel h (fun _ h => (good_sel h (fun _ h => good_ret (by cases h; rfl)) (fun _ h => nomatch h))) (fun _ h => nomatch h))) (fun _ h => good_ret (by cases h; rfl)))) (fun _ h => nomatch h))))) (fun _ h => nomatch h))) (fun _ h => (good_sel h (fun _ h => (good_sel h (fun _ h => (good_sel h (fun _ h => (good_sel h (fun _ h => (good_sel h (fun _ h => (good_sel h (fun _ h => good_ret (by cases h; rfl)) (fun _ h => nomatch h))) (fun _ h => nomatch h))) (fun _ h => good_ret (by cases h; rfl)))) (fun _ h => nomatch h))) (fun _ h => (good_sel h (fun _ h => (good_sel h (fun _ h => (good_sel h (fun _ h => (good_sel h (fun _ h => good_ret (by cases h; rfl)) (fun _ h => nomatch h))) (fun _ h => nomatch h))) (fun _ h => good_ret (by cases h; rfl)))) (fun _ h => nomatch h))))) (fun _ h => nomatch h))))) (fun _ h => nomatch h))))
theorem t11_4b : ∀ (k : Nat) (s : ByteArray) (p : Int) (mo : Int) (de : Int) (n : Nat) (ig : Nat → F) (bs : List Bk) (cn : Int) (i : Int) (rt : F) (pq : Int), L11_4b k s p mo de n ig bs cn i = some (rt, pq) → EndsN Try.prog 1 Try.f11.results.toList (at_ Try.f11 4) (S11_4b s p mo de n ig bs cn i) (F.tup [rt, F.agg [bytesF s, F.int .i64 pq]])
  | 0, _, _, _, _, _, _, _, _, _, _, _, h => nomatch h
  | k + 1, s, p, mo, de, n, ig, bs, cn, i, rt, pq, h => by
    obtain ⟨hv_ig, h⟩ := bsel_some h
    refine Ends.weak (st' := S11_4bv s p mo de n (unItems (F.sl n ig)) bs cn i) (UsLe.refl _) (HLe.cons (ObLe.refl _) (HLe.cons (ObLe.refl _) (HLe.cons (ObLe.refl _) (HLe.cons (ObLe.arr fun j hj => atItems hv_ig hj) (HLe.nil))))) ?_
    generalize unItems (F.sl n ig) = o at h ⊢
    refine Ends.of_cut tyOK envB6_ok (T := [(4, [0, 2, 3, 5, 6], 1000)]) (n := 200) ?_
    have e : runCut Try.prog (tiOf Try.prog) envB6 [(4, [0, 2, 3, 5, 6], 1000)] 1 Try.f11.results.toList some 200 (at_ Try.f11 4) (S11_4bv s p mo de n o bs cn i) = T11_4b (fun rt pq => some (.ret (F.tup [rt, F.agg [bytesF s, F.int .i64 pq]]))) (fun s p mo de cn i => some (.cut (at_ Try.f11 4) (S11_4z s p mo de cn i))) (fun s p mo de cn i => some (.cut (at_ Try.f11 4) (S11_4a s p mo de cn i))) (fun s p mo de n ig bs cn i => some (.cut (at_ Try.f11 4) (S11_4b s p mo de n ig bs cn i))) s p mo de n o bs cn i := by kernel_rfl
    rw [e]
    exact (good_sel h (fun _ h => (good_sel h (fun _ h => (good_sel h (fun _ h => (good_sel h (fun _ h => (good_sel h (fun _ h => (good_sel h (fun _ h => good_cut (t11_4b k _ _ _ _ _ _ _ _ _ rt pq h)) (fun _ h => (good_sel h (fun _ h => (good_sel h (fun _ h => (good_sel h (fun _ h => (good_sel h (fun _ h => (good_sel h (fun _ h => nomatch h) (fun _ h => good_cut (t11_4b k _ _ _ _ _ _ _ _ _ rt pq h)))) (fun _ h => nomatch h))) (fun _ h => nomatch h))) (fun _ h => nomatch h))) (fun _ h => nomatch h))))) (fun _ h => nomatch h))) (fun _ h => nomatch h))) (fun _ h => nomatch h))) (fun _ h => nomatch h))) (fun _ h => (good_sel h (fun _ h => (good_sel h (fun _ h => (good_sel h (fun _ h => (good_sel h (fun _ h => (good_sel h (fun _ h => (good_sel h (fun _ h => (good_sel h (fun _ h => (good_sel h (fun _ h => (good_sel h (fun _ h => (good_sel h (fun _ h => (good_sel h (fun _ h => (good_sel h (fun _ h => (good_sel h (fun _ h => (good_sel h (fun _ h => (good_sel h (fun _ h => (good_sel h (fun _ h => (good_sel h (fun _ h => (good_sel h (fun _ h => (good_sel h (fun _ h => (good_sel h (fun _ h => good_ret (by cases h; rfl)) (fun _ h => nomatch h))) (fun _ h => nomatch h))) (fun _ h => nomatch h))) (fun _ h => nomatch h))) (fun _ h => nomatch h))) (fun _ h => (good_sel h (fun _ h => good_ret (by cases h; rfl)) (fun _ h => nomatch h))))) (fun _ h => nomatch h))) (fun _ h => nomatch h))) (fun _ h => nomatch h))) (fun _ h => (good_sel h (fun _ h => (good_sel h (fun _ h => (good_sel h (fun _ h => (good_sel h (fun _ h => (good_sel h (fun _ h => (good_sel h (fun _ h => (good_sel h (fun _ h => good_ret (by cases h; rfl)) (fun _ h => nomatch h))) (fun _ h => nomatch h))) (fun _ h => nomatch h))) (fun _ h => nomatch h))) (fun _ h => nomatch h))) (fun _ h => (good_sel h (fun _ h => good_ret (by cases h; rfl)) (fun _ h => nomatch h))))) (fun _ h => nomatch h))))) (fun _ h => (good_sel h (fun _ h => (good_sel h (fun _ h => (good_sel h (fun _ h => (good_sel h (fun _ h => (good_sel h (fun _ h => (good_sel h (fun _ h => (good_sel h (fun _ h => good_ret (by cases h; rfl)) (fun _ h => nomatch h))) (fun _ h => nomatch h))) (fun _ h => nomatch h))) (fun _ h => nomatch h))) (fun _ h => nomatch h))) (fun _ h => (good_sel h (fun _ h => good_ret (by cases h; rfl)) (fun _ h => nomatch h))))) (fun _ h => nomatch h))))) (fun _ h => nomatch h))) (fun _ h => (good_sel h (fun _ h => (good_sel h (fun _ h => (good_sel h (fun _ h => (good_sel h (fun _ h => (good_sel h (fun _ h => (good_sel h (fun _ h => (good_sel h (fun _ h => (good_sel h (fun _ h => nomatch h) (fun _ h => (good_sel h (fun _ h => (good_sel h (fun _ h => (good_sel h (fun _ h => (good_sel h (fun _ h => (good_sel h (fun _ h => (good_sel h (fun _ h => good_ret (by cases h; rfl)) (fun _ h => nomatch h))) (fun _ h => nomatch h))) (fun _ h => good_ret (by cases h; rfl)))) (fun _ h => nomatch h))) (fun _ h => (good_sel h (fun _ h => (good_sel h (fun _ h => (good_sel h (fun _ h => (good_sel h (fun _ h => good_ret (by cases h; rfl)) (fun _ h => nomatch h))) (fun _ h => nomatch h))) (fun _ h => good_ret (by cases h; rfl)))) (fun _ h => nomatch h))))) (fun _ h => nomatch h))))) (fun _ h => nomatch h))) (fun _ h => nomatch h))) (fun _ h => nomatch h))) (fun _ h => nomatch h))) (fun _ h => nomatch h))) (fun _ h => nomatch h))) (fun _ h => nomatch h))))) (fun _ h => nomatch h))) (fun _ h => nomatch h))) (fun _ h => nomatch h))) (fun _ h => (good_sel h (fun _ h => (good_sel h (fun _ h => (good_sel h (fun _ h => (good_sel h (fun _ h => (good_sel h (fun _ h => (good_sel h (fun _ h => (good_sel h (fun _ h => (good_sel h (fun _ h => (good_sel h (fun _ h => (good_sel h (fun _ h => (good_sel h (fun _ h => (good_sel h (fun _ h => good_ret (by cases h; rfl)) (fun _ h => nomatch h))) (fun _ h => nomatch h))) (fun _ h => nomatch h))) (fun _ h => nomatch h))) (fun _ h => nomatch h))) (fun _ h => (good_sel h (fun _ h => good_ret (by cases h; rfl)) (fun _ h => nomatch h))))) (fun _ h => nomatch h))) (fun _ h => nomatch h))) (fun _ h => nomatch h))) (fun _ h => (good_sel h (fun _ h => (good_sel h (fun _ h => (good_sel h (fun _ h => (good_sel h (fun _ h => (good_sel h (fun _ h => (good_sel h (fun _ h => (good_sel h (fun _ h => good_ret (by cases h; rfl)) (fun _ h => nomatch h))) (fun _ h => nomatch h))) (fun _ h => nomatch h))) (fun _ h => nomatch h))) (fun _ h => nomatch h))) (fun _ h => (good_sel h (fun _ h => good_ret (by cases h; rfl)) (fun _ h => nomatch h))))) (fun _ h => nomatch h))))) (fun _ h => (good_sel h (fun _ h => (good_sel h (fun _ h => (good_sel h (fun _ h => (good_sel h (fun _ h => (good_sel h (fun _ h => (good_sel h (fun _ h => (good_sel h (fun _ h => good_ret (by cases h; rfl)) (fun _ h => nomatch h))) (fun _ h => nomatch h))) (fun _ h => nomatch h))) (fun _ h => nomatch h))) (fun _ h => nomatch h))) (fun _ h => (good_sel h (fun _ h => good_ret (by cases h; rfl)) (fun _ h => nomatch h))))) (fun _ h => nomatch h))))) (fun _ h => nomatch h))))) (fun _ h => nomatch h))) (fun _ h => (good_sel h (fun _ h => (good_sel h (fun _ h => (good_sel h (fun _ h => (good_sel h (fun _ h => (good_sel h (fun _ h => (good_sel h (fun _ h => (good_sel h (fun _ h => (good_sel h (fun _ h => (good_sel h (fun _ h => (good_sel h (fun _ h => (good_sel h (fun _ h => (good_sel h (fun _ h => good_ret (by cases h; rfl)) (fun _ h => nomatch h))) (fun _ h => nomatch h))) (fun _ h => nomatch h))) (fun _ h => nomatch h))) (fun _ h => nomatch h))) (fun _ h => (good_sel h (fun _ h => good_ret (by cases h; rfl)) (fun _ h => nomatch h))))) (fun _ h => nomatch h))) (fun _ h => nomatch h))) (fun _ h => nomatch h))) (fun _ h => (good_sel h (fun _ h => (good_sel h (fun _ h => (good_sel h (fun _ h => (good_sel h (fun _ h => (good_sel h (fun _ h => (good_sel h (fun _ h => (good_sel h (fun _ h => good_ret (by cases h; rfl)) (fun _ h => nomatch h))) (fun _ h => nomatch h))) (fun _ h => nomatch h))) (fun _ h => nomatch h))) (fun _ h => nomatch h))) (fun _ h => (good_sel h (fun _ h => good_ret (by cases h; rfl)) (fun _ h => nomatch h))))) (fun _ h => nomatch h))))) (fun _ h => (good_sel h (fun _ h => (good_sel h (fun _ h => (good_sel h (fun _ h => (good_sel h (fun _ h => (good_sel h (fun _ h => (good_sel h (fun _ h => (good_sel h (fun _ h => good_ret (by cases h; rfl)) (fun _ h => nomatch h))) (fun _ h => nomatch h))) (fun _ h => nomatch h))) (fun _ h => nomatch h))) (fun _ h => nomatch h))) (fun _ h => (good_sel h (fun _ h => good_ret (by cases h; rfl)) (fun _ h => nomatch h))))) (fun _ h => nomatch h))))) (fun _ h => nomatch h))))) (fun _ h => nomatch h))))
end
theorem t11 (k : Nat) (s : ByteArray) (p : Int) (rt : F) (pq : Int) (h : G11 k s p = some (rt, pq)) : EndsN Try.prog 1 Try.f11.results.toList [.code (bodyOf Try.f11)] (startN Try.f11.ntmps [U.hp 0 0] [HO.box [U.f (bytesF s), U.f (F.int .i64 p)]]) (F.tup [rt, F.agg [bytesF s, F.int .i64 pq]]) := by
  refine Ends.of_run tyOK envB6_ok (T := [(4, [0, 2, 3, 5, 6], 1000)]) (n := 200) ?_
  have e : run Try.prog (tiOf Try.prog) envB6 [(4, [0, 2, 3, 5, 6], 1000)] 1 Try.f11.results.toList some 200 [.code (bodyOf Try.f11)] (startN Try.f11.ntmps [U.hp 0 0] [HO.box [U.f (bytesF s), U.f (F.int .i64 p)]]) = T11 (fun rt pq => some (.ret (F.tup [rt, F.agg [bytesF s, F.int .i64 pq]]))) (fun s p mo de cn i => some (.cut (at_ Try.f11 4) (S11_4z s p mo de cn i))) (fun s p mo de cn i => some (.cut (at_ Try.f11 4) (S11_4a s p mo de cn i))) (fun s p mo de n ig bs cn i => some (.cut (at_ Try.f11 4) (S11_4b s p mo de n ig bs cn i))) s p := by kernel_rfl
  rw [e]
  exact (good_sel h (fun _ h => (good_sel h (fun _ h => (good_sel h (fun _ h => (good_sel h (fun _ h => good_cut (t11_4a k _ _ _ _ _ _ rt pq h)) (fun _ h => nomatch h))) (fun _ h => (good_sel h (fun _ h => good_cut (t11_4z k _ _ _ _ _ _ rt pq h)) (fun _ h => nomatch h))))) (fun _ h => nomatch h))) (fun _ h => nomatch h))
theorem beq_tt (b : Bool) : (b == true) = b := by cases b <;> rfl
theorem qd_fold (mo de : Int) (o : List It) (bs : List Bk) : F.agg [F.int .i64 mo, F.int .i64 de, F.sl o.length (offF 0 fun i => itF (o.getD i It.zero)), blocksF bs] = qdF ⟨mo, de, o, bs⟩ := rfl
theorem quad_4b {s : ByteArray} {cn : Int} (hc : 0 ≤ cn ∧ cn ≤ 8) : ∀ (d i : Nat) (p mo de : Int) (n : Nat) (ig : Nat → F) (bs : List Bk), (i : Int) + d = cn → rdOk s p = true → isItems (.sl n ig) = true → n ≤ 1000 → allShortV bs = true →
    QRes s (L11_4b (d + 1) s p mo de n ig bs cn i)
  | 0, i, p, mo, de, n, ig, bs, h, hr, hi, hn, hs => by
    have c1 : decide ((i : Int) < cn) = false := decide_eq_false (by omega)
    rw [L11_4b, hi, bsel_true]
    have hl : n = (unItems (.sl n ig)).length := by rw [unItems, unSl_len]
    generalize unItems (.sl n ig) = o at hl
    subst hl
    obtain ⟨_, o1⟩ := once_ok hr 4
    obtain ⟨_, o2⟩ := once_ok o1 16
    obtain ⟨_, o3⟩ := once_ok o2 16
    obtain ⟨_, o4⟩ := seg_ok o3
    have l1 : decide (((1 : Nat) : Int) * (((40 : Nat) : Int) + 1) ≤ (limit : Int)) = true := by rw [limit_eq]; exact decide_eq_true (by omega)
    simp only [T11_4b, c1, bsel_false, qd_fold, isQd_qdF, unQd_qdF, unBytes_bytesF, isBytes_bytesF, hr, hs, o1, o2, o3, resSeg, Bool.and_self, Bool.and_true, beq_tt, bsel_true, decide_true, l1, Int.toNat_zero, Nat.zero_add, Nat.sub_zero]
    generalize hx : segV s (onceV s (onceV s (onceV s p 4).2 16).2 16).2 = x at o4
    obtain ⟨x1, x2, x3, x4, p4⟩ := x
    simp only at o4 ⊢
    generalize (onceV s (onceV s (onceV s p 4).2 16).2 16) = r3 at o3
    obtain ⟨b3, p3⟩ := r3
    generalize (onceV s (onceV s p 4).2 16).1 = b2
    cases (onceV s p 4).1 with
    | false => exact q_tail b2 b3 ⟨9, x1, x2, x3, x4⟩ hn hs o3 o4
    | true =>
      by_cases h0 : 0 < o.length
      · have d1 : decide ((o.length : Int) > 0) = true := decide_eq_true (by omega)
        have d2 : decide (0 < (o.length : Int)) = true := decide_eq_true (by omega)
        have d3 : decide (0 < o.length) = true := decide_eq_true h0
        simp only [d1, d2, d3, bsel_true]
        cases hc : cutOkV ⟨mo, de, o, bs⟩ (o.getD 0 It.zero).id with
        | true =>
          obtain ⟨q1, q2⟩ := cut_short hc
          exact q_tail b2 b3 ⟨9, x1, x2, x3, x4⟩ q2 q1 o3 o4
        | false =>
          simp only [bsel_false]
          cases b2 <;> cases b3 <;> first | exact q_leaf Lists.nil Lists.nil o3 rfl | exact q_leaf (Lists.one (⟨9, x1, x2, x3, x4⟩ : It)) Lists.nil o4 rfl
      · have d1 : decide ((o.length : Int) > 0) = false := decide_eq_false (by omega)
        simp only [d1, bsel_true, bsel_false]
        exact q_tail b2 b3 ⟨9, x1, x2, x3, x4⟩ hn hs o3 o4
  | d + 1, i, p, mo, de, n, ig, bs, h, hr, hi, hn, hs => by
    have c1 : decide ((i : Int) < cn) = true := decide_eq_true (by omega)
    have hw : IntKind.i64.wrap ((i : Int) + 1) = ((i + 1 : Nat) : Int) := by rw [wrapi (by omega) (by omega)]; omega
    rw [L11_4b, hi, bsel_true]
    have hl : n = (unItems (.sl n ig)).length := by rw [unItems, unSl_len]
    generalize unItems (.sl n ig) = o at hl
    subst hl
    obtain ⟨_, _, _, b1⟩ := below_ok hr 9
    obtain ⟨_, f1⟩ := far_ok b1
    simp only [T11_4b, c1, qd_fold, isQd_qdF, unQd_qdF, unBytes_bytesF, isBytes_bytesF, hr, hs, b1, hw, resFar, Bool.and_self, Bool.and_true, bsel_true, decide_true]
    cases hp : putOkV _ _ _ with
    | true =>
      obtain ⟨p1, p2⟩ := put_short hp
      exact quad_4b hc d (i + 1) _ _ _ _ _ _ (by omega) f1 (isItems_itemsF _) p2 p1
    | false => exact quad_4b hc d (i + 1) _ _ _ _ _ _ (by omega) f1 (isItems_itemsF _) hn hs
theorem quad_4a {s : ByteArray} {cn : Int} (hc : 0 ≤ cn ∧ cn ≤ 8) : ∀ (d i : Nat) (p mo de : Int), (i : Int) + d = cn → rdOk s p = true → QRes s (L11_4a (d + 1) s p mo de cn i)
  | 0, i, p, mo, de, h, hr => by
    have c1 : decide ((i : Int) < cn) = false := decide_eq_false (by omega)
    rw [L11_4a]
    obtain ⟨_, o1⟩ := once_ok hr 4
    obtain ⟨_, o2⟩ := once_ok o1 16
    obtain ⟨_, o3⟩ := once_ok o2 16
    obtain ⟨_, o4⟩ := seg_ok o3
    have l1 : decide (((1 : Nat) : Int) * (((40 : Nat) : Int) + 1) ≤ (limit : Int)) = true := by rw [limit_eq]; exact decide_eq_true (by omega)
    simp only [T11_4a, c1, bsel_false, unBytes_bytesF, isBytes_bytesF, hr, o1, o2, o3, resSeg, Bool.and_self, Bool.and_true, beq_tt, bsel_true, decide_true, l1]
    generalize hx : segV s (onceV s (onceV s (onceV s p 4).2 16).2 16).2 = x at o4
    obtain ⟨x1, x2, x3, x4, p4⟩ := x
    simp only at o4 ⊢
    generalize (onceV s (onceV s (onceV s p 4).2 16).2 16) = r3 at o3
    obtain ⟨b3, p3⟩ := r3
    generalize (onceV s (onceV s p 4).2 16).1 = b2
    cases (onceV s p 4).1 <;> cases b2 <;> cases b3 <;> first | exact q_leaf0 Lists.nil o3 | exact q_leaf0 (Lists.one (⟨9, x1, x2, x3, x4⟩ : It)) o4
  | d + 1, i, p, mo, de, h, hr => by
    have c1 : decide ((i : Int) < cn) = true := decide_eq_true (by omega)
    have hw : IntKind.i64.wrap ((i : Int) + 1) = ((i + 1 : Nat) : Int) := by rw [wrapi (by omega) (by omega)]; omega
    rw [L11_4a]
    obtain ⟨_, _, _, b1⟩ := below_ok hr 9
    obtain ⟨_, f1⟩ := far_ok b1
    simp only [T11_4a, c1, unBytes_bytesF, isBytes_bytesF, hr, b1, hw, resFar, Bool.and_self, Bool.and_true, bsel_true, decide_true]
    cases hp : putOkV _ _ _ with
    | true =>
      obtain ⟨p1, p2⟩ := put_short hp
      exact quad_4b hc d (i + 1) _ _ _ _ _ _ (by omega) f1 (isItems_itemsF _) p2 p1
    | false => exact quad_4a hc d (i + 1) _ _ _ (by omega) f1
theorem quad_okR {s : ByteArray} {p : Int} (h : rdOk s p = true) : ∃ (r : Qd × Int) (rt : F) (k : Nat), G11 k s p = some (rt, r.2) ∧ FLe rt (qdF r.1) ∧ rdOk s r.2 = true ∧ okQd r.1 = true := by
  obtain ⟨_, a1, a2, a3⟩ := below_ok h 3
  obtain ⟨_, b1, b2, b3⟩ := below_ok a3 6
  obtain ⟨_, c1, c2, c3⟩ := below_ok b3 8
  have hl : limitsV (IntKind.i64.wrap (1 + (belowV s p 3).1)) (belowV s (belowV s p 3).2 6).1 = true := by
    rw [wrapi (by omega) (by omega)]
    simp only [limitsV, inV, Bool.and_eq_true, decide_eq_true_eq]
    omega
  obtain ⟨rt, q, p', e1, e2, e3, e4⟩ := quad_4a (s := s) (cn := (belowV s (belowV s (belowV s p 3).2 6).2 8).1) (by omega) (belowV s (belowV s (belowV s p 3).2 6).2 8).1.toNat 0 (belowV s (belowV s (belowV s p 3).2 6).2 8).2 (IntKind.i64.wrap (1 + (belowV s p 3).1)) (belowV s (belowV s p 3).2 6).1 (by omega) c3
  refine ⟨(q, p'), rt, (belowV s (belowV s (belowV s p 3).2 6).2 8).1.toNat + 1, ?_, e2, e3, e4⟩
  unfold G11 T11
  simp only [unBytes_bytesF, isBytes_bytesF, h, a3, b3, hl, Bool.and_self, bsel_true]
  exact e1
def quadV (s : ByteArray) (p : Int) : Qd × Int := @dite _ (rdOk s p = true) (Classical.propDecidable _) (fun h => Classical.choose (quad_okR h)) fun _ => (.zero, 0)
theorem quad_ok {s : ByteArray} {p : Int} (h : rdOk s p = true) : ∃ (rt : F) (k : Nat), G11 k s p = some (rt, (quadV s p).2) ∧ FLe rt (qdF (quadV s p).1) ∧ rdOk s (quadV s p).2 = true ∧ okQd (quadV s p).1 = true := by
  have e : quadV s p = Classical.choose (quad_okR h) := @dif_pos _ (Classical.propDecidable _) h _ _ _
  rw [e]
  exact Classical.choose_spec (quad_okR h)
def resQuad : List F → ByteArray → Int → F × Int := fun _ s p => (qdF (quadV s p).1, (quadV s p).2)
theorem okQuad : SpOK Try.prog 11 (rdSp isNone resQuad) :=
  ok_rd (c := bodyOf Try.f11) Try.func11 (by kernel_rfl) (by kernel_rfl) fun xs s p hx hr => match xs, hx with
  | [], hx => by
    obtain ⟨rt, k, e, hle, _⟩ := quad_ok hr
    exact ⟨rt, hle, t11 k s p rt _ e⟩
def envB7 : Env := envB6.add 11 (rdSp isNone resQuad)
theorem envB7_ok : EnvOK Try.prog envB7 := (Env.add_ok envB6_ok okQuad)
end
end Go.Proofs.Ytbnainbjcaekjaa.R
namespace Go.Proofs.Ytbnainbjcaekjaa.R
open Go
noncomputable section
/-! ### function 5 -/
def T5 {ρ : Type} (ret : (Qd) → Option ρ) (a0 : ByteArray) : Option ρ :=
 (bsel (isBytes (bytesF a0))
 (bsel (isBytes (bytesF a0) && rdOk (unBytes (bytesF a0)) 0 && true)
 (ret ((quadV (unBytes (bytesF a0)) 0).fst))
 none)
 none)
def G5 (a0 : ByteArray) : Option (Qd) := T5 some a0
theorem t5 (a0 : ByteArray) (r : Qd) (h : G5 a0 = some r) : Ends Try.prog Try.f5.results.toList [.code (bodyOf Try.f5)] (start Try.f5.ntmps ([bytesF a0].map .f)) (qdF r) := by
  refine Ends.of_run tyOK envB7_ok (T := []) (n := 200) ?_
  have e : run Try.prog (tiOf Try.prog) envB7 [] 0 Try.f5.results.toList some 200 [.code (bodyOf Try.f5)] (start Try.f5.ntmps ([bytesF a0].map .f)) = T5 (fun r => some (.ret (qdF r))) a0 := by kernel_rfl
  rw [e]
  exact (good_sel h (fun _ h => (good_sel h (fun _ h => good_ret (by cases h; rfl)) (fun _ h => nomatch h))) (fun _ h => nomatch h))
def preD : List F → Bool | [b] => isBytes b && decide ((unBytes b).size ≤ 1048576) | _ => false
def resDrawQuad : List F → F | [b] => qdF (quadV (unBytes b) 0).1 | _ => .dflt
theorem drawQuad_ok {s : ByteArray} (h : s.size ≤ 1048576) : G5 s = some (quadV s 0).1 := by
  have h0 : rdOk s 0 = true := rdOk_iff.2 (by omega)
  unfold G5 T5
  simp only [unBytes_bytesF, isBytes_bytesF, h0, Bool.and_self, Bool.and_true, bsel_true]
theorem okDrawQuad : PureOK Try.prog 5 preD resDrawQuad :=
  fn_pure_at (c := bodyOf Try.f5) Try.func5 (by kernel_rfl) (by kernel_rfl) fun xs hp => match xs, hp with
  | [b], hp => by
    simp only [preD, Bool.and_eq_true, decide_eq_true_eq] at hp
    exact ⟨[bytesF (unBytes b)], _, ⟨(bytes_eqv hp.1).1, trivial⟩, t5 _ _ (drawQuad_ok hp.2), .refl _⟩
def envB8 : Env := envB7.add 5 (.pure preD resDrawQuad)
theorem envB8_ok : EnvOK Try.prog envB8 := (Env.add_ok envB7_ok okDrawQuad.sp)
end
end Go.Proofs.Ytbnainbjcaekjaa.R
namespace Go.Proofs.Ytbnainbjcaekjaa.R
open Go
noncomputable section
/-! ### function 3 -/
def S3_10 (q : Qd) (n : Int) (de : Int) (sp : Int) (i : Int) : St := ⟨[.bad, .bad, .bad, (U.hp 0 0), (U.f (F.int .i64 n)), (U.f (F.int .i64 de)), .bad, .bad, (U.f (F.int .i64 sp)), (U.f (F.int .i64 i)), .bad, .bad, .bad, .bad, .bad, .bad, .bad, .bad, .bad, .bad, .bad, .bad, .bad, .bad, .bad, .bad, .bad, .bad, .bad, .bad, .bad, .bad, .bad, .bad, .bad, .bad, .bad, .bad, .bad, .bad, .bad, .bad, .bad, .bad, .bad, .bad, .bad, .bad, .bad, .bad, .bad, .bad, .bad, .bad, .bad, .bad, .bad, .bad, .bad, .bad, .bad, .bad, .bad, .bad, .bad, .bad, .bad, .bad, .bad, .bad, .bad, .bad, .bad, .bad, .bad, .bad, .bad, .bad, .bad, .bad, .bad, .bad, .bad, .bad, .bad], [HO.box [(U.f (F.int .i64 q.most)), (U.f (F.int .i64 q.deep)), (U.f (itemsF q.items)), (U.f (blocksF q.blocks))]]⟩
def T3_10 {ρ : Type} (ret : (Bool) → Option ρ) (c10 : (Qd) → (Int) → (Int) → (Int) → (Int) → Option ρ) (q : Qd) (n : Int) (de : Int) (sp : Int) (i : Int) : Option ρ :=
 (bsel (decide (i < (↑q.blocks.length : Int)))
 (bsel (decide (0 ≤ i))
 (bsel (decide (i < (↑q.blocks.length : Int)))
 (bsel ((q.blocks.getD i.toNat Bk.zero).split)
 (c10 (q) (n) (de) (IntKind.i64.wrap (sp + 1)) (IntKind.i64.wrap (i + 1)))
 (c10 (q) (n) (de) (sp) (IntKind.i64.wrap (i + 1))))
 none)
 none)
 (bsel ((n == IntKind.i64.wrap (1 + IntKind.i64.wrap (3 * sp))) == true)
 (bsel ((IntKind.i64.wrap (n + sp) == (↑q.blocks.length : Int)) == true)
 (ret (decide (de ≤ q.deep)))
 (ret (false)))
 (ret (false))))
def L3_10 : Nat → (Qd) → (Int) → (Int) → (Int) → (Int) → Option (Bool)
  | 0, _, _, _, _, _ => none
  | k + 1, q, n, de, sp, i => T3_10 some (L3_10 k) q n de sp i
def T3 {ρ : Type} (ret : (Bool) → Option ρ) (c10 : (Qd) → (Int) → (Int) → (Int) → (Int) → Option ρ) (a0 : ByteArray) : Option ρ :=
 (bsel (isBytes (bytesF a0))
 (bsel (decide ((↑(unBytes (bytesF a0)).size : Int) > 1048576))
 (ret (true))
 (bsel (isBytes (bytesF a0) && decide ((unBytes (bytesF a0)).size ≤ 1048576))
 (bsel (isQd (qdF (quadV (unBytes (bytesF a0)) 0).fst) && allShortV (unQd (qdF (quadV (unBytes (bytesF a0)) 0).fst)).blocks)
 (bsel (isQd (qdF (quadV (unBytes (bytesF a0)) 0).fst) && allShortV (unQd (qdF (quadV (unBytes (bytesF a0)) 0).fst)).blocks)
 (bsel (((countV (unQd (qdF (quadV (unBytes (bytesF a0)) 0).fst))).fst != (countV (unQd (qdF (quadV (unBytes (bytesF a0)) 0).fst))).fst) == false)
 (bsel (((countV (unQd (qdF (quadV (unBytes (bytesF a0)) 0).fst))).snd != (countV (unQd (qdF (quadV (unBytes (bytesF a0)) 0).fst))).snd) == false)
 (bsel (isQd (qdF (quadV (unBytes (bytesF a0)) 0).fst) && allShortV (unQd (qdF (quadV (unBytes (bytesF a0)) 0).fst)).blocks)
 (bsel (!(treeV (unQd (qdF (quadV (unBytes (bytesF a0)) 0).fst))).snd)
 (bsel (((countV (unQd (qdF (quadV (unBytes (bytesF a0)) 0).fst))).fst == (countV (unQd (qdF (quadV (unBytes (bytesF a0)) 0).fst))).fst) == true)
 (bsel (((countV (unQd (qdF (quadV (unBytes (bytesF a0)) 0).fst))).snd == (countV (unQd (qdF (quadV (unBytes (bytesF a0)) 0).fst))).snd) == true)
 (bsel (isQd (qdF (quadV (unBytes (bytesF a0)) 0).fst) && allShortV (unQd (qdF (quadV (unBytes (bytesF a0)) 0).fst)).blocks)
 (ret (!(treeV (unQd (qdF (quadV (unBytes (bytesF a0)) 0).fst))).snd))
 none)
 (ret (false)))
 (ret (false)))
 (c10 ((quadV (unBytes (bytesF a0)) 0).fst) ((countV (unQd (qdF (quadV (unBytes (bytesF a0)) 0).fst))).fst) ((countV (unQd (qdF (quadV (unBytes (bytesF a0)) 0).fst))).snd) (0) (0)))
 none)
 (bsel (((countV (unQd (qdF (quadV (unBytes (bytesF a0)) 0).fst))).fst == (countV (unQd (qdF (quadV (unBytes (bytesF a0)) 0).fst))).fst) == true)
 (bsel (((countV (unQd (qdF (quadV (unBytes (bytesF a0)) 0).fst))).snd == (countV (unQd (qdF (quadV (unBytes (bytesF a0)) 0).fst))).snd) == true)
 (bsel (isQd (qdF (quadV (unBytes (bytesF a0)) 0).fst) && allShortV (unQd (qdF (quadV (unBytes (bytesF a0)) 0).fst)).blocks)
 (ret (!(treeV (unQd (qdF (quadV (unBytes (bytesF a0)) 0).fst))).snd))
 none)
 (ret (false)))
 (ret (false))))
 (bsel (((countV (unQd (qdF (quadV (unBytes (bytesF a0)) 0).fst))).fst == (countV (unQd (qdF (quadV (unBytes (bytesF a0)) 0).fst))).fst) == true)
 (bsel (((countV (unQd (qdF (quadV (unBytes (bytesF a0)) 0).fst))).snd == (countV (unQd (qdF (quadV (unBytes (bytesF a0)) 0).fst))).snd) == true)
 (bsel (isQd (qdF (quadV (unBytes (bytesF a0)) 0).fst) && allShortV (unQd (qdF (quadV (unBytes (bytesF a0)) 0).fst)).blocks)
 (ret (!(treeV (unQd (qdF (quadV (unBytes (bytesF a0)) 0).fst))).snd))
 none)
 (ret (false)))
 (ret (false))))
 none)
 none)
 none))
 none)
def G3 (k : Nat) (a0 : ByteArray) : Option (Bool) := T3 some (L3_10 k) a0
theorem t3_10 : ∀ (k : Nat) (q : Qd) (n : Int) (de : Int) (sp : Int) (i : Int) (r : Bool), L3_10 k q n de sp i = some r → Ends Try.prog Try.f3.results.toList (at_ Try.f3 10) (S3_10 q n de sp i) (F.bool r)
  | 0, _, _, _, _, _, _, h => nomatch h
  | k + 1, q, n, de, sp, i, r, h => by
    refine Ends.of_cut tyOK envB8_ok (T := [(10, [3, 4, 5, 8, 9], 1000)]) (n := 200) ?_
    have e : runCut Try.prog (tiOf Try.prog) envB8 [(10, [3, 4, 5, 8, 9], 1000)] 0 Try.f3.results.toList some 200 (at_ Try.f3 10) (S3_10 q n de sp i) = T3_10 (fun r => some (.ret (F.bool r))) (fun q n de sp i => some (.cut (at_ Try.f3 10) (S3_10 q n de sp i))) q n de sp i := by kernel_rfl
    rw [e]
    exact (good_sel h (fun _ h => (good_sel h (fun _ h => (good_sel h (fun _ h => (good_sel h (fun _ h => good_cut (t3_10 k _ _ _ _ _ r h)) (fun _ h => good_cut (t3_10 k _ _ _ _ _ r h)))) (fun _ h => nomatch h))) (fun _ h => nomatch h))) (fun _ h => (good_sel h (fun _ h => (good_sel h (fun _ h => good_ret (by cases h; rfl)) (fun _ h => good_ret (by cases h; rfl)))) (fun _ h => good_ret (by cases h; rfl)))))
theorem t3 (k : Nat) (a0 : ByteArray) (r : Bool) (h : G3 k a0 = some r) : Ends Try.prog Try.f3.results.toList [.code (bodyOf Try.f3)] (start Try.f3.ntmps ([bytesF a0].map .f)) (F.bool r) := by
  refine Ends.of_run tyOK envB8_ok (T := [(10, [3, 4, 5, 8, 9], 1000)]) (n := 200) ?_
  have e : run Try.prog (tiOf Try.prog) envB8 [(10, [3, 4, 5, 8, 9], 1000)] 0 Try.f3.results.toList some 200 [.code (bodyOf Try.f3)] (start Try.f3.ntmps ([bytesF a0].map .f)) = T3 (fun r => some (.ret (F.bool r))) (fun q n de sp i => some (.cut (at_ Try.f3 10) (S3_10 q n de sp i))) a0 := by kernel_rfl
  rw [e]
  exact (good_sel h (fun _ h => (good_sel h (fun _ h => good_ret (by cases h; rfl)) (fun _ h => (good_sel h (fun _ h => (good_sel h (fun _ h => (good_sel h (fun _ h => (good_sel h (fun _ h => (good_sel h (fun _ h => (good_sel h (fun _ h => (good_sel h (fun _ h => (good_sel h (fun _ h => (good_sel h (fun _ h => (good_sel h (fun _ h => good_ret (by cases h; rfl)) (fun _ h => nomatch h))) (fun _ h => good_ret (by cases h; rfl)))) (fun _ h => good_ret (by cases h; rfl)))) (fun _ h => good_cut (t3_10 k _ _ _ _ _ r h)))) (fun _ h => nomatch h))) (fun _ h => (good_sel h (fun _ h => (good_sel h (fun _ h => (good_sel h (fun _ h => good_ret (by cases h; rfl)) (fun _ h => nomatch h))) (fun _ h => good_ret (by cases h; rfl)))) (fun _ h => good_ret (by cases h; rfl)))))) (fun _ h => (good_sel h (fun _ h => (good_sel h (fun _ h => (good_sel h (fun _ h => good_ret (by cases h; rfl)) (fun _ h => nomatch h))) (fun _ h => good_ret (by cases h; rfl)))) (fun _ h => good_ret (by cases h; rfl)))))) (fun _ h => nomatch h))) (fun _ h => nomatch h))) (fun _ h => nomatch h))))) (fun _ h => nomatch h))
theorem leaves_loop (q : Qd) (hl : q.blocks.length ≤ 2000) (S n : Nat) (de : Int) (h1 : n = 1 + 3 * S) (h2 : n + S = q.blocks.length) (h3 : de ≤ q.deep) : ∀ (d i sp : Nat), i + d = q.blocks.length → sp + splitsN ((q.blocks.drop i).map keyB) = S →
    L3_10 (d + 1) q n de sp i = some true
  | 0, i, sp, h, hs => by
    rw [List.drop_eq_nil_of_le (by omega)] at hs
    have hs : sp = S := by simpa [splitsN] using hs
    subst hs
    have c1 : decide ((i : Int) < (q.blocks.length : Int)) = false := decide_eq_false (by omega)
    have c2 : ((n : Int) == IntKind.i64.wrap (1 + IntKind.i64.wrap (3 * (sp : Int)))) = true := by
      rw [wrapi (x := 3 * (sp : Int)) (by omega) (by omega), wrapi (by omega) (by omega)]
      exact beq_iff_eq.2 (by omega)
    have c3 : (IntKind.i64.wrap ((n : Int) + (sp : Int)) == (q.blocks.length : Int)) = true := by
      rw [wrapi (by omega) (by omega)]
      exact beq_iff_eq.2 (by omega)
    rw [L3_10]
    simp only [T3_10, c1, c2, c3, bsel_true, bsel_false, beq_self_eq_true, decide_eq_true h3]
  | d + 1, i, sp, h, hs => by
    have hi : i < q.blocks.length := by omega
    have c1 : decide ((i : Int) < (q.blocks.length : Int)) = true := decide_eq_true (by omega)
    have c2 : decide (0 ≤ (i : Int)) = true := decide_eq_true (by omega)
    have hw : IntKind.i64.wrap ((i : Int) + 1) = ((i + 1 : Nat) : Int) := by rw [wrapi (by omega) (by omega)]; omega
    have hg : q.blocks.getD i .zero = q.blocks[i] := by simp [List.getD, List.getElem?_eq_getElem hi]
    rw [List.drop_eq_getElem_cons hi] at hs
    have hw2 : IntKind.i64.wrap ((sp : Int) + 1) = ((sp + 1 : Nat) : Int) := by rw [wrapi (by omega) (by omega)]; omega
    rw [L3_10]
    simp only [T3_10, c1, c2, bsel_true, Int.toNat_natCast, hg, hw, hw2]
    cases hb : q.blocks[i].split with
    | true => exact leaves_loop q hl S n de h1 h2 h3 d (i + 1) (sp + 1) (by omega) (by simp only [List.map_cons, splitsN, List.countP_cons, keyB, hb] at hs ⊢; simp at hs ⊢; omega)
    | false => exact leaves_loop q hl S n de h1 h2 h3 d (i + 1) sp (by omega) (by simp only [List.map_cons, splitsN, List.countP_cons, keyB, hb] at hs ⊢; simpa using hs)
theorem leaves_law (s : ByteArray) : ∃ k, G3 k s = some true := by
  refine ⟨(quadV s 0).1.blocks.length + 1, ?_⟩
  unfold G3 T3
  simp only [unBytes_bytesF, isBytes_bytesF, isQd_qdF, unQd_qdF, Bool.true_and, bsel_true, beq_self_eq_true, bne_self_eq_false]
  by_cases hs : s.size ≤ 1048576
  · have h0 : rdOk s 0 = true := rdOk_iff.2 (by omega)
    obtain ⟨_, _, _, _, _, hq⟩ := quad_ok h0
    have hq : allShortV (quadV s 0).1.blocks = true := hq
    have c1 : decide ((s.size : Int) > 1048576) = false := decide_eq_false (by omega)
    simp only [c1, decide_eq_true hs, hq, bsel_true, bsel_false]
    generalize (quadV s 0).1 = q at hq ⊢
    cases ht : (treeV q).2 with
    | false => rfl
    | true =>
      simp only [Bool.not_true, bsel_false]
      obtain ⟨t1, t2, t3, t4, t5⟩ := tree_flat ht
      have e : countV q = (lvsV (treeV q).1, dptV (treeV q).1) := by rw [countV, ht, cond_true]
      rw [e]
      have k1 := flat_splits (treeV q).1
      have k2 := flat_leaves (treeV q).1
      have k3 := leaves_splits (flat (treeV q).1)
      rw [← t1] at k1 k2 k3
      rw [List.length_map] at k3
      exact leaves_loop q t5 (splitsN (q.blocks.map keyB)) (lvs (treeV q).1) _ k1 (by omega) t3 q.blocks.length 0 0 (by omega) (by rw [List.drop_zero]; omega)
  · have c1 : decide ((s.size : Int) > 1048576) = true := decide_eq_true (by omega)
    simp only [c1, bsel_true]
theorem okFnQuadLeaves : PureOK Try.prog 3 preB (fun _ => .bool true) :=
  fn_pure_at (c := bodyOf Try.f3) Try.func3 (by kernel_rfl) (by kernel_rfl) fun xs hp => match xs, hp with
  | [b], hp => by
    obtain ⟨k, e⟩ := leaves_law (unBytes b)
    exact ⟨[bytesF (unBytes b)], _, ⟨(bytes_eqv hp).1, trivial⟩, t3 k _ _ e, .refl _⟩
end
end Go.Proofs.Ytbnainbjcaekjaa.R
