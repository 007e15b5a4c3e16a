/-
  The walk of trees: right ones.
-/
import Derived.Test.YtjbilidfnfnpfaaQ4
namespace Go.Proofs.Ytjbilidfnfnpfaa.R
open Go
noncomputable section
set_option linter.unusedVariables false
set_option linter.unusedSimpArgs false
set_option maxRecDepth 100000
/-! ### function 61 -/
def S61_4 (a : List It) (b : List It) (i : Int) : St := ⟨[(U.f (itemsF a)), (U.f (itemsF b)), .bad, .bad, .bad, (U.f (F.int .i64 i)), .bad, .bad, .bad, .bad, .bad, .bad, .bad, .bad, .bad, .bad, .bad, .bad, .bad, .bad, .bad, .bad, .bad, .bad, .bad, .bad, .bad], []⟩
def T61_4 {ρ : Type} (ret : (Bool) → Option ρ) (c4 : (List It) → (List It) → (Int) → Option ρ) (a : List It) (b : List It) (i : Int) : Option ρ :=
  (bsel (decide (i < (↑a.length : Int)))
   (bsel (decide (0 ≤ i))
    (bsel (decide (i < (↑a.length : Int)))
     (bsel (decide (0 ≤ i))
      (bsel (decide (i < (↑b.length : Int)))
       (bsel (!sameItV (unIt (itF (a.getD i.toNat It.zero))) (unIt (itF (b.getD i.toNat It.zero))))
        (ret (false))
        (c4 (a) (b) (IntKind.i64.wrap (i + 1))))
       none)
      none)
     none)
    none)
   (ret (true)))
def L61_4 : Nat → (List It) → (List It) → (Int) → Option (Bool)
  | 0, _, _, _ => none
  | k + 1, a, b, i => T61_4 some (L61_4 k) a b i
def T61 {ρ : Type} (ret : (Bool) → Option ρ) (c4 : (List It) → (List It) → (Int) → Option ρ) (a : List It) (b : List It) : Option ρ :=
  (bsel ((↑a.length : Int) != (↑b.length : Int))
   (ret (false))
   (c4 (a) (b) (0)))
def G61 (k : Nat) (a : List It) (b : List It) : Option (Bool) := T61 some (L61_4 k) a b
theorem t61_4 : ∀ (k : Nat) (a : List It) (b : List It) (i : Int) (r : Bool), L61_4 k a b i = some r → Ends Try.prog Try.f61.results.toList (at_ Try.f61 4) (S61_4 a b i) (F.bool r)
  | 0, _, _, _, _, h => nomatch h
  | k + 1, a, b, i, r, h => by
    refine Ends.of_cut tyOK envQ4_ok (T := [(4, [0, 1, 5], 1000)]) (n := 200) ?_
    have e : runCut Try.prog (tiOf Try.prog) envQ4 [(4, [0, 1, 5], 1000)] 0 Try.f61.results.toList some 200 (at_ Try.f61 4) (S61_4 a b i) = T61_4 (fun r => some (.ret (F.bool r))) (fun a b i => some (.cut (at_ Try.f61 4) (S61_4 a b i))) a b i := by kernel_rfl
    rw [e]
    exact (good_sel h (fun _ h => (good_sel h (fun _ h => (good_sel h (fun _ h => (good_sel h (fun _ h => (good_sel h (fun _ h => (good_sel h (fun _ h => good_ret (by cases h; rfl)) (fun _ h => good_cut (t61_4 k _ _ _ r h)))) (fun _ h => nomatch h))) (fun _ h => nomatch h))) (fun _ h => nomatch h))) (fun _ h => nomatch h))) (fun _ h => good_ret (by cases h; rfl)))
theorem t61 (k : Nat) (a : List It) (b : List It) (r : Bool) (h : G61 k a b = some r) : Ends Try.prog Try.f61.results.toList [.code (bodyOf Try.f61)] (start Try.f61.ntmps ([itemsF a, itemsF b].map .f)) (F.bool r) := by
  refine Ends.of_run tyOK envQ4_ok (T := [(4, [0, 1, 5], 1000)]) (n := 200) ?_
  have e : run Try.prog (tiOf Try.prog) envQ4 [(4, [0, 1, 5], 1000)] 0 Try.f61.results.toList some 200 [.code (bodyOf Try.f61)] (start Try.f61.ntmps ([itemsF a, itemsF b].map .f)) = T61 (fun r => some (.ret (F.bool r))) (fun a b i => some (.cut (at_ Try.f61 4) (S61_4 a b i))) a b := by kernel_rfl
  rw [e]
  exact (good_sel h (fun _ h => good_ret (by cases h; rfl)) (fun _ h => good_cut (t61_4 k _ _ _ r h)))
/-! ### function 74 -/
def S74_3 (a : List It) (n : Nat) (g : Nat → F) (i : Int) : St := ⟨[(U.f (itemsF a)), .bad, .bad, (U.hs 0 n 0 n), (U.f (F.int .i64 i)), .bad, .bad, .bad, .bad, .bad, .bad, .bad, .bad, .bad, .bad, .bad, .bad, .bad, .bad, .bad, .bad, .bad, .bad], [HO.arr 5 n g]⟩
def T74_3 {ρ : Type} (ret : (Nat) → (Nat → F) → Option ρ) (c3 : (List It) → (Nat) → (Nat → F) → (Int) → Option ρ) (a : List It) (n : Nat) (g : Nat → F) (i : Int) : Option ρ :=
  (bsel (decide (i < (↑a.length : Int)))
   (bsel (decide (0 ≤ i))
    (bsel (decide (i < (↑a.length : Int)))
     (bsel (decide (n = n))
      (bsel (decide (0 ≤ i))
       (bsel (decide (i < (↑n : Int)))
        (bsel (decide (n = n))
         (bsel (decide (0 + i.toNat < n))
          (bsel (decide ((g (0 + i.toNat)).cells.length = 5))
           (bsel ((isAggF (g (0 + i.toNat)) || false) && true)
            (c3 (a) (n) (fun j ↦ if j = 0 + i.toNat then itF (unIt (itF (a.getD i.toNat It.zero))) else g j) (IntKind.i64.wrap (i + 1)))
            none)
           none)
          none)
         none)
        none)
       none)
      none)
     none)
    none)
   (bsel (decide (n = n))
    (ret (n) (g))
    none))
def L74_3 : Nat → (List It) → (Nat) → (Nat → F) → (Int) → Option ((Nat) × (Nat → F))
  | 0, _, _, _, _ => none
  | k + 1, a, n, g, i => T74_3 (fun rn rg => some (rn, rg)) (L74_3 k) a n g i
def T74 {ρ : Type} (ret : (Nat) → (Nat → F) → Option ρ) (c3 : (List It) → (Nat) → (Nat → F) → (Int) → Option ρ) (a : List It) : Option ρ :=
  (bsel (decide ((↑a.length : Int) ≤ (↑a.length : Int)))
   (bsel (decide ((↑a.length : Int) * (((40 : Nat) : Int) + 1) ≤ (↑limit : Int)))
    (c3 (a) ((↑a.length : Int).toNat) (fun x ↦ F.agg [F.int IntKind.i64 0, F.int IntKind.i64 0, F.int IntKind.i64 0, F.int IntKind.i64 0, F.int IntKind.i64 0]) (0))
    none)
   none)
def G74 (k : Nat) (a : List It) : Option ((Nat) × (Nat → F)) := T74 (fun rn rg => some (rn, rg)) (L74_3 k) a
theorem t74_3 : ∀ (k : Nat) (a : List It) (n : Nat) (g : Nat → F) (i : Int) (rn : Nat) (rg : Nat → F), L74_3 k a n g i = some (rn, rg) → Ends Try.prog Try.f74.results.toList (at_ Try.f74 3) (S74_3 a n g i) (F.sl rn rg)
  | 0, _, _, _, _, _, _, h => nomatch h
  | k + 1, a, n, g, i, rn, rg, h => by
    refine Ends.of_cut tyOK envQ4_ok (T := [(3, [0, 3, 4], 1000)]) (n := 200) ?_
    have e : runCut Try.prog (tiOf Try.prog) envQ4 [(3, [0, 3, 4], 1000)] 0 Try.f74.results.toList some 200 (at_ Try.f74 3) (S74_3 a n g i) = T74_3 (fun rn rg => some (.ret (F.sl rn rg))) (fun a n g i => some (.cut (at_ Try.f74 3) (S74_3 a n g i))) a n g i := by kernel_rfl
    rw [e]
    exact (good_sel h (fun _ h => (good_sel h (fun _ h => (good_sel h (fun _ h => (good_sel h (fun _ h => (good_sel h (fun _ h => (good_sel h (fun _ h => (good_sel h (fun _ h => (good_sel h (fun _ h => (good_sel h (fun _ h => (good_sel h (fun _ h => good_cut (t74_3 k _ _ _ _ rn rg h)) (fun _ h => nomatch h))) (fun _ h => nomatch h))) (fun _ h => nomatch h))) (fun _ h => nomatch h))) (fun _ h => nomatch h))) (fun _ h => nomatch h))) (fun _ h => nomatch h))) (fun _ h => nomatch h))) (fun _ h => nomatch h))) (fun _ h => (good_sel h (fun _ h => good_ret (by cases h; rfl)) (fun _ h => nomatch h))))
theorem t74 (k : Nat) (a : List It) (rn : Nat) (rg : Nat → F) (h : G74 k a = some (rn, rg)) : Ends Try.prog Try.f74.results.toList [.code (bodyOf Try.f74)] (start Try.f74.ntmps ([itemsF a].map .f)) (F.sl rn rg) := by
  refine Ends.of_run tyOK envQ4_ok (T := [(3, [0, 3, 4], 1000)]) (n := 200) ?_
  have e : run Try.prog (tiOf Try.prog) envQ4 [(3, [0, 3, 4], 1000)] 0 Try.f74.results.toList some 200 [.code (bodyOf Try.f74)] (start Try.f74.ntmps ([itemsF a].map .f)) = T74 (fun rn rg => some (.ret (F.sl rn rg))) (fun a n g i => some (.cut (at_ Try.f74 3) (S74_3 a n g i))) a := by kernel_rfl
  rw [e]
  exact (good_sel h (fun _ h => (good_sel h (fun _ h => good_cut (t74_3 k _ _ _ _ rn rg h)) (fun _ h => nomatch h))) (fun _ h => nomatch h))
/-! ### function 73 -/
def S73_4 (q : Qd) (i : Int) : St := ⟨[.bad, (U.hp 0 0), (U.hp 1 0), .bad, (U.f (F.int .i64 i)), .bad, .bad, .bad, .bad, .bad, .bad, .bad, .bad, .bad, .bad, .bad, .bad, .bad, .bad, .bad, .bad, .bad, .bad, .bad, .bad, .bad, .bad, .bad, .bad, .bad, .bad, .bad, .bad, .bad, .bad, .bad, .bad, .bad, .bad, .bad, .bad, .bad, .bad, .bad, .bad, .bad, .bad, .bad, .bad, .bad, .bad, .bad, .bad, .bad, .bad, .bad, .bad, .bad, .bad, .bad, .bad, .bad, .bad, .bad, .bad, .bad, .bad, .bad, .bad, .bad, .bad, .bad, .bad, .bad, .bad, .bad, .bad, .bad, .bad, .bad, .bad, .bad, .bad, .bad, .bad, .bad, .bad, .bad, .bad, .bad, .bad, .bad, .bad, .bad, .bad, .bad, .bad, .bad, .bad, .bad], [HO.box [(U.f (F.int .i64 q.most)), (U.f (F.int .i64 q.deep)), (U.f (itemsF q.items)), (U.f (blocksF q.blocks))], HO.box [(U.f (F.int .i64 0)), (U.f (F.int .i64 0)), (U.f (F.int .i64 0)), U.nils, U.nils]]⟩
def T73_4 {ρ : Type} (ret : (F) → (Bool) → Option ρ) (c4 : (Qd) → (Int) → Option ρ) (q : Qd) (i : Int) : Option ρ :=
  (bsel (decide (i < (↑q.items.length : Int)))
   (bsel (decide (0 ≤ i))
    (bsel (decide (i < (↑q.items.length : Int)))
     (bsel ((!inV (q.items.getD i.toNat It.zero).id 1 1000) == false)
      (bsel (decide (0 ≤ i))
       (bsel (decide (i < (↑q.items.length : Int)))
        (bsel ((!segOkV (q.items.getD i.toNat It.zero).x0 (q.items.getD i.toNat It.zero).y0 (q.items.getD i.toNat It.zero).x1 (q.items.getD i.toNat It.zero).y1) == false)
         (bsel (decide (i > 0) == true)
          (bsel (decide (0 ≤ IntKind.i64.wrap (i - 1)))
           (bsel (decide (IntKind.i64.wrap (i - 1) < (↑q.items.length : Int)))
            (bsel (decide (0 ≤ i))
             (bsel (decide (i < (↑q.items.length : Int)))
              (bsel (decide ((q.items.getD (IntKind.i64.wrap (i - 1)).toNat It.zero).id ≥ (q.items.getD i.toNat It.zero).id))
               (ret (F.agg [F.int IntKind.i64 0, F.int IntKind.i64 0, F.int IntKind.i64 0, F.sl 0 fun x ↦ F.bool false, F.sl 0 fun x ↦ F.bool false]) (false))
               (c4 (q) (IntKind.i64.wrap (i + 1))))
              none)
             none)
            none)
           none)
          (c4 (q) (IntKind.i64.wrap (i + 1))))
         (ret (F.agg [F.int IntKind.i64 0, F.int IntKind.i64 0, F.int IntKind.i64 0, F.sl 0 fun x ↦ F.bool false, F.sl 0 fun x ↦ F.bool false]) (false)))
        none)
       none)
      (ret (F.agg [F.int IntKind.i64 0, F.int IntKind.i64 0, F.int IntKind.i64 0, F.sl 0 fun x ↦ F.bool false, F.sl 0 fun x ↦ F.bool false]) (false)))
     none)
    none)
   (bsel (isBlocks (blocksF q.blocks) && readOk 9 (unBlocks (blocksF q.blocks)) 0 q.deep)
    (bsel ((!(readV 9 (unBlocks (blocksF q.blocks)) 0 (-1048576) (-1048576) 2097152 q.deep).snd.snd) == false)
     (bsel (((readV 9 (unBlocks (blocksF q.blocks)) 0 (-1048576) (-1048576) 2097152 q.deep).snd.fst != (↑q.blocks.length : Int)) == false)
      (bsel (isTr (trF (readV 9 (unBlocks (blocksF q.blocks)) 0 (-1048576) (-1048576) 2097152 q.deep).fst) && isItems (itemsF q.items) && rightOk 9 (unTr (trF (readV 9 (unBlocks (blocksF q.blocks)) 0 (-1048576) (-1048576) 2097152 q.deep).fst)) (unItems (itemsF q.items)))
       (bsel (!rightV (unItems (itemsF q.items)) (unTr (trF (readV 9 (unBlocks (blocksF q.blocks)) 0 (-1048576) (-1048576) 2097152 q.deep).fst)))
        (ret (F.agg [F.int IntKind.i64 0, F.int IntKind.i64 0, F.int IntKind.i64 0, F.sl 0 fun x ↦ F.bool false, F.sl 0 fun x ↦ F.bool false]) (false))
        (ret (trF (readV 9 (unBlocks (blocksF q.blocks)) 0 (-1048576) (-1048576) 2097152 q.deep).fst) (true)))
       none)
      (ret (F.agg [F.int IntKind.i64 0, F.int IntKind.i64 0, F.int IntKind.i64 0, F.sl 0 fun x ↦ F.bool false, F.sl 0 fun x ↦ F.bool false]) (false)))
     (ret (F.agg [F.int IntKind.i64 0, F.int IntKind.i64 0, F.int IntKind.i64 0, F.sl 0 fun x ↦ F.bool false, F.sl 0 fun x ↦ F.bool false]) (false)))
    none))
def L73_4 : Nat → (Qd) → (Int) → Option ((F) × (Bool))
  | 0, _, _ => none
  | k + 1, q, i => T73_4 (fun rt rb => some (rt, rb)) (L73_4 k) q i
def T73 {ρ : Type} (ret : (F) → (Bool) → Option ρ) (c4 : (Qd) → (Int) → Option ρ) (q : Qd) : Option ρ :=
  (bsel ((!limitsV q.most q.deep) == false)
   (bsel (decide ((↑q.items.length : Int) > 40) == false)
    (bsel (decide ((↑q.blocks.length : Int) > 2000))
     (ret (F.agg [F.int IntKind.i64 0, F.int IntKind.i64 0, F.int IntKind.i64 0, F.sl 0 fun x ↦ F.bool false, F.sl 0 fun x ↦ F.bool false]) (false))
     (c4 (q) (0)))
    (ret (F.agg [F.int IntKind.i64 0, F.int IntKind.i64 0, F.int IntKind.i64 0, F.sl 0 fun x ↦ F.bool false, F.sl 0 fun x ↦ F.bool false]) (false)))
   (ret (F.agg [F.int IntKind.i64 0, F.int IntKind.i64 0, F.int IntKind.i64 0, F.sl 0 fun x ↦ F.bool false, F.sl 0 fun x ↦ F.bool false]) (false)))
def G73 (k : Nat) (q : Qd) : Option ((F) × (Bool)) := T73 (fun rt rb => some (rt, rb)) (L73_4 k) q
theorem t73_4 : ∀ (k : Nat) (q : Qd) (i : Int) (rt : F) (rb : Bool), L73_4 k q i = some (rt, rb) → Ends Try.prog Try.f73.results.toList (at_ Try.f73 4) (S73_4 q i) (F.tup [rt, F.bool rb])
  | 0, _, _, _, _, h => nomatch h
  | k + 1, q, i, rt, rb, h => by
    refine Ends.of_cut tyOK envQ4_ok (T := [(4, [1, 2, 4], 1000)]) (n := 200) ?_
    have e : runCut Try.prog (tiOf Try.prog) envQ4 [(4, [1, 2, 4], 1000)] 0 Try.f73.results.toList some 200 (at_ Try.f73 4) (S73_4 q i) = T73_4 (fun rt rb => some (.ret (F.tup [rt, F.bool rb]))) (fun q i => some (.cut (at_ Try.f73 4) (S73_4 q i))) q i := by kernel_rfl
    rw [e]
    exact (good_sel h (fun _ h => (good_sel h (fun _ h => (good_sel h (fun _ h => (good_sel h (fun _ h => (good_sel h (fun _ h => (good_sel h (fun _ h => (good_sel h (fun _ h => (good_sel h (fun _ h => (good_sel h (fun _ h => (good_sel h (fun _ h => (good_sel h (fun _ h => (good_sel h (fun _ h => (good_sel h (fun _ h => good_ret (by cases h; rfl)) (fun _ h => good_cut (t73_4 k _ _ rt rb h)))) (fun _ h => nomatch h))) (fun _ h => nomatch h))) (fun _ h => nomatch h))) (fun _ h => nomatch h))) (fun _ h => good_cut (t73_4 k _ _ rt rb h)))) (fun _ h => good_ret (by cases h; rfl)))) (fun _ h => nomatch h))) (fun _ h => nomatch h))) (fun _ h => good_ret (by cases h; rfl)))) (fun _ h => nomatch h))) (fun _ h => nomatch h))) (fun _ h => (good_sel h (fun _ h => (good_sel h (fun _ h => (good_sel h (fun _ h => (good_sel h (fun _ h => (good_sel h (fun _ h => good_ret (by cases h; rfl)) (fun _ h => good_ret (by cases h; rfl)))) (fun _ h => nomatch h))) (fun _ h => good_ret (by cases h; rfl)))) (fun _ h => good_ret (by cases h; rfl)))) (fun _ h => nomatch h))))
theorem t73 (k : Nat) (q : Qd) (rt : F) (rb : Bool) (h : G73 k q = some (rt, rb)) : Ends Try.prog Try.f73.results.toList [.code (bodyOf Try.f73)] (start Try.f73.ntmps ([qdF q].map .f)) (F.tup [rt, F.bool rb]) := by
  refine Ends.of_run tyOK envQ4_ok (T := [(4, [1, 2, 4], 1000)]) (n := 200) ?_
  have e : run Try.prog (tiOf Try.prog) envQ4 [(4, [1, 2, 4], 1000)] 0 Try.f73.results.toList some 200 [.code (bodyOf Try.f73)] (start Try.f73.ntmps ([qdF q].map .f)) = T73 (fun rt rb => some (.ret (F.tup [rt, F.bool rb]))) (fun q i => some (.cut (at_ Try.f73 4) (S73_4 q i))) q := by kernel_rfl
  rw [e]
  exact (good_sel h (fun _ h => (good_sel h (fun _ h => (good_sel h (fun _ h => good_ret (by cases h; rfl)) (fun _ h => good_cut (t73_4 k _ _ rt rb h)))) (fun _ h => good_ret (by cases h; rfl)))) (fun _ h => good_ret (by cases h; rfl)))
/-! ### function 37 -/
def S37_4 (q : Qd) (i : Int) : St := ⟨[.bad, (U.hp 0 0), .bad, .bad, .bad, .bad, .bad, .bad, .bad, .bad, .bad, .bad, .bad, .bad, .bad, .bad, .bad, .bad, .bad, .bad, .bad, .bad, .bad, .bad, .bad, .bad, .bad, .bad, (U.f (itemsF q.items)), (U.f (F.int .i64 q.items.length)), (U.f (F.int .i64 i)), .bad, .bad, .bad, .bad, .bad, .bad, .bad, .bad, .bad, .bad, .bad, .bad, .bad, .bad, .bad, .bad, .bad, .bad, .bad, .bad, .bad, .bad, .bad, .bad, .bad, .bad, .bad, .bad, .bad, .bad, .bad, .bad, .bad, .bad, .bad, .bad, .bad, .bad, .bad], [HO.box [(U.f (F.int .i64 q.most)), (U.f (F.int .i64 q.deep)), (U.f (itemsF q.items)), (U.f (blocksF q.blocks))]]⟩
def T37_4 {ρ : Type} (ret : (Bool) → Option ρ) (c4 : (Qd) → (Int) → Option ρ) (q : Qd) (i : Int) : Option ρ :=
  (bsel (decide (i < (↑q.items.length : Int)))
   (bsel (decide (0 ≤ i))
    (bsel (decide (i < (↑q.items.length : Int)))
     (bsel ((!inV (q.items.getD i.toNat It.zero).id 1 1000) == false)
      (bsel ((!segOkV (q.items.getD i.toNat It.zero).x0 (q.items.getD i.toNat It.zero).y0 (q.items.getD i.toNat It.zero).x1 (q.items.getD i.toNat It.zero).y1) == false)
       (bsel (decide (i > 0) == true)
        (bsel (decide (0 ≤ IntKind.i64.wrap (i - 1)))
         (bsel (decide (IntKind.i64.wrap (i - 1) < (↑q.items.length : Int)))
          (bsel (decide ((q.items.getD i.toNat It.zero).id ≤ (q.items.getD (IntKind.i64.wrap (i - 1)).toNat It.zero).id))
           (ret (false))
           (c4 (q) (IntKind.i64.wrap (i + 1))))
          none)
         none)
        (c4 (q) (IntKind.i64.wrap (i + 1))))
       (ret (false)))
      (ret (false)))
     none)
    none)
   (bsel (isQd (qdF q) && fewV (unQd (qdF q)))
    (bsel (isQd (qdF q) && fewV (unQd (qdF q)) && isBk (resRoot [qdF q]) && checkOk 9 (unQd (qdF q)) 0 0)
     (ret (checkV 9 (unQd (qdF q)) 0 (unBk (resRoot [qdF q])) 0 == (↑q.blocks.length : Int)))
     none)
    none))
def L37_4 : Nat → (Qd) → (Int) → Option (Bool)
  | 0, _, _ => none
  | k + 1, q, i => T37_4 some (L37_4 k) q i
def T37 {ρ : Type} (ret : (Bool) → Option ρ) (c4 : (Qd) → (Int) → Option ρ) (q : Qd) : Option ρ :=
  (bsel ((!inV q.most 1 8) == false)
   (bsel ((!inV q.deep 0 8) == false)
    (bsel (decide ((↑q.items.length : Int) > 40) == false)
     (bsel (decide ((↑q.blocks.length : Int) > 2000))
      (ret (false))
      (c4 (q) (0)))
     (ret (false)))
    (ret (false)))
   (ret (false)))
def G37 (k : Nat) (q : Qd) : Option (Bool) := T37 some (L37_4 k) q
theorem t37_4 : ∀ (k : Nat) (q : Qd) (i : Int) (r : Bool), L37_4 k q i = some r → Ends Try.prog Try.f37.results.toList (at_ Try.f37 4) (S37_4 q i) (F.bool r)
  | 0, _, _, _, h => nomatch h
  | k + 1, q, i, r, h => by
    refine Ends.of_cut tyOK envQ4_ok (T := [(4, [1, 28, 29, 30], 1000)]) (n := 200) ?_
    have e : runCut Try.prog (tiOf Try.prog) envQ4 [(4, [1, 28, 29, 30], 1000)] 0 Try.f37.results.toList some 200 (at_ Try.f37 4) (S37_4 q i) = T37_4 (fun r => some (.ret (F.bool r))) (fun q i => some (.cut (at_ Try.f37 4) (S37_4 q i))) q i := by kernel_rfl
    rw [e]
    exact (good_sel h (fun _ h => (good_sel h (fun _ h => (good_sel h (fun _ h => (good_sel h (fun _ h => (good_sel h (fun _ h => (good_sel h (fun _ h => (good_sel h (fun _ h => (good_sel h (fun _ h => (good_sel h (fun _ h => good_ret (by cases h; rfl)) (fun _ h => good_cut (t37_4 k _ _ r h)))) (fun _ h => nomatch h))) (fun _ h => nomatch h))) (fun _ h => good_cut (t37_4 k _ _ r h)))) (fun _ h => good_ret (by cases h; rfl)))) (fun _ h => good_ret (by cases h; rfl)))) (fun _ h => nomatch h))) (fun _ h => nomatch h))) (fun _ h => (good_sel h (fun _ h => (good_sel h (fun _ h => good_ret (by cases h; rfl)) (fun _ h => nomatch h))) (fun _ h => nomatch h))))
theorem t37 (k : Nat) (q : Qd) (r : Bool) (h : G37 k q = some r) : Ends Try.prog Try.f37.results.toList [.code (bodyOf Try.f37)] (start Try.f37.ntmps ([qdF q].map .f)) (F.bool r) := by
  refine Ends.of_run tyOK envQ4_ok (T := [(4, [1, 28, 29, 30], 1000)]) (n := 200) ?_
  have e : run Try.prog (tiOf Try.prog) envQ4 [(4, [1, 28, 29, 30], 1000)] 0 Try.f37.results.toList some 200 [.code (bodyOf Try.f37)] (start Try.f37.ntmps ([qdF q].map .f)) = T37 (fun r => some (.ret (F.bool r))) (fun q i => some (.cut (at_ Try.f37 4) (S37_4 q i))) q := by kernel_rfl
  rw [e]
  exact (good_sel h (fun _ h => (good_sel h (fun _ h => (good_sel h (fun _ h => (good_sel h (fun _ h => good_ret (by cases h; rfl)) (fun _ h => good_cut (t37_4 k _ _ r h)))) (fun _ h => good_ret (by cases h; rfl)))) (fun _ h => good_ret (by cases h; rfl)))) (fun _ h => good_ret (by cases h; rfl)))
/-! Rows of items. -/
def sameItsV : List It → List It → Bool
  | [], [] => true
  | a :: a', b :: b' => sameItV a b && sameItsV a' b'
  | _, _ => false
theorem sameIts_ne : ∀ (a b : List It), a.length ≠ b.length → sameItsV a b = false
  | [], [], h => absurd rfl h
  | [], _ :: _, _ => rfl
  | _ :: _, [], _ => rfl
  | a :: a', b :: b', h => by rw [sameItsV, sameIts_ne a' b' (by simpa using h), Bool.and_false]
theorem unIt_itF (t : It) : unIt (itF t) = t := rfl
theorem eqIts_loop (a b : List It) (hl : a.length = b.length) (hs : a.length ≤ 1048576) : ∀ (d i : Nat), i + d = a.length → L61_4 (d + 1) a b i = some (sameItsV (a.drop i) (b.drop i))
  | 0, i, h => by
    have c1 : decide ((i : Int) < (a.length : Int)) = false := decide_eq_false (by omega)
    simp only [L61_4, T61_4, c1, bsel_false]
    rw [List.drop_eq_nil_of_le (by omega), List.drop_eq_nil_of_le (by omega)]
    rfl
  | d + 1, i, h => by
    have hi : i < a.length := by omega
    have c1 : decide ((i : Int) < (a.length : Int)) = true := decide_eq_true (by omega)
    have c3 : decide ((i : Int) < (b.length : Int)) = true := decide_eq_true (by omega)
    have c2 : decide (0 ≤ (i : Int)) = true := decide_eq_true (by omega)
    have hw : IntKind.i64.wrap ((i : Int) + 1) = ((i + 1 : Nat) : Int) := by rw [wrapi (by omega) (by omega)]; omega
    have h1 : a.getD i .zero = a[i] := by simp [List.getD, List.getElem?_eq_getElem hi]
    have h2 : b.getD i .zero = b[i]'(by omega) := by simp [List.getD, List.getElem?_eq_getElem (show i < b.length by omega)]
    rw [L61_4]
    simp only [T61_4, c1, c2, c3, hw, eqIts_loop a b hl hs d (i + 1) (by omega), bsel_true, Int.toNat_natCast, unIt_itF]
    rw [List.drop_eq_getElem_cons hi, List.drop_eq_getElem_cons (show i < b.length by omega), sameItsV, h1, h2]
    cases sameItV a[i] (b[i]'(by omega)) <;> rfl
def shortItsV (l : List It) : Bool := decide (l.length ≤ 1048576)
def preEqIts : List F → Bool | [a, b] => isItems a && isItems b && shortItsV (unItems a) | _ => false
def resEqIts : List F → F | [a, b] => .bool (sameItsV (unItems a) (unItems b)) | _ => .dflt
theorem eqIts_law (a b : List It) (hs : shortItsV a = true) : G61 (a.length + 1) a b = some (sameItsV a b) := by
  unfold G61 T61
  rw [bne]
  cases h : ((a.length : Int) == (b.length : Int)) with
  | true => exact eqIts_loop a b (by have := eq_of_beq h; omega) (of_decide_eq_true hs) a.length 0 (by omega)
  | false => rw [sameIts_ne a b fun e => by simp [e] at h]; rfl
theorem okEqIts : PureOK Try.prog 61 preEqIts resEqIts :=
  fn_pure_at (c := bodyOf Try.f61) Try.func61 (by kernel_rfl) (by kernel_rfl) fun xs hp => match xs, hp with
  | [a, b], hp => by
    simp only [preEqIts, Bool.and_eq_true] at hp
    exact ⟨[itemsF (unItems a), itemsF (unItems b)], _, ⟨(items_eqv hp.1.1).1, (items_eqv hp.1.2).1, trivial⟩, t61 _ _ _ _ (eqIts_law _ _ hp.2), .refl _⟩
def itZ : F := F.agg [F.int IntKind.i64 0, F.int IntKind.i64 0, F.int IntKind.i64 0, F.int IntKind.i64 0, F.int IntKind.i64 0]
theorem toIts_loop (a : List It) (hs : a.length ≤ 1048576) : ∀ (d i : Nat) (g : Nat → F), i + d = a.length → Fills itF .zero itZ a i g → ∃ g1, L74_3 (d + 1) a a.length g i = some (a.length, g1) ∧ Lists itF .zero a.length g1 a
  | 0, i, g, h, hg => by
    have c1 : decide ((i : Int) < (a.length : Int)) = false := decide_eq_false (by omega)
    obtain rfl : i = a.length := by omega
    exact ⟨g, by simp only [L74_3, T74_3, c1, bsel_false, decide_true, bsel_true], hg.lists⟩
  | d + 1, i, g, h, hg => by
    have hi : i < a.length := by omega
    have c1 : decide ((i : Int) < (a.length : Int)) = true := decide_eq_true (by omega)
    have c2 : decide (0 ≤ (i : Int)) = true := decide_eq_true (by omega)
    have c3 : decide (i < a.length) = true := decide_eq_true hi
    have hw : IntKind.i64.wrap ((i : Int) + 1) = ((i + 1 : Nat) : Int) := by rw [wrapi (by omega) (by omega)]; omega
    have c4 : g i = itZ := (hg i).2 (Nat.le_refl _)
    obtain ⟨g1, e1, e2⟩ := toIts_loop a hs d (i + 1) _ (by omega) hg.set
    refine ⟨g1, ?_, e2⟩
    rw [← e1, L74_3]
    simp only [T74_3, c1, c2, c3, hw, bsel_true, decide_true, Int.toNat_natCast, Nat.zero_add, c4, unIt_itF]
    rfl
def preIts : List F → Bool | [a] => isItems a && shortItsV (unItems a) | _ => false
def resIts : List F → F | [a] => itemsF (unItems a) | _ => .dflt
theorem toIts_law (a : List It) (hs : a.length ≤ 1048576) : ∃ g1, G74 (a.length + 1) a = some (a.length, g1) ∧ Lists itF .zero a.length g1 a := by
  obtain ⟨g1, e1, e2⟩ := toIts_loop a hs a.length 0 _ (by omega) Fills.zero
  refine ⟨g1, ?_, e2⟩
  have c3 : decide (((a.length : Nat) : Int) * (((40 : Nat) : Int) + 1) ≤ (limit : Int)) = true := by rw [limit_eq]; exact decide_eq_true (by omega)
  unfold G74 T74
  simp only [c3, Int.le_refl, decide_true, bsel_true, Int.toNat_natCast]
  exact e1
theorem okToIts : PureOK Try.prog 74 preIts resIts :=
  fn_pure_at (c := bodyOf Try.f74) Try.func74 (by kernel_rfl) (by kernel_rfl) fun xs hp => match xs, hp with
  | [a], hp => by
    simp only [preIts, Bool.and_eq_true] at hp
    obtain ⟨g1, e1, e2⟩ := toIts_law (unItems a) (of_decide_eq_true hp.2)
    exact ⟨[itemsF (unItems a)], _, ⟨(items_eqv hp.1).1, trivial⟩, t74 _ _ _ _ e1, e2.le⟩

/-! Right items: in bounds, and rising. -/
def risesV (p : Option Int) (n : Int) : Bool := match p with | none => true | some p => !decide (n ≤ p)
def itsOk : List It → Option Int → Bool
  | [], _ => true
  | t :: ts, p => inV t.id 1 1000 && segOkV t.x0 t.y0 t.x1 t.y1 && risesV p t.id && itsOk ts (some t.id)
def prevOf (l : List It) : Nat → Option Int
  | 0 => none
  | i + 1 => some (l.getD i .zero).id
/-- What a tree holds: its root with all that is in it, if it is right. -/
def treeV (q : Qd) : Tr × Bool :=
  bif limitsV q.most q.deep && !decide ((q.items.length : Int) > 40) && !decide ((q.blocks.length : Int) > 2000) && itsOk q.items none && (readV 9 q.blocks 0 (-1048576) (-1048576) 2097152 q.deep).2.2 &&
    (readV 9 q.blocks 0 (-1048576) (-1048576) 2097152 q.deep).2.1 == (q.blocks.length : Int) && rightV q.items (readV 9 q.blocks 0 (-1048576) (-1048576) 2097152 q.deep).1 then ((readV 9 q.blocks 0 (-1048576) (-1048576) 2097152 q.deep).1, true) else (.zero, false)
def okI (q : Qd) : Bool := limitsV q.most q.deep && !decide ((q.items.length : Int) > 40) && !decide ((q.blocks.length : Int) > 2000) && itsOk q.items none && checkV 9 q 0 (rootV q) 0 == (q.blocks.length : Int)
theorem rdKids_all {f : Int → Int → Tr × Int × Bool} {P : Tr → Prop} (hf : ∀ a k, (f a k).2.2 = true → P (f a k).1) : ∀ (ks : List Int) (a : Int) (ts : List Tr) (p : Int), rdKids f ks a = some (ts, p) → ∀ t ∈ ts, P t
  | [], a, ts, p, h => by simp only [rdKids, Option.some.injEq, Prod.mk.injEq] at h; rw [← h.1]; simp
  | k :: ks, a, ts, p, h => by
    rw [rdKids] at h
    cases hc : (f a k).2.2 with
    | false => rw [hc] at h; cases h
    | true =>
      rw [hc, cond_true] at h
      cases hr : rdKids f ks (f a k).2.1 with
      | none => rw [hr] at h; cases h
      | some r =>
        obtain ⟨ts', p'⟩ := r
        rw [hr] at h
        simp only [Option.some.injEq, Prod.mk.injEq] at h
        rw [← h.1]
        intro t ht
        rcases List.mem_cons.1 ht with rfl | ht
        · exact hf a k hc
        · exact rdKids_all hf ks _ _ _ hr t ht
theorem read_depth : ∀ (D : Nat) (l : List Bk) (a x y sz deep : Int), 0 ≤ deep → (readV D l a x y sz deep).2.2 = true → (trDepth (readV D l a x y sz deep).1 : Int) ≤ deep
  | 0, l, a, x, y, sz, deep, hd, h => by cases h
  | D + 1, l, a, x, y, sz, deep, hd, h => by
    have ih := read_depth D l
    rw [readV] at h ⊢
    generalize decide (a ≥ (l.length : Int)) = c1 at h ⊢
    generalize l.getD a.toNat .zero = b at h ⊢
    cases c1 with
    | true => cases h
    | false =>
      simp only [cond_false] at h ⊢
      cases hc : (b.x != x || b.y != y || b.size != sz || (b.split && (decide (deep < 1) || decide ((b.ids.length : Int) > 0)))) with
      | true => rw [hc] at h; cases h
      | false =>
        rw [hc] at h
        simp only [cond_false] at h ⊢
        cases hs : b.split with
        | false => simp only [Bool.not_false, cond_true, trDepth]; exact hd
        | true =>
          rw [hs] at hc h
          simp only [Bool.or_eq_false_iff, Bool.true_and, decide_eq_false_iff_not] at hc
          have hd1 : 1 ≤ deep := by omega
          simp only [Bool.not_true, cond_false] at h ⊢
          split
          · rename_i t0 t1 t2 t3 p hr
            have all := rdKids_all (P := fun t => (trDepth t : Int) ≤ deep - 1) (fun a k hk => ih a _ _ _ _ (by omega) hk) _ _ _ _ hr
            have h0 := all t0 (by simp)
            have h1 := all t1 (by simp)
            have h2 := all t2 (by simp)
            have h3 := all t3 (by simp)
            simp only [trDepth]
            have : max (max (trDepth t0) (trDepth t1)) (max (trDepth t2) (trDepth t3)) < deep.toNat := Nat.max_lt.2 ⟨Nat.max_lt.2 ⟨by omega, by omega⟩, Nat.max_lt.2 ⟨by omega, by omega⟩⟩
            omega
          · rename_i hne
            split at h
            · rename_i t0 t1 t2 t3 p hr; exact absurd hr (hne _ _ _ _ _)
            · cases h

/-! The two ways through a tree come to the same. -/
theorem kids_same (f : Int → Bk → Int) (g : Int → Int → Tr × Int × Bool) (R : Tr → Bool) (hp : ∀ a j, 0 ≤ a → (g a j).2.2 = true → 0 ≤ (g a j).2.1) : ∀ (zs : List (Bk × Int)), (∀ z ∈ zs, ∀ a, 0 ≤ a → f a z.1 = bif (g a z.2).2.2 && R (g a z.2).1 then (g a z.2).2.1 else -1) → ∀ a, 0 ≤ a →
    ckKids f (zs.map (·.1)) a = match rdKids g (zs.map (·.2)) a with | some (ts, p) => bif ts.all R then p else -1 | none => -1
  | [], _, a, ha => by simp [ckKids, rdKids]
  | z :: zs, hz, a, ha => by
    have h1 := hz z (by simp) a ha
    simp only [List.map_cons]
    rw [ckKids, rdKids, h1]
    cases hc : (g a z.2).2.2 with
    | false => rfl
    | true =>
      have hpos := hp a z.2 ha hc
      have ih := kids_same f g R hp zs (fun z' hz' => hz z' (by simp [hz'])) (g a z.2).2.1 hpos
      cases hR : R (g a z.2).1 with
      | false =>
        cases hr : rdKids g (zs.map (·.2)) (g a z.2).2.1 with
        | none => simp
        | some r => simp [hr, hR]
      | true =>
        have hneg : decide ((g a z.2).2.1 < 0) = false := decide_eq_false (by omega)
        simp only [Bool.and_self, cond_true, hneg, cond_false]
        rw [ih]
        cases hr : rdKids g (zs.map (·.2)) (g a z.2).2.1 with
        | none => rfl
        | some r => obtain ⟨ts, p⟩ := r; simp [hR]
theorem half_rng {s : Int} (h : 0 ≤ s ∧ s ≤ 2097152) : halfV s = s.tdiv 2 ∧ 0 ≤ s.tdiv 2 ∧ 2 * s.tdiv 2 ≤ s := by
  have e : s.tdiv 2 = s / 2 := Int.tdiv_eq_ediv_of_nonneg h.1
  unfold halfV
  rw [e]
  exact ⟨wrapi (by omega) (by omega), by omega, by omega⟩
theorem kids_len4 {f : Int → Int → Tr × Int × Bool} : ∀ (ks : List Int) (a : Int) (ts : List Tr) (p : Int), rdKids f ks a = some (ts, p) → ts.length = ks.length
  | [], a, ts, p, h => by simp only [rdKids, Option.some.injEq, Prod.mk.injEq] at h; rw [← h.1]; rfl
  | k :: ks, a, ts, p, h => by
    rw [rdKids] at h
    cases hc : (f a k).2.2 with
    | false => rw [hc] at h; cases h
    | true =>
      rw [hc, cond_true] at h
      cases hr : rdKids f ks (f a k).2.1 with
      | none => rw [hr] at h; cases h
      | some r =>
        obtain ⟨ts', p'⟩ := r
        rw [hr] at h
        simp only [Option.some.injEq, Prod.mk.injEq] at h
        rw [← h.1, List.length_cons, kids_len4 ks _ _ _ hr, List.length_cons]
theorem check_read : ∀ (D : Nat) (q : Qd) (a x y s deep : Int), 0 ≤ a → 0 ≤ deep → deep ≤ q.deep → q.deep < deep + D → 0 ≤ s ∧ s ≤ 2097152 → -1048576 ≤ x ∧ x + s ≤ 1048576 → -1048576 ≤ y ∧ y + s ≤ 1048576 →
    checkV D q a (squareV q x y s) deep = bif (readV D q.blocks a x y s (q.deep - deep)).2.2 && rightV q.items (readV D q.blocks a x y s (q.deep - deep)).1 then (readV D q.blocks a x y s (q.deep - deep)).2.1 else -1
  | 0, q, a, x, y, s, deep, ha, h0, h1, h2, hs, hx, hy => by omega
  | D + 1, q, a, x, y, s, deep, ha, h0, h1, h2, hs, hx, hy => by
    have ih := check_read D q
    rw [checkV, readV]
    cases hc : decide (a ≥ (q.blocks.length : Int)) with
    | true => rfl
    | false =>
      generalize q.blocks.getD a.toNat .zero = b
      simp only [cond_false, squareV]
      cases hX : (b.x != x) with
      | true => rfl
      | false => cases hY : (b.y != y) with
        | true => rfl
        | false => cases hZ : (b.size != s) with
          | true => rfl
          | false => cases hS : b.split with
            | false =>
              simp only [Bool.false_and, Bool.or_self, cond_false, Bool.not_false, cond_true, rightV, Bool.true_and, sameV]
            | true => cases hL : decide ((b.ids.length : Int) > 0) with
              | true => simp
              | false =>
                simp only [Bool.or_self, Bool.or_false, Bool.true_and, Bool.false_or, cond_false, Bool.not_true]
                cases hd : (deep == q.deep) with
                | true =>
                  have : decide (q.deep - deep < 1) = true := decide_eq_true (by have := eq_of_beq hd; omega)
                  rw [this]
                  rfl
                | false =>
                  have hd' : deep ≠ q.deep := by simpa using hd
                  have hdd : decide (q.deep - deep < 1) = false := decide_eq_false (by omega)
                  rw [hdd]
                  simp only [cond_false]
                  obtain ⟨e1, e2, e3⟩ := half_rng hs
                  have w0 : IntKind.i64.wrap ((0 : Int).tmod 2 * halfV s) = 0 := by rw [Int.zero_tmod, Int.zero_mul]; exact wrapi (by omega) (by omega)
                  have w1 : IntKind.i64.wrap ((1 : Int).tmod 2 * halfV s) = halfV s := by rw [show (1 : Int).tmod 2 = 1 by decide, Int.one_mul, e1]; exact wrapi (by omega) (by omega)
                  have w2 : IntKind.i64.wrap ((2 : Int).tmod 2 * halfV s) = 0 := by rw [show (2 : Int).tmod 2 = 0 by decide, Int.zero_mul]; exact wrapi (by omega) (by omega)
                  have w3 : IntKind.i64.wrap ((3 : Int).tmod 2 * halfV s) = halfV s := by rw [show (3 : Int).tmod 2 = 1 by decide, Int.one_mul, e1]; exact wrapi (by omega) (by omega)
                  have v0 : IntKind.i64.wrap (IntKind.i64.wrap ((0 : Int).tdiv 2) * halfV s) = 0 := by rw [show IntKind.i64.wrap ((0 : Int).tdiv 2) = 0 by decide, Int.zero_mul]; exact wrapi (by omega) (by omega)
                  have v1 : IntKind.i64.wrap (IntKind.i64.wrap ((1 : Int).tdiv 2) * halfV s) = 0 := by rw [show IntKind.i64.wrap ((1 : Int).tdiv 2) = 0 by decide, Int.zero_mul]; exact wrapi (by omega) (by omega)
                  have v2 : IntKind.i64.wrap (IntKind.i64.wrap ((2 : Int).tdiv 2) * halfV s) = halfV s := by rw [show IntKind.i64.wrap ((2 : Int).tdiv 2) = 1 by decide, Int.one_mul, e1]; exact wrapi (by omega) (by omega)
                  have v3 : IntKind.i64.wrap (IntKind.i64.wrap ((3 : Int).tdiv 2) * halfV s) = halfV s := by rw [show IntKind.i64.wrap ((3 : Int).tdiv 2) = 1 by decide, Int.one_mul, e1]; exact wrapi (by omega) (by omega)
                  have x0 : IntKind.i64.wrap (x + 0) = x := wrapi (by omega) (by omega) |>.trans (by omega)
                  have y0 : IntKind.i64.wrap (y + 0) = y := wrapi (by omega) (by omega) |>.trans (by omega)
                  have x1 : IntKind.i64.wrap (x + halfV s) = x + s.tdiv 2 := by rw [e1]; exact wrapi (by omega) (by omega)
                  have y1 : IntKind.i64.wrap (y + halfV s) = y + s.tdiv 2 := by rw [e1]; exact wrapi (by omega) (by omega)
                  have hk : kidsV q ⟨x, y, s, false, metFrom q.items x y s 0⟩ = [(squareV q x y (s.tdiv 2), (0 : Int)), (squareV q (x + s.tdiv 2) y (s.tdiv 2), 1), (squareV q x (y + s.tdiv 2) (s.tdiv 2), 2), (squareV q (x + s.tdiv 2) (y + s.tdiv 2) (s.tdiv 2), 3)].map (·.1) := by
                    rw [e1] at x1 y1
                    simp only [kidsV, e1, x1, y1, List.map_cons, List.map_nil]
                  have hf : q.deep - deep - 1 = q.deep - (deep + 1) := by omega
                  have hgd : (fun a k => readV D q.blocks a (IntKind.i64.wrap (x + IntKind.i64.wrap ((k.tmod 2) * halfV s))) (IntKind.i64.wrap (y + IntKind.i64.wrap (IntKind.i64.wrap (k.tdiv 2) * halfV s))) (halfV s) (q.deep - deep - 1)) = rdF D q.blocks x y s (q.deep - deep) := rfl
                  rw [hgd, hk]
                  have key := kids_same (fun a b => checkV D q a b (deep + 1)) (rdF D q.blocks x y s (q.deep - deep)) (rightV q.items) (fun a j ha hb => read_pos D _ _ _ _ _ _ ha hb)
                    [(squareV q x y (s.tdiv 2), (0 : Int)), (squareV q (x + s.tdiv 2) y (s.tdiv 2), 1), (squareV q x (y + s.tdiv 2) (s.tdiv 2), 2), (squareV q (x + s.tdiv 2) (y + s.tdiv 2) (s.tdiv 2), 3)] (fun z hz a ha => by
                      simp only [List.mem_cons, List.not_mem_nil, or_false] at hz
                      rcases hz with rfl | rfl | rfl | rfl
                      · have hr : rdF D q.blocks x y s (q.deep - deep) a 0 = readV D q.blocks a x y (s.tdiv 2) (q.deep - (deep + 1)) := by unfold rdF; rw [w0, v0, x0, y0, e1, hf]
                        simp only [hr]
                        exact ih a x y _ (deep + 1) ha (by omega) (by omega) (by omega) (by omega) (by omega) (by omega)
                      · have hr : rdF D q.blocks x y s (q.deep - deep) a 1 = readV D q.blocks a (x + s.tdiv 2) y (s.tdiv 2) (q.deep - (deep + 1)) := by unfold rdF; rw [w1, v1, x1, y0, e1, hf]
                        simp only [hr]
                        exact ih a _ y _ (deep + 1) ha (by omega) (by omega) (by omega) (by omega) (by omega) (by omega)
                      · have hr : rdF D q.blocks x y s (q.deep - deep) a 2 = readV D q.blocks a x (y + s.tdiv 2) (s.tdiv 2) (q.deep - (deep + 1)) := by unfold rdF; rw [w2, v2, x0, y1, e1, hf]
                        simp only [hr]
                        exact ih a x _ _ (deep + 1) ha (by omega) (by omega) (by omega) (by omega) (by omega) (by omega)
                      · have hr : rdF D q.blocks x y s (q.deep - deep) a 3 = readV D q.blocks a (x + s.tdiv 2) (y + s.tdiv 2) (s.tdiv 2) (q.deep - (deep + 1)) := by unfold rdF; rw [w3, v3, x1, y1, e1, hf]
                        simp only [hr]
                        exact ih a _ _ _ (deep + 1) ha (by omega) (by omega) (by omega) (by omega) (by omega) (by omega)) (a + 1) (by omega)
                  rw [key]
                  have hm : ([(squareV q x y (s.tdiv 2), (0 : Int)), (squareV q (x + s.tdiv 2) y (s.tdiv 2), 1), (squareV q x (y + s.tdiv 2) (s.tdiv 2), 2), (squareV q (x + s.tdiv 2) (y + s.tdiv 2) (s.tdiv 2), 3)].map (·.2)) = [0, 1, 2, 3] := rfl
                  rw [hm]
                  cases hr : rdKids (rdF D q.blocks x y s (q.deep - deep)) [0, 1, 2, 3] (a + 1) with
                  | none => rfl
                  | some r =>
                    obtain ⟨ts, p⟩ := r
                    have hlen := kids_len4 _ _ _ _ hr
                    match ts, hlen with
                    | [t0, t1, t2, t3], _ =>
                      simp only [List.all_cons, List.all_nil, Bool.and_true, rightV, Bool.true_and]
                      cases rightV q.items t0 <;> cases rightV q.items t1 <;> cases rightV q.items t2 <;> cases rightV q.items t3 <;> rfl
theorem okI_tree (q : Qd) : okI q = (treeV q).2 := by
  unfold okI treeV
  cases h1 : limitsV q.most q.deep with
  | false => rfl
  | true =>
    have hd : 0 ≤ q.deep ∧ q.deep ≤ 8 := by
      simp only [limitsV, inV, Bool.and_eq_true, decide_eq_true_eq] at h1
      exact h1.2
    have := check_read 9 q 0 (-1048576) (-1048576) 2097152 0 (by omega) (by omega) (by omega) (by omega) (by omega) (by omega) (by omega)
    have hr : rootV q = squareV q (-1048576) (-1048576) 2097152 := rfl
    rw [hr, this, Int.sub_zero]
    generalize (!decide ((q.items.length : Int) > 40)) = c1
    generalize (!decide ((q.blocks.length : Int) > 2000)) = c2
    generalize itsOk q.items none = c3
    have hpos : (readV 9 q.blocks 0 (-1048576) (-1048576) 2097152 q.deep).2.2 = true → 0 ≤ (readV 9 q.blocks 0 (-1048576) (-1048576) 2097152 q.deep).2.1 := read_pos 9 _ _ _ _ _ _ (by omega)
    generalize readV 9 q.blocks 0 (-1048576) (-1048576) 2097152 q.deep = r at hpos ⊢
    have hneg : ((-1 : Int) == (q.blocks.length : Int)) = false := by
      rw [beq_eq_false_iff_ne]; omega
    cases c1 <;> cases c2 <;> cases c3 <;> simp only [Bool.and_false, Bool.false_and, Bool.and_true, Bool.true_and, cond_false]
    cases hb : r.2.2 with
    | false => simp [hneg]
    | true =>
      cases hR : rightV q.items r.1 with
      | false => simp [hneg]
      | true =>
        simp only [Bool.and_true, Bool.true_and, cond_true]
        cases (r.2.1 == (q.blocks.length : Int)) <;> rfl

theorem prev_at (l : List It) {i : Nat} (h : 0 < i) : prevOf l i = some (l.getD (i - 1) .zero).id := by
  match i, h with
  | i + 1, _ => rfl
def treeEnd (q : Qd) : Tr × Bool := bif (readV 9 q.blocks 0 (-1048576) (-1048576) 2097152 q.deep).2.2 && (readV 9 q.blocks 0 (-1048576) (-1048576) 2097152 q.deep).2.1 == (q.blocks.length : Int) && rightV q.items (readV 9 q.blocks 0 (-1048576) (-1048576) 2097152 q.deep).1 then ((readV 9 q.blocks 0 (-1048576) (-1048576) 2097152 q.deep).1, true) else (.zero, false)
def nilTr : F := F.agg [F.int IntKind.i64 0, F.int IntKind.i64 0, F.int IntKind.i64 0, F.sl 0 fun x => F.bool false, F.sl 0 fun x => F.bool false]
theorem nilTr_le : FLe nilTr (trF .zero) := FLe.agg ⟨.refl _, .refl _, .refl _, FLe.sl fun j hj => absurd hj (Nat.not_lt_zero _), FLe.sl fun j hj => absurd hj (Nat.not_lt_zero _), trivial⟩
theorem root_loop (q : Qd) (hs : allShortV q.blocks = true) (hn : q.items.length ≤ 40) (hd : 0 ≤ q.deep ∧ q.deep ≤ 8) : ∀ (m i : Nat), i + m = q.items.length →
    ∃ rt, L73_4 (m + 1) q i = some (rt, (bif itsOk (q.items.drop i) (prevOf q.items i) then treeEnd q else (.zero, false)).2) ∧ FLe rt (trF (bif itsOk (q.items.drop i) (prevOf q.items i) then treeEnd q else (.zero, false)).1)
  | 0, i, h => by
    have c1 : decide ((i : Int) < (q.items.length : Int)) = false := decide_eq_false (by omega)
    have c2 : readOk 9 q.blocks 0 q.deep = true := by
      simp only [readOk, hs, Bool.true_and, Bool.and_eq_true, decide_eq_true_eq]
      omega
    rw [List.drop_eq_nil_of_le (by omega)]
    simp only [L73_4, T73_4, c1, bsel_false, isBlocks_blocksF, unBlocks_blocksF, c2, Bool.and_true, bsel_true, isTr_trF, unTr_trF, isItems_itemsF, unItems_itemsF, itsOk, cond_true, treeEnd]
    have hdep := read_depth 9 q.blocks 0 (-1048576) (-1048576) 2097152 q.deep hd.1
    generalize readV 9 q.blocks 0 (-1048576) (-1048576) 2097152 q.deep = r at hdep ⊢
    cases hb : r.2.2 with
    | false => exact ⟨nilTr, rfl, nilTr_le⟩
    | true =>
      rw [bne]
      cases hc : (r.2.1 == (q.blocks.length : Int)) with
      | false => exact ⟨nilTr, rfl, nilTr_le⟩
      | true =>
        have hr : rightOk 9 r.1 q.items = true := by
          simp only [rightOk, Bool.and_eq_true, decide_eq_true_eq]
          have := hdep hb
          omega
        simp only [hr, Bool.and_true, Bool.true_and]
        cases hR : rightV q.items r.1 with
        | false => exact ⟨nilTr, rfl, nilTr_le⟩
        | true => exact ⟨trF r.1, rfl, .refl _⟩
  | m + 1, i, h => by
    have hi : i < q.items.length := by omega
    have c1 : decide ((i : Int) < (q.items.length : Int)) = true := decide_eq_true (by omega)
    have c2 : decide (0 ≤ (i : Int)) = true := decide_eq_true (by omega)
    have hw : IntKind.i64.wrap ((i : Int) + 1) = ((i + 1 : Nat) : Int) := by rw [wrapi (by omega) (by omega)]; omega
    have h1 : q.items.getD i .zero = q.items[i] := by simp [List.getD, List.getElem?_eq_getElem hi]
    have hp1 : prevOf q.items (i + 1) = some q.items[i].id := by rw [← h1]; rfl
    obtain ⟨rt, e1, e2⟩ := root_loop q hs hn hd m (i + 1) (by omega)
    rw [hp1] at e1 e2
    rw [List.drop_eq_getElem_cons hi, itsOk, L73_4]
    simp only [T73_4, c1, c2, hw, bsel_true, Int.toNat_natCast, h1]
    cases inV q.items[i].id 1 1000 with
    | false => exact ⟨nilTr, rfl, nilTr_le⟩
    | true => cases segOkV q.items[i].x0 q.items[i].y0 q.items[i].x1 q.items[i].y1 with
      | false => exact ⟨nilTr, rfl, nilTr_le⟩
      | true =>
        simp only [Bool.not_true, beq_self_eq_true, bsel_true, Bool.and_self, Bool.true_and]
        by_cases h0 : i = 0
        · subst h0
          exact ⟨rt, e1, e2⟩
        · have c3 : decide ((i : Int) > 0) = true := decide_eq_true (by omega)
          have hw2 : IntKind.i64.wrap ((i : Int) - 1) = ((i - 1 : Nat) : Int) := by rw [wrapi (by omega) (by omega)]; omega
          have c4 : decide (0 ≤ ((i - 1 : Nat) : Int)) = true := decide_eq_true (by omega)
          have c5 : decide (((i - 1 : Nat) : Int) < (q.items.length : Int)) = true := decide_eq_true (by omega)
          rw [prev_at _ (by omega)]
          simp only [risesV, c3, hw2, c4, c5, bsel_true, beq_self_eq_true, Int.toNat_natCast]
          have hge : decide ((q.items.getD (i - 1) It.zero).id ≥ q.items[i].id) = decide (q.items[i].id ≤ (q.items.getD (i - 1) It.zero).id) := rfl
          rw [hge]
          cases decide (q.items[i].id ≤ (q.items.getD (i - 1) It.zero).id) with
          | true => exact ⟨nilTr, rfl, nilTr_le⟩
          | false => exact ⟨rt, e1, e2⟩
def okQd (q : Qd) : Bool := allShortV q.blocks
def preTree : List F → Bool | [q] => isQd q && okQd (unQd q) | _ => false
def resTree : List F → F | [q] => .tup [trF (treeV (unQd q)).1, .bool (treeV (unQd q)).2] | _ => .dflt
theorem root_spec (q : Qd) (hs : allShortV q.blocks = true) : ∃ rt, G73 (q.items.length + 1) q = some (rt, (treeV q).2) ∧ FLe rt (trF (treeV q).1) := by
  unfold G73 T73 treeV
  cases h1 : limitsV q.most q.deep with
  | false => exact ⟨nilTr, rfl, nilTr_le⟩
  | true => cases h2 : decide ((q.items.length : Int) > 40) with
    | true => exact ⟨nilTr, rfl, nilTr_le⟩
    | false => cases h3 : decide ((q.blocks.length : Int) > 2000) with
      | true => exact ⟨nilTr, rfl, nilTr_le⟩
      | false =>
        have hd : 0 ≤ q.deep ∧ q.deep ≤ 8 := by
          simp only [limitsV, inV, Bool.and_eq_true, decide_eq_true_eq] at h1
          exact h1.2
        have h2' := of_decide_eq_false h2
        obtain ⟨rt, e1, e2⟩ := root_loop q hs (by omega) hd q.items.length 0 (by omega)
        rw [List.drop_zero] at e1 e2
        have e : (bif itsOk q.items (prevOf q.items 0) then treeEnd q else (Tr.zero, false)) = (bif limitsV q.most q.deep && !decide ((q.items.length : Int) > 40) && !decide ((q.blocks.length : Int) > 2000) && itsOk q.items none && (readV 9 q.blocks 0 (-1048576) (-1048576) 2097152 q.deep).2.2 &&
            (readV 9 q.blocks 0 (-1048576) (-1048576) 2097152 q.deep).2.1 == (q.blocks.length : Int) && rightV q.items (readV 9 q.blocks 0 (-1048576) (-1048576) 2097152 q.deep).1 then ((readV 9 q.blocks 0 (-1048576) (-1048576) 2097152 q.deep).1, true) else (.zero, false)) := by
          rw [h1, h2, h3]
          have hp : prevOf q.items 0 = none := rfl
          rw [hp]
          unfold treeEnd
          cases itsOk q.items none with
          | false => rfl
          | true => simp only [cond_true, Bool.true_and, Bool.not_false]
        rw [h1, h2, h3] at e
        rw [e] at e1 e2
        exact ⟨rt, e1, e2⟩
theorem okTree : PureOK Try.prog 73 preTree resTree :=
  fn_pure_at (c := bodyOf Try.f73) Try.func73 (by kernel_rfl) (by kernel_rfl) fun xs hp => match xs, hp with
  | [q], hp => by
    simp only [preTree, Bool.and_eq_true] at hp
    obtain ⟨rt, e1, e2⟩ := root_spec (unQd q) hp.2
    exact ⟨[qdF (unQd q)], _, ⟨(qd_eqv hp.1).1, trivial⟩, t73 _ _ _ _ e1, FLe.tup ⟨e2, .refl _, trivial⟩⟩
theorem okI_loop (q : Qd) (hs : allShortV q.blocks = true) (hn : q.items.length ≤ 40) (hd : 0 ≤ q.deep ∧ q.deep ≤ 8) : ∀ (m i : Nat), i + m = q.items.length →
    L37_4 (m + 1) q i = some (itsOk (q.items.drop i) (prevOf q.items i) && checkV 9 q 0 (rootV q) 0 == (q.blocks.length : Int))
  | 0, i, h => by
    have c1 : decide ((i : Int) < (q.items.length : Int)) = false := decide_eq_false (by omega)
    have c2 : checkOk 9 q 0 0 = true := by
      simp only [checkOk, hs, Bool.true_and, Bool.and_eq_true, decide_eq_true_eq]
      omega
    have c3 : fewV q = true := decide_eq_true hn
    have hr : resRoot [qdF q] = bkF (rootV (unQd (qdF q))) := rfl
    rw [List.drop_eq_nil_of_le (by omega)]
    simp only [L37_4, T37_4, c1, bsel_false, isQd_qdF, c3, hr, unQd_qdF, isBk_bkF, unBk_bkF, c2, Bool.and_true, bsel_true, itsOk, Bool.true_and]
  | m + 1, i, h => by
    have hi : i < q.items.length := by omega
    have c1 : decide ((i : Int) < (q.items.length : Int)) = true := decide_eq_true (by omega)
    have c2 : decide (0 ≤ (i : Int)) = true := decide_eq_true (by omega)
    have hw : IntKind.i64.wrap ((i : Int) + 1) = ((i + 1 : Nat) : Int) := by rw [wrapi (by omega) (by omega)]; omega
    have h1 : q.items.getD i .zero = q.items[i] := by simp [List.getD, List.getElem?_eq_getElem hi]
    have hp1 : prevOf q.items (i + 1) = some q.items[i].id := by rw [← h1]; rfl
    have ih := okI_loop q hs hn hd m (i + 1) (by omega)
    rw [hp1] at ih
    rw [List.drop_eq_getElem_cons hi, itsOk, L37_4]
    simp only [T37_4, c1, c2, hw, bsel_true, Int.toNat_natCast, h1]
    cases inV q.items[i].id 1 1000 with
    | false => rfl
    | true => cases segOkV q.items[i].x0 q.items[i].y0 q.items[i].x1 q.items[i].y1 with
      | false => rfl
      | true =>
        simp only [Bool.not_true, beq_self_eq_true, bsel_true, Bool.and_self, Bool.true_and]
        by_cases h0 : i = 0
        · subst h0
          exact ih
        · have c3 : decide ((i : Int) > 0) = true := decide_eq_true (by omega)
          have hw2 : IntKind.i64.wrap ((i : Int) - 1) = ((i - 1 : Nat) : Int) := by rw [wrapi (by omega) (by omega)]; omega
          have c4 : decide (0 ≤ ((i - 1 : Nat) : Int)) = true := decide_eq_true (by omega)
          have c5 : decide (((i - 1 : Nat) : Int) < (q.items.length : Int)) = true := decide_eq_true (by omega)
          rw [prev_at _ (by omega)]
          simp only [risesV, c3, hw2, c4, c5, bsel_true, beq_self_eq_true, Int.toNat_natCast]
          cases decide (q.items[i].id ≤ (q.items.getD (i - 1) It.zero).id) with
          | true => rfl
          | false => exact ih
theorem okI_impl (q : Qd) (hs : allShortV q.blocks = true) : G37 (q.items.length + 1) q = some (okI q) := by
  unfold G37 T37 okI limitsV
  cases h1 : inV q.most 1 8 with
  | false => rfl
  | true => cases h4 : inV q.deep 0 8 with
    | false => rfl
    | true => cases h2 : decide ((q.items.length : Int) > 40) with
      | true => rfl
      | false => cases h3 : decide ((q.blocks.length : Int) > 2000) with
        | true => rfl
        | false =>
          have hd : 0 ≤ q.deep ∧ q.deep ≤ 8 := by
            simp only [inV, Bool.and_eq_true, decide_eq_true_eq] at h4
            exact h4
          have h2' := of_decide_eq_false h2
          have := okI_loop q hs (by omega) hd q.items.length 0 (by omega)
          simp only [Bool.not_true, Bool.not_false, Bool.true_and, beq_self_eq_true, bsel_true, bsel_false]
          exact this
def resOk : List F → F | [q] => .bool (treeV (unQd q)).2 | _ => .dflt
theorem okQuadOkI : PureOK Try.prog 37 preTree resOk :=
  fn_pure_at (c := bodyOf Try.f37) Try.func37 (by kernel_rfl) (by kernel_rfl) fun xs hp => match xs, hp with
  | [q], hp => by
    simp only [preTree, Bool.and_eq_true] at hp
    have h := okI_impl (unQd q) hp.2
    rw [okI_tree] at h
    exact ⟨[qdF (unQd q)], _, ⟨(qd_eqv hp.1).1, trivial⟩, t37 _ _ _ h, .refl _⟩
def envQ5 : Env := (((envQ4.add 61 (.pure preEqIts resEqIts)).add 74 (.pure preIts resIts)).add 73 (.pure preTree resTree)).add 37 (.pure preTree resOk)
theorem envQ5_ok : EnvOK Try.prog envQ5 := Env.add_ok (Env.add_ok (Env.add_ok (Env.add_ok envQ4_ok okEqIts.sp) okToIts.sp) okTree.sp) okQuadOkI.sp
end
end Go.Proofs.Ytjbilidfnfnpfaa.R
