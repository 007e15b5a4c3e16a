/-
  The walk of trees: how a block and all in it is gone through, by both.
-/
import Derived.Test.YtjbilidfnfnpfaaQ4a
namespace Go.Proofs.Ytjbilidfnfnpfaa.R
open Go
noncomputable section
set_option linter.unusedVariables false
set_option linter.unusedSimpArgs false
set_option maxRecDepth 100000
/-! ### function 76 -/
def S76_14 (q : Qd) (at1 : Int) (deep : Int) (ks : List Bk) (i : Int) : St := ⟨[.bad, (U.f (F.int .i64 at1)), .bad, (U.f (F.int .i64 deep)), (U.hp 0 0), .bad, .bad, .bad, .bad, .bad, .bad, .bad, .bad, .bad, .bad, .bad, .bad, .bad, .bad, .bad, .bad, .bad, .bad, .bad, .bad, .bad, .bad, .bad, .bad, .bad, .bad, .bad, .bad, .bad, .bad, .bad, .bad, .bad, .bad, .bad, .bad, .bad, .bad, .bad, .bad, .bad, .bad, .bad, .bad, .bad, .bad, .bad, .bad, .bad, .bad, .bad, .bad, .bad, .bad, .bad, .bad, .bad, .bad, .bad, .bad, (U.f (blocksF ks)), (U.f (F.int .i64 ks.length)), (U.f (F.int .i64 i)), .bad, .bad, .bad, .bad, .bad, .bad, .bad, .bad, .bad, .bad, .bad, .bad, .bad], [HO.box [(U.f (F.int .i64 q.most)), (U.f (F.int .i64 q.deep)), (U.f (itemsF q.items)), (U.f (blocksF q.blocks))]]⟩
def T76_14 {ρ : Type} (D : Nat) (ret : (Int) → Option ρ) (c14 : (Qd) → (Int) → (Int) → (List Bk) → (Int) → Option ρ) (q : Qd) (at1 : Int) (deep : Int) (ks : List Bk) (i : Int) : Option ρ :=
  (bsel (decide (i < (↑ks.length : Int)))
   (bsel (decide (0 ≤ i))
    (bsel (decide (i < (↑ks.length : Int)))
     (bsel (isQd (qdF q) && fewV (unQd (qdF q)) && isBk (bkF (ks.getD i.toNat Bk.zero)) && checkOk D (unQd (qdF q)) at1 (IntKind.i64.wrap (deep + 1)))
      (bsel (decide (checkV D (unQd (qdF q)) at1 (unBk (bkF (ks.getD i.toNat Bk.zero))) (IntKind.i64.wrap (deep + 1)) < 0))
       (ret (-1))
       (c14 (q) (checkV D (unQd (qdF q)) at1 (unBk (bkF (ks.getD i.toNat Bk.zero))) (IntKind.i64.wrap (deep + 1))) (deep) (ks) (IntKind.i64.wrap (i + 1))))
      none)
     none)
    none)
   (ret (at1)))
def L76_14 (D : Nat) : Nat → (Qd) → (Int) → (Int) → (List Bk) → (Int) → Option (Int)
  | 0, _, _, _, _, _ => none
  | k + 1, q, at1, deep, ks, i => T76_14 D some (L76_14 D k) q at1 deep ks i
def T76 {ρ : Type} (D : Nat) (ret : (Int) → Option ρ) (c14 : (Qd) → (Int) → (Int) → (List Bk) → (Int) → Option ρ) (q : Qd) (at1 : Int) (due : Bk) (deep : Int) : Option ρ :=
  (bsel (decide (at1 ≥ (↑q.blocks.length : Int)))
   (ret (-1))
   (bsel (decide (0 ≤ at1))
    (bsel (decide (at1 < (↑q.blocks.length : Int)))
     (bsel (((q.blocks.getD at1.toNat Bk.zero).x != due.x) == false)
      (bsel (((q.blocks.getD at1.toNat Bk.zero).y != due.y) == false)
       (bsel ((q.blocks.getD at1.toNat Bk.zero).size != due.size)
        (ret (-1))
        (bsel (!(q.blocks.getD at1.toNat Bk.zero).split)
         (bsel (isInts (intsF (q.blocks.getD at1.toNat Bk.zero).ids) && isInts (intsF due.ids) && shortV (unInts (intsF (q.blocks.getD at1.toNat Bk.zero).ids)))
          (bsel (!sameV (unInts (intsF (q.blocks.getD at1.toNat Bk.zero).ids)) (unInts (intsF due.ids)))
           (ret (-1))
           (ret (IntKind.i64.wrap (at1 + 1))))
          none)
         (bsel (decide ((↑(q.blocks.getD at1.toNat Bk.zero).ids.length : Int) > 0) == false)
          (bsel (deep == q.deep)
           (ret (-1))
           (bsel (isQd (qdF q) && fewV (unQd (qdF q)) && isBk (bkF due))
            (c14 (q) (IntKind.i64.wrap (at1 + 1)) (deep) (kidsV (unQd (qdF q)) (unBk (bkF due))) (0))
            none))
          (ret (-1)))))
       (ret (-1)))
      (ret (-1)))
     none)
    none))
def G76 (D : Nat) (k : Nat) (q : Qd) (at1 : Int) (due : Bk) (deep : Int) : Option (Int) := T76 D some (L76_14 D k) q at1 due deep
theorem t76_14 (D : Nat) (hE : EnvOK Try.prog (envCk D)) : ∀ (k : Nat) (q : Qd) (at1 : Int) (deep : Int) (ks : List Bk) (i : Int) (r : Int), L76_14 D k q at1 deep ks i = some r → Ends Try.prog Try.f76.results.toList (at_ Try.f76 14) (S76_14 q at1 deep ks i) (F.int .i64 r)
  | 0, _, _, _, _, _, _, h => nomatch h
  | k + 1, q, at1, deep, ks, i, r, h => by
    refine Ends.of_cut tyOK hE (T := [(14, [1, 3, 4, 65, 66, 67], 1000)]) (n := 200) ?_
    have e : runCut Try.prog (tiOf Try.prog) (envCk D) [(14, [1, 3, 4, 65, 66, 67], 1000)] 0 Try.f76.results.toList some 200 (at_ Try.f76 14) (S76_14 q at1 deep ks i) = T76_14 D (fun r => some (.ret (F.int .i64 r))) (fun q at1 deep ks i => some (.cut (at_ Try.f76 14) (S76_14 q at1 deep ks i))) q at1 deep ks i := by kernel_rfl
    rw [e]
    exact (good_sel h (fun _ h => (good_sel h (fun _ h => (good_sel h (fun _ h => (good_sel h (fun _ h => (good_sel h (fun _ h => good_ret (by cases h; rfl)) (fun _ h => good_cut (t76_14 D hE k _ _ _ _ _ r h)))) (fun _ h => nomatch h))) (fun _ h => nomatch h))) (fun _ h => nomatch h))) (fun _ h => good_ret (by cases h; rfl)))
theorem t76 (D : Nat) (hE : EnvOK Try.prog (envCk D)) (k : Nat) (q : Qd) (at1 : Int) (due : Bk) (deep : Int) (r : Int) (h : G76 D k q at1 due deep = some r) : Ends Try.prog Try.f76.results.toList [.code (bodyOf Try.f76)] (start Try.f76.ntmps ([qdF q, F.int .i64 at1, bkF due, F.int .i64 deep].map .f)) (F.int .i64 r) := by
  refine Ends.of_run tyOK hE (T := [(14, [1, 3, 4, 65, 66, 67], 1000)]) (n := 200) ?_
  have e : run Try.prog (tiOf Try.prog) (envCk D) [(14, [1, 3, 4, 65, 66, 67], 1000)] 0 Try.f76.results.toList some 200 [.code (bodyOf Try.f76)] (start Try.f76.ntmps ([qdF q, F.int .i64 at1, bkF due, F.int .i64 deep].map .f)) = T76 D (fun r => some (.ret (F.int .i64 r))) (fun q at1 deep ks i => some (.cut (at_ Try.f76 14) (S76_14 q at1 deep ks i))) q at1 due deep := by kernel_rfl
  rw [e]
  exact (good_sel h (fun _ h => good_ret (by cases h; rfl)) (fun _ h => (good_sel h (fun _ h => (good_sel h (fun _ h => (good_sel h (fun _ h => (good_sel h (fun _ h => (good_sel h (fun _ h => good_ret (by cases h; rfl)) (fun _ h => (good_sel h (fun _ h => (good_sel h (fun _ h => (good_sel h (fun _ h => good_ret (by cases h; rfl)) (fun _ h => good_ret (by cases h; rfl)))) (fun _ h => nomatch h))) (fun _ h => (good_sel h (fun _ h => (good_sel h (fun _ h => good_ret (by cases h; rfl)) (fun _ h => (good_sel h (fun _ h => good_cut (t76_14 D hE k _ _ _ _ _ r h)) (fun _ h => nomatch h))))) (fun _ h => good_ret (by cases h; rfl)))))))) (fun _ h => good_ret (by cases h; rfl)))) (fun _ h => good_ret (by cases h; rfl)))) (fun _ h => nomatch h))) (fun _ h => nomatch h))))
/-! ### function 114 -/
def S114_11a (l : List Bk) (at1 : Int) (x : Int) (y : Int) (sz : Int) (deep : Int) (j : Int) (dn : Nat) (dg : Nat → F) : St := ⟨[(U.f (blocksF l)), (U.f (F.int .i64 at1)), (U.f (F.int .i64 x)), (U.f (F.int .i64 y)), (U.f (F.int .i64 sz)), (U.f (F.int .i64 deep)), .bad, .bad, .bad, .bad, .bad, .bad, (U.hp 0 0), .bad, .bad, .bad, (U.hp 2 0), (U.f (F.int .i64 j)), .bad, .bad, .bad, .bad, .bad, .bad, .bad, .bad, .bad, .bad, .bad, .bad, .bad, .bad, .bad, .bad, .bad, .bad, .bad, .bad, .bad, .bad, .bad, .bad, .bad, .bad, .bad, .bad, .bad, .bad, .bad, .bad, .bad, .bad, .bad, .bad, .bad, .bad, .bad, .bad, .bad, .bad, .bad, .bad, .bad, .bad, .bad, .bad, .bad, .bad, .bad, .bad, .bad, .bad, .bad, .bad, .bad, .bad, .bad, .bad, .bad, .bad, .bad, .bad, .bad, .bad, .bad, .bad, .bad, .bad, .bad, .bad, .bad, .bad, .bad, .bad, .bad, .bad, .bad, .bad, .bad, .bad, .bad, .bad, .bad, .bad, .bad, .bad, .bad, .bad, .bad, .bad, .bad, .bad, .bad, .bad, .bad, .bad, .bad], [HO.box [(U.f (F.int .i64 0)), (U.f (F.int .i64 0)), (U.f (F.int .i64 0)), U.nils, U.nils], HO.arr 1 dn dg, HO.box [(U.f (F.int .i64 x)), (U.f (F.int .i64 y)), (U.f (F.int .i64 sz)), U.nils, (U.hs 1 dn 0 dn)]]⟩
def S114_11b (l : List Bk) (at1 : Int) (x : Int) (y : Int) (sz : Int) (deep : Int) (j : Int) (dn : Nat) (dg : Nat → F) (n : Nat) (g : Nat → F) : St := ⟨[(U.f (blocksF l)), (U.f (F.int .i64 at1)), (U.f (F.int .i64 x)), (U.f (F.int .i64 y)), (U.f (F.int .i64 sz)), (U.f (F.int .i64 deep)), .bad, .bad, .bad, .bad, .bad, .bad, (U.hp 0 0), .bad, .bad, .bad, (U.hp 2 0), (U.f (F.int .i64 j)), .bad, .bad, .bad, .bad, .bad, .bad, .bad, .bad, .bad, .bad, .bad, .bad, .bad, .bad, .bad, .bad, .bad, .bad, .bad, .bad, .bad, .bad, .bad, .bad, .bad, .bad, .bad, .bad, .bad, .bad, .bad, .bad, .bad, .bad, .bad, .bad, .bad, .bad, .bad, .bad, .bad, .bad, .bad, .bad, .bad, .bad, .bad, .bad, .bad, .bad, .bad, .bad, .bad, .bad, .bad, .bad, .bad, .bad, .bad, .bad, .bad, .bad, .bad, .bad, .bad, .bad, .bad, .bad, .bad, .bad, .bad, .bad, .bad, .bad, .bad, .bad, .bad, .bad, .bad, .bad, .bad, .bad, .bad, .bad, .bad, .bad, .bad, .bad, .bad, .bad, .bad, .bad, .bad, .bad, .bad, .bad, .bad, .bad, .bad], [HO.box [(U.f (F.int .i64 0)), (U.f (F.int .i64 0)), (U.f (F.int .i64 0)), U.nils, U.nils], HO.arr 1 dn dg, HO.box [(U.f (F.int .i64 x)), (U.f (F.int .i64 y)), (U.f (F.int .i64 sz)), (U.hs 3 n 0 n), (U.hs 1 dn 0 dn)], HO.arr 5 n g]⟩
def T114_11a {ρ : Type} (D : Nat) (ret : (Int) → (Int) → (Int) → (Nat) → (Nat → F) → (Nat) → (Nat → F) → (Int) → (Bool) → Option ρ) (c11a : (List Bk) → (Int) → (Int) → (Int) → (Int) → (Int) → (Int) → (Nat) → (Nat → F) → Option ρ) (c11b : (List Bk) → (Int) → (Int) → (Int) → (Int) → (Int) → (Int) → (Nat) → (Nat → F) → (Nat) → (Nat → F) → Option ρ) (l : List Bk) (at1 : Int) (x : Int) (y : Int) (sz : Int) (deep : Int) (j : Int) (dn : Nat) (dg : Nat → F) : Option ρ :=
  (bsel (decide (j < 4))
   (bsel (isBlocks (blocksF l) && readOk D (unBlocks (blocksF l)) at1 (IntKind.i64.wrap (deep - 1)))
    (bsel (!(readV D (unBlocks (blocksF l)) at1 (IntKind.i64.wrap (x + IntKind.i64.wrap (j.tmod 2 * IntKind.i64.wrap (sz.tdiv 2)))) (IntKind.i64.wrap (y + IntKind.i64.wrap (IntKind.i64.wrap (j.tdiv 2) * IntKind.i64.wrap (sz.tdiv 2)))) (IntKind.i64.wrap (sz.tdiv 2)) (IntKind.i64.wrap (deep - 1))).snd.snd)
     (ret (0) (0) (0) (0) (fun x ↦ F.bool false) (0) (fun x ↦ F.bool false) (0) (false))
     (bsel (decide (((1 : Nat) : Int) * (((72 : Nat) : Int) + 1) ≤ (↑limit : Int)))
      (c11b (l) ((readV D (unBlocks (blocksF l)) at1 (IntKind.i64.wrap (x + IntKind.i64.wrap (j.tmod 2 * IntKind.i64.wrap (sz.tdiv 2)))) (IntKind.i64.wrap (y + IntKind.i64.wrap (IntKind.i64.wrap (j.tdiv 2) * IntKind.i64.wrap (sz.tdiv 2)))) (IntKind.i64.wrap (sz.tdiv 2)) (IntKind.i64.wrap (deep - 1))).snd.fst) (x) (y) (sz) (deep) (IntKind.i64.wrap (j + 1)) (dn) (dg) (1) (fun x_1 ↦ trF (readV D (unBlocks (blocksF l)) at1 (IntKind.i64.wrap (x + IntKind.i64.wrap (j.tmod 2 * IntKind.i64.wrap (sz.tdiv 2)))) (IntKind.i64.wrap (y + IntKind.i64.wrap (IntKind.i64.wrap (j.tdiv 2) * IntKind.i64.wrap (sz.tdiv 2)))) (IntKind.i64.wrap (sz.tdiv 2)) (IntKind.i64.wrap (deep - 1))).fst))
      none))
    none)
   (bsel (decide (dn = dn))
    (ret (x) (y) (sz) (0) (fun x ↦ F.bool false) (dn) (dg) (at1) (true))
    none))
def T114_11b {ρ : Type} (D : Nat) (ret : (Int) → (Int) → (Int) → (Nat) → (Nat → F) → (Nat) → (Nat → F) → (Int) → (Bool) → Option ρ) (c11a : (List Bk) → (Int) → (Int) → (Int) → (Int) → (Int) → (Int) → (Nat) → (Nat → F) → Option ρ) (c11b : (List Bk) → (Int) → (Int) → (Int) → (Int) → (Int) → (Int) → (Nat) → (Nat → F) → (Nat) → (Nat → F) → Option ρ) (l : List Bk) (at1 : Int) (x : Int) (y : Int) (sz : Int) (deep : Int) (j : Int) (dn : Nat) (dg : Nat → F) (n : Nat) (g : Nat → F) : Option ρ :=
  (bsel (decide (j < 4))
   (bsel (isBlocks (blocksF l) && readOk D (unBlocks (blocksF l)) at1 (IntKind.i64.wrap (deep - 1)))
    (bsel (!(readV D (unBlocks (blocksF l)) at1 (IntKind.i64.wrap (x + IntKind.i64.wrap (j.tmod 2 * IntKind.i64.wrap (sz.tdiv 2)))) (IntKind.i64.wrap (y + IntKind.i64.wrap (IntKind.i64.wrap (j.tdiv 2) * IntKind.i64.wrap (sz.tdiv 2)))) (IntKind.i64.wrap (sz.tdiv 2)) (IntKind.i64.wrap (deep - 1))).snd.snd)
     (ret (0) (0) (0) (0) (fun x ↦ F.bool false) (0) (fun x ↦ F.bool false) (0) (false))
     (bsel (decide (n = n))
      (bsel (decide (n = n))
       (bsel (decide ((↑(n + 1) : Int) * (((72 : Nat) : Int) + 1) ≤ (↑limit : Int)))
        (c11b (l) ((readV D (unBlocks (blocksF l)) at1 (IntKind.i64.wrap (x + IntKind.i64.wrap (j.tmod 2 * IntKind.i64.wrap (sz.tdiv 2)))) (IntKind.i64.wrap (y + IntKind.i64.wrap (IntKind.i64.wrap (j.tdiv 2) * IntKind.i64.wrap (sz.tdiv 2)))) (IntKind.i64.wrap (sz.tdiv 2)) (IntKind.i64.wrap (deep - 1))).snd.fst) (x) (y) (sz) (deep) (IntKind.i64.wrap (j + 1)) (dn) (dg) (n + 1) (fun j_1 ↦ if j_1 < n then g j_1 else trF (readV D (unBlocks (blocksF l)) at1 (IntKind.i64.wrap (x + IntKind.i64.wrap (j.tmod 2 * IntKind.i64.wrap (sz.tdiv 2)))) (IntKind.i64.wrap (y + IntKind.i64.wrap (IntKind.i64.wrap (j.tdiv 2) * IntKind.i64.wrap (sz.tdiv 2)))) (IntKind.i64.wrap (sz.tdiv 2)) (IntKind.i64.wrap (deep - 1))).fst))
        none)
       none)
      none))
    none)
   (bsel (decide (n = n))
    (bsel (decide (dn = dn))
     (ret (x) (y) (sz) (n) (g) (dn) (dg) (at1) (true))
     none)
    none))
mutual
def L114_11a (D : Nat) : Nat → (List Bk) → (Int) → (Int) → (Int) → (Int) → (Int) → (Int) → (Nat) → (Nat → F) → Option ((Int) × (Int) × (Int) × (Nat) × (Nat → F) × (Nat) × (Nat → F) × (Int) × (Bool))
  | 0, _, _, _, _, _, _, _, _, _ => none
  | k + 1, l, at1, x, y, sz, deep, j, dn, dg => T114_11a D (fun rx ry rs kn kg en eg rp rb => some (rx, ry, rs, kn, kg, en, eg, rp, rb)) (L114_11a D k) (L114_11b D k) l at1 x y sz deep j dn dg
def L114_11b (D : Nat) : Nat → (List Bk) → (Int) → (Int) → (Int) → (Int) → (Int) → (Int) → (Nat) → (Nat → F) → (Nat) → (Nat → F) → Option ((Int) × (Int) × (Int) × (Nat) × (Nat → F) × (Nat) × (Nat → F) × (Int) × (Bool))
  | 0, _, _, _, _, _, _, _, _, _, _, _ => none
  | k + 1, l, at1, x, y, sz, deep, j, dn, dg, n, g => T114_11b D (fun rx ry rs kn kg en eg rp rb => some (rx, ry, rs, kn, kg, en, eg, rp, rb)) (L114_11a D k) (L114_11b D k) l at1 x y sz deep j dn dg n g
end
def T114 {ρ : Type} (D : Nat) (ret : (Int) → (Int) → (Int) → (Nat) → (Nat → F) → (Nat) → (Nat → F) → (Int) → (Bool) → Option ρ) (c11a : (List Bk) → (Int) → (Int) → (Int) → (Int) → (Int) → (Int) → (Nat) → (Nat → F) → Option ρ) (c11b : (List Bk) → (Int) → (Int) → (Int) → (Int) → (Int) → (Int) → (Nat) → (Nat → F) → (Nat) → (Nat → F) → Option ρ) (l : List Bk) (at1 : Int) (x : Int) (y : Int) (sz : Int) (deep : Int) : Option ρ :=
  (bsel (decide (at1 ≥ (↑l.length : Int)))
   (ret (0) (0) (0) (0) (fun x ↦ F.bool false) (0) (fun x ↦ F.bool false) (0) (false))
   (bsel (decide (0 ≤ at1))
    (bsel (decide (at1 < (↑l.length : Int)))
     (bsel (((l.getD at1.toNat Bk.zero).x != x) == false)
      (bsel (((l.getD at1.toNat Bk.zero).y != y) == false)
       (bsel (((l.getD at1.toNat Bk.zero).size != sz) == false)
        (bsel ((l.getD at1.toNat Bk.zero).split == true)
         (bsel (decide (deep < 1) == false)
          (bsel (decide ((↑(l.getD at1.toNat Bk.zero).ids.length : Int) > 0))
           (ret (0) (0) (0) (0) (fun x ↦ F.bool false) (0) (fun x ↦ F.bool false) (0) (false))
           (bsel (decide ((↑(0 + (l.getD at1.toNat Bk.zero).ids.length) : Int) * (((8 : Nat) : Int) + 1) ≤ (↑limit : Int)))
            (bsel (!(l.getD at1.toNat Bk.zero).split)
             (bsel (decide (0 + (l.getD at1.toNat Bk.zero).ids.length = 0 + (l.getD at1.toNat Bk.zero).ids.length))
              (ret (x) (y) (sz) (0) (fun x ↦ F.bool false) (0 + (l.getD at1.toNat Bk.zero).ids.length) (fun j ↦ if j < 0 then lget [] j else one (l.getD at1.toNat Bk.zero).ids.length (fun i ↦ i64F ((l.getD at1.toNat Bk.zero).ids.getD i 0)) (j - 0)) (IntKind.i64.wrap (at1 + 1)) (true))
              none)
             (c11a (l) (IntKind.i64.wrap (at1 + 1)) (x) (y) (sz) (deep) (0) (0 + (l.getD at1.toNat Bk.zero).ids.length) (fun j ↦ if j < 0 then lget [] j else one (l.getD at1.toNat Bk.zero).ids.length (fun i ↦ i64F ((l.getD at1.toNat Bk.zero).ids.getD i 0)) (j - 0))))
            none))
          (ret (0) (0) (0) (0) (fun x ↦ F.bool false) (0) (fun x ↦ F.bool false) (0) (false)))
         (bsel (decide ((↑(0 + (l.getD at1.toNat Bk.zero).ids.length) : Int) * (((8 : Nat) : Int) + 1) ≤ (↑limit : Int)))
          (bsel (!(l.getD at1.toNat Bk.zero).split)
           (bsel (decide (0 + (l.getD at1.toNat Bk.zero).ids.length = 0 + (l.getD at1.toNat Bk.zero).ids.length))
            (ret (x) (y) (sz) (0) (fun x ↦ F.bool false) (0 + (l.getD at1.toNat Bk.zero).ids.length) (fun j ↦ if j < 0 then lget [] j else one (l.getD at1.toNat Bk.zero).ids.length (fun i ↦ i64F ((l.getD at1.toNat Bk.zero).ids.getD i 0)) (j - 0)) (IntKind.i64.wrap (at1 + 1)) (true))
            none)
           (c11a (l) (IntKind.i64.wrap (at1 + 1)) (x) (y) (sz) (deep) (0) (0 + (l.getD at1.toNat Bk.zero).ids.length) (fun j ↦ if j < 0 then lget [] j else one (l.getD at1.toNat Bk.zero).ids.length (fun i ↦ i64F ((l.getD at1.toNat Bk.zero).ids.getD i 0)) (j - 0))))
          none))
        (ret (0) (0) (0) (0) (fun x ↦ F.bool false) (0) (fun x ↦ F.bool false) (0) (false)))
       (ret (0) (0) (0) (0) (fun x ↦ F.bool false) (0) (fun x ↦ F.bool false) (0) (false)))
      (ret (0) (0) (0) (0) (fun x ↦ F.bool false) (0) (fun x ↦ F.bool false) (0) (false)))
     none)
    none))
def G114 (D : Nat) (k : Nat) (l : List Bk) (at1 : Int) (x : Int) (y : Int) (sz : Int) (deep : Int) : Option ((Int) × (Int) × (Int) × (Nat) × (Nat → F) × (Nat) × (Nat → F) × (Int) × (Bool)) := T114 D (fun rx ry rs kn kg en eg rp rb => some (rx, ry, rs, kn, kg, en, eg, rp, rb)) (L114_11a D k) (L114_11b D k) l at1 x y sz deep
mutual
theorem t114_11a (D : Nat) (hE : EnvOK Try.prog (envRd D)) : ∀ (k : Nat) (l : List Bk) (at1 : Int) (x : Int) (y : Int) (sz : Int) (deep : Int) (j : Int) (dn : Nat) (dg : Nat → F) (rx : Int) (ry : Int) (rs : Int) (kn : Nat) (kg : Nat → F) (en : Nat) (eg : Nat → F) (rp : Int) (rb : Bool), L114_11a D k l at1 x y sz deep j dn dg = some (rx, ry, rs, kn, kg, en, eg, rp, rb) → Ends Try.prog Try.f114.results.toList (at_ Try.f114 11) (S114_11a l at1 x y sz deep j dn dg) (F.tup [F.agg [F.int .i64 rx, F.int .i64 ry, F.int .i64 rs, F.sl kn kg, F.sl en eg], F.int .i64 rp, F.bool rb])
  | 0, _, _, _, _, _, _, _, _, _, _, _, _, _, _, _, _, _, _, h => nomatch h
  | k + 1, l, at1, x, y, sz, deep, j, dn, dg, rx, ry, rs, kn, kg, en, eg, rp, rb, h => by
    refine Ends.of_cut tyOK hE (T := [(11, [0, 1, 2, 3, 4, 5, 12, 16, 17], 1000)]) (n := 200) ?_
    have e : runCut Try.prog (tiOf Try.prog) (envRd D) [(11, [0, 1, 2, 3, 4, 5, 12, 16, 17], 1000)] 0 Try.f114.results.toList some 200 (at_ Try.f114 11) (S114_11a l at1 x y sz deep j dn dg) = T114_11a D (fun rx ry rs kn kg en eg rp rb => some (.ret (F.tup [F.agg [F.int .i64 rx, F.int .i64 ry, F.int .i64 rs, F.sl kn kg, F.sl en eg], F.int .i64 rp, F.bool rb]))) (fun l at1 x y sz deep j dn dg => some (.cut (at_ Try.f114 11) (S114_11a l at1 x y sz deep j dn dg))) (fun l at1 x y sz deep j dn dg n g => some (.cut (at_ Try.f114 11) (S114_11b l at1 x y sz deep j dn dg n g))) l at1 x y sz deep j dn dg := by kernel_rfl
    rw [e]
    exact (good_sel h (fun _ h => (good_sel h (fun _ h => (good_sel h (fun _ h => good_ret (by cases h; rfl)) (fun _ h => (good_sel h (fun _ h => good_cut (t114_11b D hE k _ _ _ _ _ _ _ _ _ _ _ rx ry rs kn kg en eg rp rb h)) (fun _ h => nomatch h))))) (fun _ h => nomatch h))) (fun _ h => (good_sel h (fun _ h => good_ret (by cases h; rfl)) (fun _ h => nomatch h))))
theorem t114_11b (D : Nat) (hE : EnvOK Try.prog (envRd D)) : ∀ (k : Nat) (l : List Bk) (at1 : Int) (x : Int) (y : Int) (sz : Int) (deep : Int) (j : Int) (dn : Nat) (dg : Nat → F) (n : Nat) (g : Nat → F) (rx : Int) (ry : Int) (rs : Int) (kn : Nat) (kg : Nat → F) (en : Nat) (eg : Nat → F) (rp : Int) (rb : Bool), L114_11b D k l at1 x y sz deep j dn dg n g = some (rx, ry, rs, kn, kg, en, eg, rp, rb) → Ends Try.prog Try.f114.results.toList (at_ Try.f114 11) (S114_11b l at1 x y sz deep j dn dg n g) (F.tup [F.agg [F.int .i64 rx, F.int .i64 ry, F.int .i64 rs, F.sl kn kg, F.sl en eg], F.int .i64 rp, F.bool rb])
  | 0, _, _, _, _, _, _, _, _, _, _, _, _, _, _, _, _, _, _, _, _, h => nomatch h
  | k + 1, l, at1, x, y, sz, deep, j, dn, dg, n, g, rx, ry, rs, kn, kg, en, eg, rp, rb, h => by
    refine Ends.of_cut tyOK hE (T := [(11, [0, 1, 2, 3, 4, 5, 12, 16, 17], 1000)]) (n := 200) ?_
    have e : runCut Try.prog (tiOf Try.prog) (envRd D) [(11, [0, 1, 2, 3, 4, 5, 12, 16, 17], 1000)] 0 Try.f114.results.toList some 200 (at_ Try.f114 11) (S114_11b l at1 x y sz deep j dn dg n g) = T114_11b D (fun rx ry rs kn kg en eg rp rb => some (.ret (F.tup [F.agg [F.int .i64 rx, F.int .i64 ry, F.int .i64 rs, F.sl kn kg, F.sl en eg], F.int .i64 rp, F.bool rb]))) (fun l at1 x y sz deep j dn dg => some (.cut (at_ Try.f114 11) (S114_11a l at1 x y sz deep j dn dg))) (fun l at1 x y sz deep j dn dg n g => some (.cut (at_ Try.f114 11) (S114_11b l at1 x y sz deep j dn dg n g))) l at1 x y sz deep j dn dg n g := by kernel_rfl
    rw [e]
    exact (good_sel h (fun _ h => (good_sel h (fun _ h => (good_sel h (fun _ h => good_ret (by cases h; rfl)) (fun _ h => (good_sel h (fun _ h => (good_sel h (fun _ h => (good_sel h (fun _ h => good_cut (t114_11b D hE k _ _ _ _ _ _ _ _ _ _ _ rx ry rs kn kg en eg rp rb h)) (fun _ h => nomatch h))) (fun _ h => nomatch h))) (fun _ h => nomatch h))))) (fun _ h => nomatch h))) (fun _ h => (good_sel h (fun _ h => (good_sel h (fun _ h => good_ret (by cases h; rfl)) (fun _ h => nomatch h))) (fun _ h => nomatch h))))
end
theorem t114 (D : Nat) (hE : EnvOK Try.prog (envRd D)) (k : Nat) (l : List Bk) (at1 : Int) (x : Int) (y : Int) (sz : Int) (deep : Int) (rx : Int) (ry : Int) (rs : Int) (kn : Nat) (kg : Nat → F) (en : Nat) (eg : Nat → F) (rp : Int) (rb : Bool) (h : G114 D k l at1 x y sz deep = some (rx, ry, rs, kn, kg, en, eg, rp, rb)) : Ends Try.prog Try.f114.results.toList [.code (bodyOf Try.f114)] (start Try.f114.ntmps ([blocksF l, F.int .i64 at1, F.int .i64 x, F.int .i64 y, F.int .i64 sz, F.int .i64 deep].map .f)) (F.tup [F.agg [F.int .i64 rx, F.int .i64 ry, F.int .i64 rs, F.sl kn kg, F.sl en eg], F.int .i64 rp, F.bool rb]) := by
  refine Ends.of_run tyOK hE (T := [(11, [0, 1, 2, 3, 4, 5, 12, 16, 17], 1000)]) (n := 200) ?_
  have e : run Try.prog (tiOf Try.prog) (envRd D) [(11, [0, 1, 2, 3, 4, 5, 12, 16, 17], 1000)] 0 Try.f114.results.toList some 200 [.code (bodyOf Try.f114)] (start Try.f114.ntmps ([blocksF l, F.int .i64 at1, F.int .i64 x, F.int .i64 y, F.int .i64 sz, F.int .i64 deep].map .f)) = T114 D (fun rx ry rs kn kg en eg rp rb => some (.ret (F.tup [F.agg [F.int .i64 rx, F.int .i64 ry, F.int .i64 rs, F.sl kn kg, F.sl en eg], F.int .i64 rp, F.bool rb]))) (fun l at1 x y sz deep j dn dg => some (.cut (at_ Try.f114 11) (S114_11a l at1 x y sz deep j dn dg))) (fun l at1 x y sz deep j dn dg n g => some (.cut (at_ Try.f114 11) (S114_11b l at1 x y sz deep j dn dg n g))) l at1 x y sz deep := by kernel_rfl
  rw [e]
  exact (good_sel h (fun _ h => good_ret (by cases h; rfl)) (fun _ h => (good_sel h (fun _ h => (good_sel h (fun _ h => (good_sel h (fun _ h => (good_sel h (fun _ h => (good_sel h (fun _ h => (good_sel h (fun _ h => (good_sel h (fun _ h => (good_sel h (fun _ h => good_ret (by cases h; rfl)) (fun _ h => (good_sel h (fun _ h => (good_sel h (fun _ h => (good_sel h (fun _ h => good_ret (by cases h; rfl)) (fun _ h => nomatch h))) (fun _ h => good_cut (t114_11a D hE k _ _ _ _ _ _ _ _ _ rx ry rs kn kg en eg rp rb h)))) (fun _ h => nomatch h))))) (fun _ h => good_ret (by cases h; rfl)))) (fun _ h => (good_sel h (fun _ h => (good_sel h (fun _ h => (good_sel h (fun _ h => good_ret (by cases h; rfl)) (fun _ h => nomatch h))) (fun _ h => good_cut (t114_11a D hE k _ _ _ _ _ _ _ _ _ rx ry rs kn kg en eg rp rb h)))) (fun _ h => nomatch h))))) (fun _ h => good_ret (by cases h; rfl)))) (fun _ h => good_ret (by cases h; rfl)))) (fun _ h => good_ret (by cases h; rfl)))) (fun _ h => nomatch h))) (fun _ h => nomatch h))))
/-! ### function 115 -/
def S115n_3n0 (x : Int) (y : Int) (s : Int) (a : Tr) (b : Tr) (c : Tr) (d : Tr) (l : List It) : St := ⟨[.bad, (U.f (itemsF l)), (U.hp 0 0), .bad, .bad, (U.f (F.int .i64 0)), .bad, .bad, .bad, .bad, .bad, .bad, .bad, .bad, .bad, .bad, .bad, .bad, .bad, .bad, .bad, .bad, .bad, .bad, .bad, .bad, .bad, .bad, .bad, .bad, .bad, .bad, .bad, .bad, .bad, .bad, .bad, .bad, .bad, .bad, .bad, .bad, .bad, .bad, .bad, .bad, .bad, .bad, .bad, .bad, .bad, .bad, .bad, .bad, .bad, .bad, .bad, .bad, .bad, .bad, .bad, .bad, .bad], [HO.box [(U.f (F.int .i64 x)), (U.f (F.int .i64 y)), (U.f (F.int .i64 s)), (U.f (F.sl 4 (kidG (Tr.node x y s a b c d)))), (U.f (intsF []))]]⟩
def S115n_3n1 (x : Int) (y : Int) (s : Int) (a : Tr) (b : Tr) (c : Tr) (d : Tr) (l : List It) : St := ⟨[.bad, (U.f (itemsF l)), (U.hp 0 0), .bad, .bad, (U.f (F.int .i64 1)), .bad, .bad, .bad, .bad, .bad, .bad, .bad, .bad, .bad, .bad, .bad, .bad, .bad, .bad, .bad, .bad, .bad, .bad, .bad, .bad, .bad, .bad, .bad, .bad, .bad, .bad, .bad, .bad, .bad, .bad, .bad, .bad, .bad, .bad, .bad, .bad, .bad, .bad, .bad, .bad, .bad, .bad, .bad, .bad, .bad, .bad, .bad, .bad, .bad, .bad, .bad, .bad, .bad, .bad, .bad, .bad, .bad], [HO.box [(U.f (F.int .i64 x)), (U.f (F.int .i64 y)), (U.f (F.int .i64 s)), (U.f (F.sl 4 (kidG (Tr.node x y s a b c d)))), (U.f (intsF []))]]⟩
def S115n_3n2 (x : Int) (y : Int) (s : Int) (a : Tr) (b : Tr) (c : Tr) (d : Tr) (l : List It) : St := ⟨[.bad, (U.f (itemsF l)), (U.hp 0 0), .bad, .bad, (U.f (F.int .i64 2)), .bad, .bad, .bad, .bad, .bad, .bad, .bad, .bad, .bad, .bad, .bad, .bad, .bad, .bad, .bad, .bad, .bad, .bad, .bad, .bad, .bad, .bad, .bad, .bad, .bad, .bad, .bad, .bad, .bad, .bad, .bad, .bad, .bad, .bad, .bad, .bad, .bad, .bad, .bad, .bad, .bad, .bad, .bad, .bad, .bad, .bad, .bad, .bad, .bad, .bad, .bad, .bad, .bad, .bad, .bad, .bad, .bad], [HO.box [(U.f (F.int .i64 x)), (U.f (F.int .i64 y)), (U.f (F.int .i64 s)), (U.f (F.sl 4 (kidG (Tr.node x y s a b c d)))), (U.f (intsF []))]]⟩
def S115n_3n3 (x : Int) (y : Int) (s : Int) (a : Tr) (b : Tr) (c : Tr) (d : Tr) (l : List It) : St := ⟨[.bad, (U.f (itemsF l)), (U.hp 0 0), .bad, .bad, (U.f (F.int .i64 3)), .bad, .bad, .bad, .bad, .bad, .bad, .bad, .bad, .bad, .bad, .bad, .bad, .bad, .bad, .bad, .bad, .bad, .bad, .bad, .bad, .bad, .bad, .bad, .bad, .bad, .bad, .bad, .bad, .bad, .bad, .bad, .bad, .bad, .bad, .bad, .bad, .bad, .bad, .bad, .bad, .bad, .bad, .bad, .bad, .bad, .bad, .bad, .bad, .bad, .bad, .bad, .bad, .bad, .bad, .bad, .bad, .bad], [HO.box [(U.f (F.int .i64 x)), (U.f (F.int .i64 y)), (U.f (F.int .i64 s)), (U.f (F.sl 4 (kidG (Tr.node x y s a b c d)))), (U.f (intsF []))]]⟩
def S115n_3n4 (x : Int) (y : Int) (s : Int) (a : Tr) (b : Tr) (c : Tr) (d : Tr) (l : List It) : St := ⟨[.bad, (U.f (itemsF l)), (U.hp 0 0), .bad, .bad, (U.f (F.int .i64 4)), .bad, .bad, .bad, .bad, .bad, .bad, .bad, .bad, .bad, .bad, .bad, .bad, .bad, .bad, .bad, .bad, .bad, .bad, .bad, .bad, .bad, .bad, .bad, .bad, .bad, .bad, .bad, .bad, .bad, .bad, .bad, .bad, .bad, .bad, .bad, .bad, .bad, .bad, .bad, .bad, .bad, .bad, .bad, .bad, .bad, .bad, .bad, .bad, .bad, .bad, .bad, .bad, .bad, .bad, .bad, .bad, .bad], [HO.box [(U.f (F.int .i64 x)), (U.f (F.int .i64 y)), (U.f (F.int .i64 s)), (U.f (F.sl 4 (kidG (Tr.node x y s a b c d)))), (U.f (intsF []))]]⟩
def S115n_10  : St := ⟨[.bad, .bad, .bad, .bad, .bad, .bad, .bad, .bad, .bad, .bad, .bad, .bad, .bad, .bad, .bad, .bad, .bad, .bad, .bad, .bad, .bad, .bad, .bad, .bad, .bad, .bad, .bad, .bad, .bad, .bad, .bad, .bad, .bad, .bad, .bad, .bad, .bad, .bad, .bad, .bad, .bad, .bad, .bad, .bad, .bad, .bad, .bad, .bad, .bad, .bad, .bad, .bad, .bad, .bad, .bad, .bad, .bad, .bad, .bad, .bad, .bad, .bad, .bad], []⟩
def T115n_3n0 {ρ : Type} (D : Nat) (ret : (Bool) → Option ρ) (c3n0 : (Int) → (Int) → (Int) → (Tr) → (Tr) → (Tr) → (Tr) → (List It) → Option ρ) (c3n1 : (Int) → (Int) → (Int) → (Tr) → (Tr) → (Tr) → (Tr) → (List It) → Option ρ) (c3n2 : (Int) → (Int) → (Int) → (Tr) → (Tr) → (Tr) → (Tr) → (List It) → Option ρ) (c3n3 : (Int) → (Int) → (Int) → (Tr) → (Tr) → (Tr) → (Tr) → (List It) → Option ρ) (c3n4 : (Int) → (Int) → (Int) → (Tr) → (Tr) → (Tr) → (Tr) → (List It) → Option ρ) (c10 : Option ρ) (x : Int) (y : Int) (s : Int) (a : Tr) (b : Tr) (c : Tr) (d : Tr) (l : List It) : Option ρ :=
  (bsel (isTr (trF a) && isItems (itemsF l) && rightOk D (unTr (trF a)) (unItems (itemsF l)))
   (bsel (!rightV (unItems (itemsF l)) (unTr (trF a)))
    (ret (false))
    (c3n1 (x) (y) (s) (a) (b) (c) (d) (l)))
   none)
def T115n_3n1 {ρ : Type} (D : Nat) (ret : (Bool) → Option ρ) (c3n0 : (Int) → (Int) → (Int) → (Tr) → (Tr) → (Tr) → (Tr) → (List It) → Option ρ) (c3n1 : (Int) → (Int) → (Int) → (Tr) → (Tr) → (Tr) → (Tr) → (List It) → Option ρ) (c3n2 : (Int) → (Int) → (Int) → (Tr) → (Tr) → (Tr) → (Tr) → (List It) → Option ρ) (c3n3 : (Int) → (Int) → (Int) → (Tr) → (Tr) → (Tr) → (Tr) → (List It) → Option ρ) (c3n4 : (Int) → (Int) → (Int) → (Tr) → (Tr) → (Tr) → (Tr) → (List It) → Option ρ) (c10 : Option ρ) (x : Int) (y : Int) (s : Int) (a : Tr) (b : Tr) (c : Tr) (d : Tr) (l : List It) : Option ρ :=
  (bsel (isTr (trF b) && isItems (itemsF l) && rightOk D (unTr (trF b)) (unItems (itemsF l)))
   (bsel (!rightV (unItems (itemsF l)) (unTr (trF b)))
    (ret (false))
    (c3n2 (x) (y) (s) (a) (b) (c) (d) (l)))
   none)
def T115n_3n2 {ρ : Type} (D : Nat) (ret : (Bool) → Option ρ) (c3n0 : (Int) → (Int) → (Int) → (Tr) → (Tr) → (Tr) → (Tr) → (List It) → Option ρ) (c3n1 : (Int) → (Int) → (Int) → (Tr) → (Tr) → (Tr) → (Tr) → (List It) → Option ρ) (c3n2 : (Int) → (Int) → (Int) → (Tr) → (Tr) → (Tr) → (Tr) → (List It) → Option ρ) (c3n3 : (Int) → (Int) → (Int) → (Tr) → (Tr) → (Tr) → (Tr) → (List It) → Option ρ) (c3n4 : (Int) → (Int) → (Int) → (Tr) → (Tr) → (Tr) → (Tr) → (List It) → Option ρ) (c10 : Option ρ) (x : Int) (y : Int) (s : Int) (a : Tr) (b : Tr) (c : Tr) (d : Tr) (l : List It) : Option ρ :=
  (bsel (isTr (trF c) && isItems (itemsF l) && rightOk D (unTr (trF c)) (unItems (itemsF l)))
   (bsel (!rightV (unItems (itemsF l)) (unTr (trF c)))
    (ret (false))
    (c3n3 (x) (y) (s) (a) (b) (c) (d) (l)))
   none)
def T115n_3n3 {ρ : Type} (D : Nat) (ret : (Bool) → Option ρ) (c3n0 : (Int) → (Int) → (Int) → (Tr) → (Tr) → (Tr) → (Tr) → (List It) → Option ρ) (c3n1 : (Int) → (Int) → (Int) → (Tr) → (Tr) → (Tr) → (Tr) → (List It) → Option ρ) (c3n2 : (Int) → (Int) → (Int) → (Tr) → (Tr) → (Tr) → (Tr) → (List It) → Option ρ) (c3n3 : (Int) → (Int) → (Int) → (Tr) → (Tr) → (Tr) → (Tr) → (List It) → Option ρ) (c3n4 : (Int) → (Int) → (Int) → (Tr) → (Tr) → (Tr) → (Tr) → (List It) → Option ρ) (c10 : Option ρ) (x : Int) (y : Int) (s : Int) (a : Tr) (b : Tr) (c : Tr) (d : Tr) (l : List It) : Option ρ :=
  (bsel (isTr (trF d) && isItems (itemsF l) && rightOk D (unTr (trF d)) (unItems (itemsF l)))
   (bsel (!rightV (unItems (itemsF l)) (unTr (trF d)))
    (ret (false))
    (c3n4 (x) (y) (s) (a) (b) (c) (d) (l)))
   none)
def T115n_3n4 {ρ : Type} (D : Nat) (ret : (Bool) → Option ρ) (c3n0 : (Int) → (Int) → (Int) → (Tr) → (Tr) → (Tr) → (Tr) → (List It) → Option ρ) (c3n1 : (Int) → (Int) → (Int) → (Tr) → (Tr) → (Tr) → (Tr) → (List It) → Option ρ) (c3n2 : (Int) → (Int) → (Int) → (Tr) → (Tr) → (Tr) → (Tr) → (List It) → Option ρ) (c3n3 : (Int) → (Int) → (Int) → (Tr) → (Tr) → (Tr) → (Tr) → (List It) → Option ρ) (c3n4 : (Int) → (Int) → (Int) → (Tr) → (Tr) → (Tr) → (Tr) → (List It) → Option ρ) (c10 : Option ρ) (x : Int) (y : Int) (s : Int) (a : Tr) (b : Tr) (c : Tr) (d : Tr) (l : List It) : Option ρ :=
  (ret (true))
def T115n_10 {ρ : Type} (D : Nat) (ret : (Bool) → Option ρ) (c3n0 : (Int) → (Int) → (Int) → (Tr) → (Tr) → (Tr) → (Tr) → (List It) → Option ρ) (c3n1 : (Int) → (Int) → (Int) → (Tr) → (Tr) → (Tr) → (Tr) → (List It) → Option ρ) (c3n2 : (Int) → (Int) → (Int) → (Tr) → (Tr) → (Tr) → (Tr) → (List It) → Option ρ) (c3n3 : (Int) → (Int) → (Int) → (Tr) → (Tr) → (Tr) → (Tr) → (List It) → Option ρ) (c3n4 : (Int) → (Int) → (Int) → (Tr) → (Tr) → (Tr) → (Tr) → (List It) → Option ρ) (c10 : Option ρ)  : Option ρ :=
  none
mutual
def L115n_3n0 (D : Nat) : Nat → (Int) → (Int) → (Int) → (Tr) → (Tr) → (Tr) → (Tr) → (List It) → Option (Bool)
  | 0, _, _, _, _, _, _, _, _ => none
  | k + 1, x, y, s, a, b, c, d, l => T115n_3n0 D some (L115n_3n0 D k) (L115n_3n1 D k) (L115n_3n2 D k) (L115n_3n3 D k) (L115n_3n4 D k) (L115n_10 D k) x y s a b c d l
def L115n_3n1 (D : Nat) : Nat → (Int) → (Int) → (Int) → (Tr) → (Tr) → (Tr) → (Tr) → (List It) → Option (Bool)
  | 0, _, _, _, _, _, _, _, _ => none
  | k + 1, x, y, s, a, b, c, d, l => T115n_3n1 D some (L115n_3n0 D k) (L115n_3n1 D k) (L115n_3n2 D k) (L115n_3n3 D k) (L115n_3n4 D k) (L115n_10 D k) x y s a b c d l
def L115n_3n2 (D : Nat) : Nat → (Int) → (Int) → (Int) → (Tr) → (Tr) → (Tr) → (Tr) → (List It) → Option (Bool)
  | 0, _, _, _, _, _, _, _, _ => none
  | k + 1, x, y, s, a, b, c, d, l => T115n_3n2 D some (L115n_3n0 D k) (L115n_3n1 D k) (L115n_3n2 D k) (L115n_3n3 D k) (L115n_3n4 D k) (L115n_10 D k) x y s a b c d l
def L115n_3n3 (D : Nat) : Nat → (Int) → (Int) → (Int) → (Tr) → (Tr) → (Tr) → (Tr) → (List It) → Option (Bool)
  | 0, _, _, _, _, _, _, _, _ => none
  | k + 1, x, y, s, a, b, c, d, l => T115n_3n3 D some (L115n_3n0 D k) (L115n_3n1 D k) (L115n_3n2 D k) (L115n_3n3 D k) (L115n_3n4 D k) (L115n_10 D k) x y s a b c d l
def L115n_3n4 (D : Nat) : Nat → (Int) → (Int) → (Int) → (Tr) → (Tr) → (Tr) → (Tr) → (List It) → Option (Bool)
  | 0, _, _, _, _, _, _, _, _ => none
  | k + 1, x, y, s, a, b, c, d, l => T115n_3n4 D some (L115n_3n0 D k) (L115n_3n1 D k) (L115n_3n2 D k) (L115n_3n3 D k) (L115n_3n4 D k) (L115n_10 D k) x y s a b c d l
def L115n_10 (D : Nat) : Nat → Option (Bool)
  | 0 => none
  | k + 1 => T115n_10 D some (L115n_3n0 D k) (L115n_3n1 D k) (L115n_3n2 D k) (L115n_3n3 D k) (L115n_3n4 D k) (L115n_10 D k) 
end
def T115n {ρ : Type} (D : Nat) (ret : (Bool) → Option ρ) (c3n0 : (Int) → (Int) → (Int) → (Tr) → (Tr) → (Tr) → (Tr) → (List It) → Option ρ) (c3n1 : (Int) → (Int) → (Int) → (Tr) → (Tr) → (Tr) → (Tr) → (List It) → Option ρ) (c3n2 : (Int) → (Int) → (Int) → (Tr) → (Tr) → (Tr) → (Tr) → (List It) → Option ρ) (c3n3 : (Int) → (Int) → (Int) → (Tr) → (Tr) → (Tr) → (Tr) → (List It) → Option ρ) (c3n4 : (Int) → (Int) → (Int) → (Tr) → (Tr) → (Tr) → (Tr) → (List It) → Option ρ) (c10 : Option ρ) (x : Int) (y : Int) (s : Int) (a : Tr) (b : Tr) (c : Tr) (d : Tr) (l : List It) : Option ρ :=
  (c3n0 ((Tr.node x y s a b c d).x) ((Tr.node x y s a b c d).y) ((Tr.node x y s a b c d).size) (a) (b) (c) (d) (l))
def G115n (D : Nat) (k : Nat) (x : Int) (y : Int) (s : Int) (a : Tr) (b : Tr) (c : Tr) (d : Tr) (l : List It) : Option (Bool) := T115n D some (L115n_3n0 D k) (L115n_3n1 D k) (L115n_3n2 D k) (L115n_3n3 D k) (L115n_3n4 D k) (L115n_10 D k) x y s a b c d l
mutual
theorem t115n_3n0 (D : Nat) (hE : EnvOK Try.prog (envRt D)) : ∀ (k : Nat) (x : Int) (y : Int) (s : Int) (a : Tr) (b : Tr) (c : Tr) (d : Tr) (l : List It) (r : Bool), L115n_3n0 D k x y s a b c d l = some r → Ends Try.prog Try.f115.results.toList (at_ Try.f115 3) (S115n_3n0 x y s a b c d l) (F.bool r)
  | 0, _, _, _, _, _, _, _, _, _, h => nomatch h
  | k + 1, x, y, s, a, b, c, d, l, r, h => by
    refine Ends.of_cut tyOK hE (T := [(3, [1, 2, 5], 1000), (10, [1, 2, 6, 7], 1000)]) (n := 200) ?_
    have e : runCut Try.prog (tiOf Try.prog) (envRt D) [(3, [1, 2, 5], 1000), (10, [1, 2, 6, 7], 1000)] 0 Try.f115.results.toList some 200 (at_ Try.f115 3) (S115n_3n0 x y s a b c d l) = T115n_3n0 D (fun r => some (.ret (F.bool r))) (fun x y s a b c d l => some (.cut (at_ Try.f115 3) (S115n_3n0 x y s a b c d l))) (fun x y s a b c d l => some (.cut (at_ Try.f115 3) (S115n_3n1 x y s a b c d l))) (fun x y s a b c d l => some (.cut (at_ Try.f115 3) (S115n_3n2 x y s a b c d l))) (fun x y s a b c d l => some (.cut (at_ Try.f115 3) (S115n_3n3 x y s a b c d l))) (fun x y s a b c d l => some (.cut (at_ Try.f115 3) (S115n_3n4 x y s a b c d l))) (some (.cut (at_ Try.f115 10) (S115n_10 ))) x y s a b c d l := by kernel_rfl
    rw [e]
    exact (good_sel h (fun _ h => (good_sel h (fun _ h => good_ret (by cases h; rfl)) (fun _ h => good_cut (t115n_3n1 D hE k _ _ _ _ _ _ _ _ r h)))) (fun _ h => nomatch h))
theorem t115n_3n1 (D : Nat) (hE : EnvOK Try.prog (envRt D)) : ∀ (k : Nat) (x : Int) (y : Int) (s : Int) (a : Tr) (b : Tr) (c : Tr) (d : Tr) (l : List It) (r : Bool), L115n_3n1 D k x y s a b c d l = some r → Ends Try.prog Try.f115.results.toList (at_ Try.f115 3) (S115n_3n1 x y s a b c d l) (F.bool r)
  | 0, _, _, _, _, _, _, _, _, _, h => nomatch h
  | k + 1, x, y, s, a, b, c, d, l, r, h => by
    refine Ends.of_cut tyOK hE (T := [(3, [1, 2, 5], 1000), (10, [1, 2, 6, 7], 1000)]) (n := 200) ?_
    have e : runCut Try.prog (tiOf Try.prog) (envRt D) [(3, [1, 2, 5], 1000), (10, [1, 2, 6, 7], 1000)] 0 Try.f115.results.toList some 200 (at_ Try.f115 3) (S115n_3n1 x y s a b c d l) = T115n_3n1 D (fun r => some (.ret (F.bool r))) (fun x y s a b c d l => some (.cut (at_ Try.f115 3) (S115n_3n0 x y s a b c d l))) (fun x y s a b c d l => some (.cut (at_ Try.f115 3) (S115n_3n1 x y s a b c d l))) (fun x y s a b c d l => some (.cut (at_ Try.f115 3) (S115n_3n2 x y s a b c d l))) (fun x y s a b c d l => some (.cut (at_ Try.f115 3) (S115n_3n3 x y s a b c d l))) (fun x y s a b c d l => some (.cut (at_ Try.f115 3) (S115n_3n4 x y s a b c d l))) (some (.cut (at_ Try.f115 10) (S115n_10 ))) x y s a b c d l := by kernel_rfl
    rw [e]
    exact (good_sel h (fun _ h => (good_sel h (fun _ h => good_ret (by cases h; rfl)) (fun _ h => good_cut (t115n_3n2 D hE k _ _ _ _ _ _ _ _ r h)))) (fun _ h => nomatch h))
theorem t115n_3n2 (D : Nat) (hE : EnvOK Try.prog (envRt D)) : ∀ (k : Nat) (x : Int) (y : Int) (s : Int) (a : Tr) (b : Tr) (c : Tr) (d : Tr) (l : List It) (r : Bool), L115n_3n2 D k x y s a b c d l = some r → Ends Try.prog Try.f115.results.toList (at_ Try.f115 3) (S115n_3n2 x y s a b c d l) (F.bool r)
  | 0, _, _, _, _, _, _, _, _, _, h => nomatch h
  | k + 1, x, y, s, a, b, c, d, l, r, h => by
    refine Ends.of_cut tyOK hE (T := [(3, [1, 2, 5], 1000), (10, [1, 2, 6, 7], 1000)]) (n := 200) ?_
    have e : runCut Try.prog (tiOf Try.prog) (envRt D) [(3, [1, 2, 5], 1000), (10, [1, 2, 6, 7], 1000)] 0 Try.f115.results.toList some 200 (at_ Try.f115 3) (S115n_3n2 x y s a b c d l) = T115n_3n2 D (fun r => some (.ret (F.bool r))) (fun x y s a b c d l => some (.cut (at_ Try.f115 3) (S115n_3n0 x y s a b c d l))) (fun x y s a b c d l => some (.cut (at_ Try.f115 3) (S115n_3n1 x y s a b c d l))) (fun x y s a b c d l => some (.cut (at_ Try.f115 3) (S115n_3n2 x y s a b c d l))) (fun x y s a b c d l => some (.cut (at_ Try.f115 3) (S115n_3n3 x y s a b c d l))) (fun x y s a b c d l => some (.cut (at_ Try.f115 3) (S115n_3n4 x y s a b c d l))) (some (.cut (at_ Try.f115 10) (S115n_10 ))) x y s a b c d l := by kernel_rfl
    rw [e]
    exact (good_sel h (fun _ h => (good_sel h (fun _ h => good_ret (by cases h; rfl)) (fun _ h => good_cut (t115n_3n3 D hE k _ _ _ _ _ _ _ _ r h)))) (fun _ h => nomatch h))
theorem t115n_3n3 (D : Nat) (hE : EnvOK Try.prog (envRt D)) : ∀ (k : Nat) (x : Int) (y : Int) (s : Int) (a : Tr) (b : Tr) (c : Tr) (d : Tr) (l : List It) (r : Bool), L115n_3n3 D k x y s a b c d l = some r → Ends Try.prog Try.f115.results.toList (at_ Try.f115 3) (S115n_3n3 x y s a b c d l) (F.bool r)
  | 0, _, _, _, _, _, _, _, _, _, h => nomatch h
  | k + 1, x, y, s, a, b, c, d, l, r, h => by
    refine Ends.of_cut tyOK hE (T := [(3, [1, 2, 5], 1000), (10, [1, 2, 6, 7], 1000)]) (n := 200) ?_
    have e : runCut Try.prog (tiOf Try.prog) (envRt D) [(3, [1, 2, 5], 1000), (10, [1, 2, 6, 7], 1000)] 0 Try.f115.results.toList some 200 (at_ Try.f115 3) (S115n_3n3 x y s a b c d l) = T115n_3n3 D (fun r => some (.ret (F.bool r))) (fun x y s a b c d l => some (.cut (at_ Try.f115 3) (S115n_3n0 x y s a b c d l))) (fun x y s a b c d l => some (.cut (at_ Try.f115 3) (S115n_3n1 x y s a b c d l))) (fun x y s a b c d l => some (.cut (at_ Try.f115 3) (S115n_3n2 x y s a b c d l))) (fun x y s a b c d l => some (.cut (at_ Try.f115 3) (S115n_3n3 x y s a b c d l))) (fun x y s a b c d l => some (.cut (at_ Try.f115 3) (S115n_3n4 x y s a b c d l))) (some (.cut (at_ Try.f115 10) (S115n_10 ))) x y s a b c d l := by kernel_rfl
    rw [e]
    exact (good_sel h (fun _ h => (good_sel h (fun _ h => good_ret (by cases h; rfl)) (fun _ h => good_cut (t115n_3n4 D hE k _ _ _ _ _ _ _ _ r h)))) (fun _ h => nomatch h))
theorem t115n_3n4 (D : Nat) (hE : EnvOK Try.prog (envRt D)) : ∀ (k : Nat) (x : Int) (y : Int) (s : Int) (a : Tr) (b : Tr) (c : Tr) (d : Tr) (l : List It) (r : Bool), L115n_3n4 D k x y s a b c d l = some r → Ends Try.prog Try.f115.results.toList (at_ Try.f115 3) (S115n_3n4 x y s a b c d l) (F.bool r)
  | 0, _, _, _, _, _, _, _, _, _, h => nomatch h
  | k + 1, x, y, s, a, b, c, d, l, r, h => by
    refine Ends.of_cut tyOK hE (T := [(3, [1, 2, 5], 1000), (10, [1, 2, 6, 7], 1000)]) (n := 200) ?_
    have e : runCut Try.prog (tiOf Try.prog) (envRt D) [(3, [1, 2, 5], 1000), (10, [1, 2, 6, 7], 1000)] 0 Try.f115.results.toList some 200 (at_ Try.f115 3) (S115n_3n4 x y s a b c d l) = T115n_3n4 D (fun r => some (.ret (F.bool r))) (fun x y s a b c d l => some (.cut (at_ Try.f115 3) (S115n_3n0 x y s a b c d l))) (fun x y s a b c d l => some (.cut (at_ Try.f115 3) (S115n_3n1 x y s a b c d l))) (fun x y s a b c d l => some (.cut (at_ Try.f115 3) (S115n_3n2 x y s a b c d l))) (fun x y s a b c d l => some (.cut (at_ Try.f115 3) (S115n_3n3 x y s a b c d l))) (fun x y s a b c d l => some (.cut (at_ Try.f115 3) (S115n_3n4 x y s a b c d l))) (some (.cut (at_ Try.f115 10) (S115n_10 ))) x y s a b c d l := by kernel_rfl
    rw [e]
    exact good_ret (by cases h; rfl)
theorem t115n_10 (D : Nat) (hE : EnvOK Try.prog (envRt D)) : ∀ (k : Nat)  (r : Bool), L115n_10 D k  = some r → Ends Try.prog Try.f115.results.toList (at_ Try.f115 10) (S115n_10 ) (F.bool r)
  | 0, _, h => nomatch h
  | k + 1, r, h => by
    refine Ends.of_cut tyOK hE (T := [(3, [1, 2, 5], 1000), (10, [1, 2, 6, 7], 1000)]) (n := 200) ?_
    have e : runCut Try.prog (tiOf Try.prog) (envRt D) [(3, [1, 2, 5], 1000), (10, [1, 2, 6, 7], 1000)] 0 Try.f115.results.toList some 200 (at_ Try.f115 10) (S115n_10 ) = T115n_10 D (fun r => some (.ret (F.bool r))) (fun x y s a b c d l => some (.cut (at_ Try.f115 3) (S115n_3n0 x y s a b c d l))) (fun x y s a b c d l => some (.cut (at_ Try.f115 3) (S115n_3n1 x y s a b c d l))) (fun x y s a b c d l => some (.cut (at_ Try.f115 3) (S115n_3n2 x y s a b c d l))) (fun x y s a b c d l => some (.cut (at_ Try.f115 3) (S115n_3n3 x y s a b c d l))) (fun x y s a b c d l => some (.cut (at_ Try.f115 3) (S115n_3n4 x y s a b c d l))) (some (.cut (at_ Try.f115 10) (S115n_10 )))  := by kernel_rfl
    rw [e]
    exact nomatch h
end
theorem t115n (D : Nat) (hE : EnvOK Try.prog (envRt D)) (k : Nat) (x : Int) (y : Int) (s : Int) (a : Tr) (b : Tr) (c : Tr) (d : Tr) (l : List It) (r : Bool) (h : G115n D k x y s a b c d l = some r) : Ends Try.prog Try.f115.results.toList [.code (bodyOf Try.f115)] (start Try.f115.ntmps ([trF (Tr.node x y s a b c d), itemsF l].map .f)) (F.bool r) := by
  refine Ends.of_run tyOK hE (T := [(3, [1, 2, 5], 1000), (10, [1, 2, 6, 7], 1000)]) (n := 200) ?_
  have e : run Try.prog (tiOf Try.prog) (envRt D) [(3, [1, 2, 5], 1000), (10, [1, 2, 6, 7], 1000)] 0 Try.f115.results.toList some 200 [.code (bodyOf Try.f115)] (start Try.f115.ntmps ([trF (Tr.node x y s a b c d), itemsF l].map .f)) = T115n D (fun r => some (.ret (F.bool r))) (fun x y s a b c d l => some (.cut (at_ Try.f115 3) (S115n_3n0 x y s a b c d l))) (fun x y s a b c d l => some (.cut (at_ Try.f115 3) (S115n_3n1 x y s a b c d l))) (fun x y s a b c d l => some (.cut (at_ Try.f115 3) (S115n_3n2 x y s a b c d l))) (fun x y s a b c d l => some (.cut (at_ Try.f115 3) (S115n_3n3 x y s a b c d l))) (fun x y s a b c d l => some (.cut (at_ Try.f115 3) (S115n_3n4 x y s a b c d l))) (some (.cut (at_ Try.f115 10) (S115n_10 ))) x y s a b c d l := by kernel_rfl
  rw [e]
  exact good_cut (t115n_3n0 D hE k _ _ _ _ _ _ _ _ r h)
/-! ### function 115 -/
def S115l_10 (x : Int) (y : Int) (s : Int) (ids : List Int) (l : List It) (n : Int) (i : Int) : St := ⟨[.bad, (U.f (itemsF l)), (U.hp 0 0), .bad, .bad, .bad, (U.f (F.int .i64 n)), (U.f (F.int .i64 i)), .bad, .bad, .bad, .bad, .bad, .bad, .bad, .bad, .bad, .bad, .bad, .bad, .bad, .bad, .bad, .bad, .bad, .bad, .bad, .bad, .bad, .bad, .bad, .bad, .bad, .bad, .bad, .bad, .bad, .bad, .bad, .bad, .bad, .bad, .bad, .bad, .bad, .bad, .bad, .bad, .bad, .bad, .bad, .bad, .bad, .bad, .bad, .bad, .bad, .bad, .bad, .bad, .bad, .bad, .bad], [HO.box [(U.f (F.int .i64 x)), (U.f (F.int .i64 y)), (U.f (F.int .i64 s)), (U.f (F.sl 0 (kidG (Tr.leaf x y s ids)))), (U.f (intsF ids))]]⟩
def S115l_3  : St := ⟨[.bad, .bad, .bad, .bad, .bad, .bad, .bad, .bad, .bad, .bad, .bad, .bad, .bad, .bad, .bad, .bad, .bad, .bad, .bad, .bad, .bad, .bad, .bad, .bad, .bad, .bad, .bad, .bad, .bad, .bad, .bad, .bad, .bad, .bad, .bad, .bad, .bad, .bad, .bad, .bad, .bad, .bad, .bad, .bad, .bad, .bad, .bad, .bad, .bad, .bad, .bad, .bad, .bad, .bad, .bad, .bad, .bad, .bad, .bad, .bad, .bad, .bad, .bad], []⟩
def T115l_10 {ρ : Type} (D : Nat) (ret : (Bool) → Option ρ) (c10 : (Int) → (Int) → (Int) → (List Int) → (List It) → (Int) → (Int) → Option ρ) (c3 : Option ρ) (x : Int) (y : Int) (s : Int) (ids : List Int) (l : List It) (n : Int) (i : Int) : Option ρ :=
  (bsel (decide (i < (↑l.length : Int)))
   (bsel (decide (0 ≤ i))
    (bsel (decide (i < (↑l.length : Int)))
     (bsel (isTr (F.agg [F.int IntKind.i64 x, F.int IntKind.i64 y, F.int IntKind.i64 s, F.sl 0 fun x ↦ F.bool false, intsF ids]))
      (bsel (!trMeetsV (unTr (F.agg [F.int IntKind.i64 x, F.int IntKind.i64 y, F.int IntKind.i64 s, F.sl 0 fun x ↦ F.bool false, intsF ids])) (l.getD i.toNat It.zero).x0 (l.getD i.toNat It.zero).y0 (l.getD i.toNat It.zero).x1 (l.getD i.toNat It.zero).y1)
       (c10 (x) (y) (s) (ids) (l) (n) (IntKind.i64.wrap (i + 1)))
       (bsel (decide (n ≥ (↑ids.length : Int)) == false)
        (bsel (decide (0 ≤ n))
         (bsel (decide (n < (↑ids.length : Int)))
          (bsel (decide (0 ≤ i))
           (bsel (decide (i < (↑l.length : Int)))
            (bsel (ids.getD n.toNat 0 != (l.getD i.toNat It.zero).id)
             (ret (false))
             (c10 (x) (y) (s) (ids) (l) (IntKind.i64.wrap (n + 1)) (IntKind.i64.wrap (i + 1))))
            none)
           none)
          none)
         none)
        (ret (false))))
      none)
     none)
    none)
   (ret (n == (↑ids.length : Int))))
def T115l_3 {ρ : Type} (D : Nat) (ret : (Bool) → Option ρ) (c10 : (Int) → (Int) → (Int) → (List Int) → (List It) → (Int) → (Int) → Option ρ) (c3 : Option ρ)  : Option ρ :=
  none
mutual
def L115l_10 (D : Nat) : Nat → (Int) → (Int) → (Int) → (List Int) → (List It) → (Int) → (Int) → Option (Bool)
  | 0, _, _, _, _, _, _, _ => none
  | k + 1, x, y, s, ids, l, n, i => T115l_10 D some (L115l_10 D k) (L115l_3 D k) x y s ids l n i
def L115l_3 (D : Nat) : Nat → Option (Bool)
  | 0 => none
  | k + 1 => T115l_3 D some (L115l_10 D k) (L115l_3 D k) 
end
def T115l {ρ : Type} (D : Nat) (ret : (Bool) → Option ρ) (c10 : (Int) → (Int) → (Int) → (List Int) → (List It) → (Int) → (Int) → Option ρ) (c3 : Option ρ) (x : Int) (y : Int) (s : Int) (ids : List Int) (l : List It) : Option ρ :=
  (c10 ((Tr.leaf x y s ids).x) ((Tr.leaf x y s ids).y) ((Tr.leaf x y s ids).size) ((Tr.leaf x y s ids).ids) (l) (0) (0))
def G115l (D : Nat) (k : Nat) (x : Int) (y : Int) (s : Int) (ids : List Int) (l : List It) : Option (Bool) := T115l D some (L115l_10 D k) (L115l_3 D k) x y s ids l
mutual
theorem t115l_10 (D : Nat) (hE : EnvOK Try.prog (envRt D)) : ∀ (k : Nat) (x : Int) (y : Int) (s : Int) (ids : List Int) (l : List It) (n : Int) (i : Int) (r : Bool), L115l_10 D k x y s ids l n i = some r → Ends Try.prog Try.f115.results.toList (at_ Try.f115 10) (S115l_10 x y s ids l n i) (F.bool r)
  | 0, _, _, _, _, _, _, _, _, h => nomatch h
  | k + 1, x, y, s, ids, l, n, i, r, h => by
    refine Ends.of_cut tyOK hE (T := [(10, [1, 2, 6, 7], 1000), (3, [1, 2, 5], 1000)]) (n := 200) ?_
    have e : runCut Try.prog (tiOf Try.prog) (envRt D) [(10, [1, 2, 6, 7], 1000), (3, [1, 2, 5], 1000)] 0 Try.f115.results.toList some 200 (at_ Try.f115 10) (S115l_10 x y s ids l n i) = T115l_10 D (fun r => some (.ret (F.bool r))) (fun x y s ids l n i => some (.cut (at_ Try.f115 10) (S115l_10 x y s ids l n i))) (some (.cut (at_ Try.f115 3) (S115l_3 ))) x y s ids l n i := by kernel_rfl
    rw [e]
    exact (good_sel h (fun _ h => (good_sel h (fun _ h => (good_sel h (fun _ h => (good_sel h (fun _ h => (good_sel h (fun _ h => good_cut (t115l_10 D hE k _ _ _ _ _ _ _ r h)) (fun _ h => (good_sel h (fun _ h => (good_sel h (fun _ h => (good_sel h (fun _ h => (good_sel h (fun _ h => (good_sel h (fun _ h => (good_sel h (fun _ h => good_ret (by cases h; rfl)) (fun _ h => good_cut (t115l_10 D hE k _ _ _ _ _ _ _ r h)))) (fun _ h => nomatch h))) (fun _ h => nomatch h))) (fun _ h => nomatch h))) (fun _ h => nomatch h))) (fun _ h => good_ret (by cases h; rfl)))))) (fun _ h => nomatch h))) (fun _ h => nomatch h))) (fun _ h => nomatch h))) (fun _ h => good_ret (by cases h; rfl)))
theorem t115l_3 (D : Nat) (hE : EnvOK Try.prog (envRt D)) : ∀ (k : Nat)  (r : Bool), L115l_3 D k  = some r → Ends Try.prog Try.f115.results.toList (at_ Try.f115 3) (S115l_3 ) (F.bool r)
  | 0, _, h => nomatch h
  | k + 1, r, h => by
    refine Ends.of_cut tyOK hE (T := [(10, [1, 2, 6, 7], 1000), (3, [1, 2, 5], 1000)]) (n := 200) ?_
    have e : runCut Try.prog (tiOf Try.prog) (envRt D) [(10, [1, 2, 6, 7], 1000), (3, [1, 2, 5], 1000)] 0 Try.f115.results.toList some 200 (at_ Try.f115 3) (S115l_3 ) = T115l_3 D (fun r => some (.ret (F.bool r))) (fun x y s ids l n i => some (.cut (at_ Try.f115 10) (S115l_10 x y s ids l n i))) (some (.cut (at_ Try.f115 3) (S115l_3 )))  := by kernel_rfl
    rw [e]
    exact nomatch h
end
theorem t115l (D : Nat) (hE : EnvOK Try.prog (envRt D)) (k : Nat) (x : Int) (y : Int) (s : Int) (ids : List Int) (l : List It) (r : Bool) (h : G115l D k x y s ids l = some r) : Ends Try.prog Try.f115.results.toList [.code (bodyOf Try.f115)] (start Try.f115.ntmps ([trF (Tr.leaf x y s ids), itemsF l].map .f)) (F.bool r) := by
  refine Ends.of_run tyOK hE (T := [(10, [1, 2, 6, 7], 1000), (3, [1, 2, 5], 1000)]) (n := 200) ?_
  have e : run Try.prog (tiOf Try.prog) (envRt D) [(10, [1, 2, 6, 7], 1000), (3, [1, 2, 5], 1000)] 0 Try.f115.results.toList some 200 [.code (bodyOf Try.f115)] (start Try.f115.ntmps ([trF (Tr.leaf x y s ids), itemsF l].map .f)) = T115l D (fun r => some (.ret (F.bool r))) (fun x y s ids l n i => some (.cut (at_ Try.f115 10) (S115l_10 x y s ids l n i))) (some (.cut (at_ Try.f115 3) (S115l_3 ))) x y s ids l := by kernel_rfl
  rw [e]
  exact good_cut (t115l_10 D hE k _ _ _ _ _ _ _ r h)
theorem ck_loop (D : Nat) (q : Qd) (deep : Int) (hf : fewV q = true) (hd : 0 ≤ deep ∧ deep ≤ 8) (hok : ∀ a, 0 ≤ a → checkOk D q a (deep + 1) = true) (ks : List Bk) (hk : ks.length ≤ 4) : ∀ (m i : Nat) (at1 : Int), i + m = ks.length → 0 ≤ at1 →
    L76_14 D (m + 1) q at1 deep ks i = some (ckKids (fun a b => checkV D q a b (deep + 1)) (ks.drop i) at1)
  | 0, i, at1, h, ha => by
    have c1 : decide ((i : Int) < (ks.length : Int)) = false := decide_eq_false (by omega)
    simp only [L76_14, T76_14, c1, bsel_false]
    rw [List.drop_eq_nil_of_le (by omega)]
    rfl
  | m + 1, i, at1, h, ha => by
    have hi : i < ks.length := by omega
    have c1 : decide ((i : Int) < (ks.length : Int)) = true := decide_eq_true (by omega)
    have c2 : decide (0 ≤ (i : Int)) = true := decide_eq_true (by omega)
    have hw : IntKind.i64.wrap ((i : Int) + 1) = ((i + 1 : Nat) : Int) := by rw [wrapi (by omega) (by omega)]; omega
    have hw2 : IntKind.i64.wrap (deep + 1) = deep + 1 := wrapi (by omega) (by omega)
    have h1 : ks.getD i .zero = ks[i] := by simp [List.getD, List.getElem?_eq_getElem hi]
    have c3 := hok at1 ha
    rw [L76_14]
    simp only [T76_14, c1, c2, hw, hw2, bsel_true, Int.toNat_natCast, isQd_qdF, unQd_qdF, isBk_bkF, unBk_bkF, hf, c3, Bool.and_true]
    rw [List.drop_eq_getElem_cons hi, ckKids, h1]
    cases hc : decide (checkV D q at1 ks[i] (deep + 1) < 0) with
    | true => rfl
    | false =>
      have h2 : 0 ≤ checkV D q at1 ks[i] (deep + 1) := by have := of_decide_eq_false hc; omega
      exact ck_loop D q deep hf hd hok ks hk m (i + 1) _ (by omega) h2
theorem check_step (D : Nat) (q : Qd) (at1 : Int) (due : Bk) (deep : Int) (hf : fewV q = true) (ho : checkOk (D + 1) q at1 deep = true) : G76 D 5 q at1 due deep = some (checkV (D + 1) q at1 due deep) := by
  simp only [checkOk, Bool.and_eq_true, decide_eq_true_eq] at ho
  obtain ⟨⟨⟨⟨⟨o1, o2⟩, o3⟩, o4⟩, o5⟩, o6⟩ := ho
  have hlen := (allShort_iff.1 o1).1
  unfold G76 T76
  rw [checkV]
  cases h1 : decide (at1 ≥ (q.blocks.length : Int)) with
  | true => rfl
  | false =>
    have h1' := of_decide_eq_false h1
    have c2 : decide (0 ≤ at1) = true := decide_eq_true o2
    have c3 : decide (at1 < (q.blocks.length : Int)) = true := decide_eq_true (by omega)
    have c4 := short_at o1 (i := at1.toNat) (by omega)
    have hw : IntKind.i64.wrap (at1 + 1) = at1 + 1 := wrapi (by omega) (by omega)
    generalize q.blocks.getD at1.toNat Bk.zero = b at c4 ⊢
    simp only [c2, c3, bsel_true, bsel_false, cond_false, isInts_intsF, unInts_intsF, c4, Bool.and_true, isQd_qdF, unQd_qdF, hf, isBk_bkF, unBk_bkF, hw]
    cases hx : (b.x != due.x) with
    | true => rfl
    | false => cases hy : (b.y != due.y) with
      | true => rfl
      | false => cases hz : (b.size != due.size) with
        | true => rfl
        | false => cases hs : b.split with
          | false => cases hv : sameV b.ids due.ids <;> rfl
          | true => cases hl : decide ((b.ids.length : Int) > 0) with
            | true => rfl
            | false => cases hd : (deep == q.deep) with
              | true => rfl
              | false =>
                have hd' : deep ≠ q.deep := by simpa using hd
                refine ck_loop D q deep hf (by omega) (fun a ha => ?_) (kidsV q due) (by exact Nat.le_refl 4) 4 0 (at1 + 1) rfl (by omega)
                simp only [checkOk, Bool.and_eq_true, decide_eq_true_eq]
                exact ⟨⟨⟨⟨⟨o1, ha⟩, by omega⟩, by omega⟩, o5⟩, by omega⟩
theorem okCheck : ∀ D, PureOK Try.prog 76 (preCk D) (resCk D)
  | 0 => by
    intro xs hp
    exfalso
    unfold preCk at hp
    split at hp
    · simp only [checkOk, Bool.and_eq_true, decide_eq_true_eq] at hp
      omega
    · cases hp
  | D + 1 => fn_pure_at (c := bodyOf Try.f76) Try.func76 (by kernel_rfl) (by kernel_rfl) fun xs hp => match xs, hp with
    | [q, .int .i64 a, due, .int .i64 deep], hp => by
      simp only [preCk, Bool.and_eq_true] at hp
      obtain ⟨⟨⟨h1, h2⟩, h3⟩, h4⟩ := hp
      exact ⟨[qdF (unQd q), .int .i64 a, bkF (unBk due), .int .i64 deep], _, ⟨(qd_eqv h1).1, .refl _, FLe.bk h3, .refl _, trivial⟩, t76 D (Env.add_ok envQ3_ok (okCheck D).sp) 5 _ _ _ _ _ (check_step D _ _ _ _ h2 h4), .refl _⟩

/-! The reader of trees. -/
def klist : Nat → Int → List Int
  | 0, _ => []
  | m + 1, j => j :: klist m (j + 1)
def rdF (D : Nat) (l : List Bk) (x y sz deep : Int) : Int → Int → Tr × Int × Bool := fun a k => readV D l a (IntKind.i64.wrap (x + IntKind.i64.wrap ((k.tmod 2) * halfV sz))) (IntKind.i64.wrap (y + IntKind.i64.wrap (IntKind.i64.wrap (k.tdiv 2) * halfV sz))) (halfV sz) (deep - 1)
theorem rdKids_pos {f : Int → Int → Tr × Int × Bool} (hf : ∀ a k, 0 ≤ a → (f a k).2.2 = true → 0 ≤ (f a k).2.1) : ∀ (ks : List Int) (a : Int) (ts : List Tr) (p : Int), 0 ≤ a → rdKids f ks a = some (ts, p) → 0 ≤ p
  | [], a, ts, p, ha, h => by simp only [rdKids, Option.some.injEq, Prod.mk.injEq] at h; omega
  | k :: ks, a, ts, p, ha, h => by
    rw [rdKids] at h
    cases hc : (f a k).2.2 with
    | false => rw [hc] at h; cases h
    | true =>
      rw [hc, cond_true] at h
      cases hr : rdKids f ks (f a k).2.1 with
      | none => rw [hr] at h; cases h
      | some r =>
        obtain ⟨ts', p'⟩ := r
        rw [hr] at h
        simp only [Option.some.injEq, Prod.mk.injEq] at h
        rw [← h.2]
        exact rdKids_pos hf ks _ _ _ (hf a k ha hc) hr
theorem read_pos : ∀ (D : Nat) (l : List Bk) (a x y sz deep : Int), 0 ≤ a → (readV D l a x y sz deep).2.2 = true → 0 ≤ (readV D l a x y sz deep).2.1
  | 0, l, a, x, y, sz, deep, ha, h => Int.le_refl 0
  | D + 1, l, a, x, y, sz, deep, ha, h => by
    have ih := read_pos D l
    rw [readV] at h ⊢
    generalize decide (a ≥ (l.length : Int)) = c1 at h ⊢
    generalize l.getD a.toNat .zero = b at h ⊢
    cases c1 with
    | true => exact Int.le_refl 0
    | false =>
      simp only [cond_false] at h ⊢
      generalize (b.x != x || b.y != y || b.size != sz || (b.split && (decide (deep < 1) || decide ((b.ids.length : Int) > 0)))) = c2 at h ⊢
      cases c2 with
      | true => exact Int.le_refl 0
      | false =>
        simp only [cond_false] at h ⊢
        cases b.split with
        | false => simp only [Bool.not_false, cond_true]; omega
        | true =>
          simp only [Bool.not_true, cond_false]
          split
          · rename_i p hr
            exact rdKids_pos (fun a' k ha' hb => ih a' _ _ _ _ ha' hb) _ _ _ _ (by omega) hr
          · exact Int.le_refl 0
abbrev RdRet := Int × Int × Int × Nat × (Nat → F) × Nat × (Nat → F) × Int × Bool
def rdFail : RdRet := (0, 0, 0, 0, fun _ => F.bool false, 0, fun _ => F.bool false, 0, false)
section
variable (D : Nat) (l : List Bk) (x y sz deep : Int) (dn : Nat) (dg : Nat → F) (hd : 0 ≤ deep ∧ deep ≤ 8) (hok : ∀ a, 0 ≤ a → readOk D l a (deep - 1) = true)
include hd hok
theorem rd_b : ∀ (m : Nat) (j at1 : Int) (n : Nat) (g : Nat → F) (o : List Tr), 0 ≤ j → j + m = 4 → n ≤ 4 - m → 0 ≤ at1 → Lists trF .zero n g o →
    match rdKids (rdF D l x y sz deep) (klist m j) at1 with
    | none => L114_11b D (m + 1) l at1 x y sz deep j dn dg n g = some rdFail
    | some (ts, p) => ts.length = m ∧ ∃ g1, L114_11b D (m + 1) l at1 x y sz deep j dn dg n g = some (x, y, sz, n + m, g1, dn, dg, p, true) ∧ Lists trF .zero (n + m) g1 (o ++ ts)
  | 0, j, at1, n, g, o, hj, h, hn, ha, hg => by
    have c1 : decide (j < 4) = false := decide_eq_false (by omega)
    simp only [klist, rdKids]
    refine ⟨rfl, g, ?_, by simpa using hg⟩
    simp only [L114_11b, T114_11b, c1, bsel_false, decide_true, bsel_true, Nat.add_zero]
  | m + 1, j, at1, n, g, o, hj, h, hn, ha, hg => by
    have c1 : decide (j < 4) = true := decide_eq_true (by omega)
    have hw : IntKind.i64.wrap (j + 1) = j + 1 := wrapi (by omega) (by omega)
    have hw2 : IntKind.i64.wrap (deep - 1) = deep - 1 := wrapi (by omega) (by omega)
    have c3 : decide (((n + 1 : Nat) : Int) * (((72 : Nat) : Int) + 1) ≤ (limit : Int)) = true := by rw [limit_eq]; exact decide_eq_true (by omega)
    have c4 := hok at1 ha
    have hrd : readV D l at1 (IntKind.i64.wrap (x + IntKind.i64.wrap (j.tmod 2 * IntKind.i64.wrap (sz.tdiv 2)))) (IntKind.i64.wrap (y + IntKind.i64.wrap (IntKind.i64.wrap (j.tdiv 2) * IntKind.i64.wrap (sz.tdiv 2)))) (IntKind.i64.wrap (sz.tdiv 2)) (deep - 1) = rdF D l x y sz deep at1 j := rfl
    rw [L114_11b]
    simp only [T114_11b, c1, c3, hw, hw2, bsel_true, isBlocks_blocksF, unBlocks_blocksF, c4, Bool.and_true, decide_true, hrd, klist, rdKids]
    cases hc : (rdF D l x y sz deep at1 j).2.2 with
    | false => rfl
    | true =>
      have hp : 0 ≤ (rdF D l x y sz deep at1 j).2.1 := read_pos D l _ _ _ _ _ ha hc
      have ih := rd_b m (j + 1) (rdF D l x y sz deep at1 j).2.1 (n + 1) _ (o ++ [(rdF D l x y sz deep at1 j).1]) (by omega) (by omega) (by omega) hp (hg.push (rdF D l x y sz deep at1 j).1)
      simp only [cond_true, Bool.not_true, bsel_false]
      cases hr : rdKids (rdF D l x y sz deep) (klist m (j + 1)) (rdF D l x y sz deep at1 j).2.1 with
      | none => rw [hr] at ih; exact ih
      | some r =>
        obtain ⟨ts, p⟩ := r
        rw [hr] at ih
        obtain ⟨h1, g1, e1, e2⟩ := ih
        refine ⟨by simp [h1], g1, ?_, ?_⟩
        · rw [show n + (m + 1) = n + 1 + m by omega]; exact e1
        · rw [show n + (m + 1) = n + 1 + m by omega]; simpa using e2
theorem rd_a (at1 : Int) (ha : 0 ≤ at1) :
    match rdKids (rdF D l x y sz deep) [0, 1, 2, 3] at1 with
    | none => L114_11a D 5 l at1 x y sz deep 0 dn dg = some rdFail
    | some (ts, p) => ts.length = 4 ∧ ∃ g1, L114_11a D 5 l at1 x y sz deep 0 dn dg = some (x, y, sz, 4, g1, dn, dg, p, true) ∧ Lists trF .zero 4 g1 ts := by
  have c1 : decide ((0 : Int) < 4) = true := rfl
  have hw : IntKind.i64.wrap ((0 : Int) + 1) = 1 := wrapi (by omega) (by omega)
  have hw2 : IntKind.i64.wrap (deep - 1) = deep - 1 := wrapi (by omega) (by omega)
  have c3 : decide (((1 : Nat) : Int) * (((72 : Nat) : Int) + 1) ≤ (limit : Int)) = true := by rw [limit_eq]; exact decide_eq_true (by omega)
  have c4 := hok at1 ha
  have hrd : readV D l at1 (IntKind.i64.wrap (x + IntKind.i64.wrap ((0 : Int).tmod 2 * IntKind.i64.wrap (sz.tdiv 2)))) (IntKind.i64.wrap (y + IntKind.i64.wrap (IntKind.i64.wrap ((0 : Int).tdiv 2) * IntKind.i64.wrap (sz.tdiv 2)))) (IntKind.i64.wrap (sz.tdiv 2)) (deep - 1) = rdF D l x y sz deep at1 0 := rfl
  rw [L114_11a]
  simp only [T114_11a, c1, c3, hw, hw2, bsel_true, isBlocks_blocksF, unBlocks_blocksF, c4, Bool.and_true, decide_true, hrd]
  rw [rdKids]
  cases hc : (rdF D l x y sz deep at1 0).2.2 with
  | false => rfl
  | true =>
    have hp : 0 ≤ (rdF D l x y sz deep at1 0).2.1 := read_pos D l _ _ _ _ _ ha hc
    have ih := rd_b D l x y sz deep dn dg hd hok 3 1 (rdF D l x y sz deep at1 0).2.1 1 _ [(rdF D l x y sz deep at1 0).1] (by omega) (by omega) (by omega) hp (Lists.one (enc := trF) (d := .zero) (rdF D l x y sz deep at1 0).1)
    simp only [cond_true, Bool.not_true, bsel_false]
    have hk : klist 3 1 = [1, 2, 3] := rfl
    rw [hk] at ih
    cases hr : rdKids (rdF D l x y sz deep) [1, 2, 3] (rdF D l x y sz deep at1 0).2.1 with
    | none => rw [hr] at ih; exact ih
    | some r =>
      obtain ⟨ts, p⟩ := r
      rw [hr] at ih
      obtain ⟨h1, g1, e1, e2⟩ := ih
      exact ⟨by simp [h1], g1, e1, e2⟩
end
def rdVal (r : RdRet) : F := F.tup [F.agg [F.int .i64 r.1, F.int .i64 r.2.1, F.int .i64 r.2.2.1, F.sl r.2.2.2.1 r.2.2.2.2.1, F.sl r.2.2.2.2.2.1 r.2.2.2.2.2.2.1], F.int .i64 r.2.2.2.2.2.2.2.1, F.bool r.2.2.2.2.2.2.2.2]
def rdOut (v : Tr × Int × Bool) : F := .tup [trF v.1, .int .i64 v.2.1, .bool v.2.2]
theorem fail_le : FLe (rdVal rdFail) (rdOut (.zero, 0, false)) :=
  FLe.tup ⟨FLe.agg ⟨.refl _, .refl _, .refl _, FLe.sl fun j hj => absurd hj (Nat.not_lt_zero _), FLe.sl fun j hj => absurd hj (Nat.not_lt_zero _), trivial⟩, .refl _, .refl _, trivial⟩
theorem one_app {n j : Nat} {g : Nat → F} (h : j < n) : one n g j = g j := by
  match n, h with
  | 1, h =>
    have : j = 0 := by omega
    rw [this]; rfl
  | n + 2, h => rfl
theorem ids_lists (l : List Int) : Lists i64F 0 (0 + l.length) (fun j => if j < 0 then lget [] j else one l.length (fun i => i64F (l.getD i 0)) (j - 0)) l := by
  refine ⟨by omega, fun j hj => ?_⟩
  simp only [Nat.not_lt_zero, if_false, Nat.sub_zero]
  exact one_app (by omega)
theorem leaf_le {x y sz p : Int} {n dn : Nat} {g dg : Nat → F} {ids : List Int} (hn : n = 0) (hd : Lists i64F 0 dn dg ids) : FLe (rdVal (x, y, sz, n, g, dn, dg, p, true)) (rdOut (.leaf x y sz ids, p, true)) := by
  subst hn
  exact FLe.tup ⟨FLe.agg ⟨.refl _, .refl _, .refl _, FLe.sl fun j hj => absurd hj (Nat.not_lt_zero _), hd.le, trivial⟩, .refl _, .refl _, trivial⟩
theorem node_le {x y sz p : Int} {dn : Nat} {g dg : Nat → F} {a b c d : Tr} (hg : Lists trF .zero 4 g [a, b, c, d]) (hd : Lists i64F 0 dn dg []) : FLe (rdVal (x, y, sz, 4, g, dn, dg, p, true)) (rdOut (.node x y sz a b c d, p, true)) := by
  refine FLe.tup ⟨FLe.agg ⟨.refl _, .refl _, .refl _, FLe.sl fun j hj => ?_, hd.le, trivial⟩, .refl _, .refl _, trivial⟩
  have e : g j = trF ([a, b, c, d].getD j .zero) := hg.2 j hj
  show g j = kidG (.node x y sz a b c d) j
  rw [e]
  have hj : j < 4 := hj
  have : j = 0 ∨ j = 1 ∨ j = 2 ∨ j = 3 := by omega
  rcases this with rfl | rfl | rfl | rfl <;> rfl
theorem read_step (D : Nat) (l : List Bk) (at1 x y sz deep : Int) (ho : readOk (D + 1) l at1 deep = true) : ∃ r, G114 D 5 l at1 x y sz deep = some r ∧ FLe (rdVal r) (rdOut (readV (D + 1) l at1 x y sz deep)) := by
  simp only [readOk, Bool.and_eq_true, decide_eq_true_eq] at ho
  obtain ⟨⟨⟨⟨o1, o2⟩, o3⟩, o4⟩, o5⟩ := ho
  have hlen := (allShort_iff.1 o1).1
  unfold G114 T114
  rw [readV]
  cases h1 : decide (at1 ≥ (l.length : Int)) with
  | true => exact ⟨rdFail, rfl, fail_le⟩
  | false =>
    have h1' := of_decide_eq_false h1
    have c2 : decide (0 ≤ at1) = true := decide_eq_true o2
    have c3 : decide (at1 < (l.length : Int)) = true := decide_eq_true (by omega)
    have c4 := of_decide_eq_true (short_at o1 (i := at1.toNat) (by omega))
    have hw : IntKind.i64.wrap (at1 + 1) = at1 + 1 := wrapi (by omega) (by omega)
    generalize l.getD at1.toNat Bk.zero = b at c4 ⊢
    have c5 : decide (((0 + b.ids.length : Nat) : Int) * (((8 : Nat) : Int) + 1) ≤ (limit : Int)) = true := by rw [limit_eq]; exact decide_eq_true (by omega)
    simp only [c2, c3, c5, bsel_true, bsel_false, cond_false, hw, decide_true]
    cases hx : (b.x != x) with
    | true => exact ⟨rdFail, rfl, fail_le⟩
    | false => cases hy : (b.y != y) with
      | true => exact ⟨rdFail, rfl, fail_le⟩
      | false => cases hz : (b.size != sz) with
        | true => exact ⟨rdFail, rfl, fail_le⟩
        | false => cases hs : b.split with
          | false => exact ⟨_, rfl, leaf_le rfl (ids_lists b.ids)⟩
          | true => cases hdp : decide (deep < 1) with
            | true => exact ⟨rdFail, rfl, fail_le⟩
            | false => cases hl : decide ((b.ids.length : Int) > 0) with
              | true => exact ⟨rdFail, rfl, fail_le⟩
              | false =>
                have hdp' := of_decide_eq_false hdp
                have hl' := of_decide_eq_false hl
                have hids : b.ids = [] := List.eq_nil_of_length_eq_zero (by omega)
                have h := rd_a D l x y sz deep (0 + b.ids.length) (fun j => if j < 0 then lget [] j else one b.ids.length (fun i => i64F (b.ids.getD i 0)) (j - 0)) ⟨by omega, o5⟩ (fun a ha => by
                  simp only [readOk, Bool.and_eq_true, decide_eq_true_eq]
                  exact ⟨⟨⟨⟨o1, ha⟩, by omega⟩, by omega⟩, by omega⟩) (at1 + 1) (by omega)
                have hf : (fun a k => readV D l a (IntKind.i64.wrap (x + IntKind.i64.wrap ((k.tmod 2) * halfV sz))) (IntKind.i64.wrap (y + IntKind.i64.wrap (IntKind.i64.wrap (k.tdiv 2) * halfV sz))) (halfV sz) (deep - 1)) = rdF D l x y sz deep := rfl
                simp only [hf, Bool.false_or, Bool.true_and, Bool.or_self, cond_false, Bool.not_true, bsel_false, beq_self_eq_true, bsel_true, Bool.true_beq, Bool.false_beq, Bool.not_false]
                cases hr : rdKids (rdF D l x y sz deep) [0, 1, 2, 3] (at1 + 1) with
                | none => rw [hr] at h; exact ⟨rdFail, h, fail_le⟩
                | some r =>
                  obtain ⟨ts, p⟩ := r
                  rw [hr] at h
                  obtain ⟨h4, g1, e1, e2⟩ := h
                  match ts, h4 with
                  | [a, b', c, d], _ => exact ⟨_, e1, node_le e2 (by have := ids_lists b.ids; rw [hids] at this ⊢; exact this)⟩
theorem okRead : ∀ D, PureOK Try.prog 114 (preRd D) (resRd D)
  | 0 => by
    intro xs hp
    exfalso
    unfold preRd at hp
    split at hp
    · simp only [readOk, Bool.and_eq_true, decide_eq_true_eq] at hp
      omega
    · cases hp
  | D + 1 => fn_pure_at (c := bodyOf Try.f114) Try.func114 (by kernel_rfl) (by kernel_rfl) fun xs hp => match xs, hp with
    | [l, .int .i64 a, .int .i64 x, .int .i64 y, .int .i64 sz, .int .i64 deep], hp => by
      simp only [preRd, Bool.and_eq_true] at hp
      obtain ⟨h1, h2⟩ := hp
      obtain ⟨⟨r1, r2, r3, r4, r5, r6, r7, r8, r9⟩, e1, e2⟩ := read_step D (unBlocks l) a x y sz deep h2
      exact ⟨[blocksF (unBlocks l), .int .i64 a, .int .i64 x, .int .i64 y, .int .i64 sz, .int .i64 deep], _, ⟨(blocks_eqv h1).1, .refl _, .refl _, .refl _, .refl _, .refl _, trivial⟩, t114 D (Env.add_ok envQ3_ok (okRead D).sp) 5 _ _ _ _ _ _ _ _ _ _ _ _ _ _ _ e1, e2⟩

/-! Right ones. -/
theorem right_leaf (D : Nat) (x y s : Int) (ids : List Int) (l : List It) (hl : l.length ≤ 40) : ∀ (m i n : Nat), i + m = l.length → n ≤ i → n ≤ ids.length → L115l_10 D (m + 1) x y s ids l n i = some (ids.drop n == metFrom l x y s i)
  | 0, i, n, h, hn, hi => by
    have c1 : decide ((i : Int) < (l.length : Int)) = false := decide_eq_false (by omega)
    obtain rfl : i = l.length := by omega
    simp only [L115l_10, T115l_10, c1, bsel_false]
    rw [met_end]
    congr 1
    rw [Bool.eq_iff_iff]
    simp only [beq_iff_eq, List.drop_eq_nil_iff]
    omega
  | m + 1, i, n, h, hn, hi => by
    have hlt : i < l.length := by omega
    have c1 : decide ((i : Int) < (l.length : Int)) = true := decide_eq_true (by omega)
    have c2 : decide (0 ≤ (i : Int)) = true := decide_eq_true (by omega)
    have c3 : decide (0 ≤ (n : Int)) = true := decide_eq_true (by omega)
    have hw : IntKind.i64.wrap ((i : Int) + 1) = ((i + 1 : Nat) : Int) := by rw [wrapi (by omega) (by omega)]; omega
    have hw2 : IntKind.i64.wrap ((n : Int) + 1) = ((n + 1 : Nat) : Int) := by rw [wrapi (by omega) (by omega)]; omega
    have ht : (F.agg [F.int IntKind.i64 x, F.int IntKind.i64 y, F.int IntKind.i64 s, F.sl 0 fun x => F.bool false, intsF ids]) = trF (.leaf x y s ids) := rfl
    rw [L115l_10]
    simp only [T115l_10, c1, c2, c3, hw, hw2, bsel_true, Int.toNat_natCast, ht, isTr_trF, unTr_trF]
    rw [met_step l x y s hlt]
    have hm : trMeetsV (.leaf x y s ids) (l.getD i It.zero).x0 (l.getD i It.zero).y0 (l.getD i It.zero).x1 (l.getD i It.zero).y1 = meetsV (l.getD i .zero).x0 (l.getD i .zero).y0 (l.getD i .zero).x1 (l.getD i .zero).y1 x y (IntKind.i64.wrap (x + s)) (IntKind.i64.wrap (y + s)) := rfl
    rw [hm]
    cases meetsV (l.getD i .zero).x0 (l.getD i .zero).y0 (l.getD i .zero).x1 (l.getD i .zero).y1 x y (IntKind.i64.wrap (x + s)) (IntKind.i64.wrap (y + s)) with
    | false =>
      simp only [Bool.not_false, bsel_true, Bool.false_eq_true, if_false]
      exact right_leaf D x y s ids l hl m (i + 1) n (by omega) (by omega) hi
    | true =>
      simp only [Bool.not_true, bsel_false, if_true]
      by_cases hc : (n : Int) ≥ (ids.length : Int)
      · rw [decide_eq_true hc, List.drop_eq_nil_of_le (by omega)]
        rfl
      · have c4 : decide ((n : Int) < (ids.length : Int)) = true := decide_eq_true (by omega)
        have hlt2 : n < ids.length := by omega
        rw [decide_eq_false hc]
        simp only [c4, bsel_true, beq_self_eq_true]
        rw [List.drop_eq_getElem_cons hlt2]
        have h1 : ids.getD n 0 = ids[n] := by simp [List.getD, List.getElem?_eq_getElem hlt2]
        rw [h1, List.cons_beq_cons, bne]
        cases (ids[n] == (l.getD i .zero).id) with
        | false => rfl
        | true =>
          simp only [Bool.not_true, bsel_false, Bool.true_and]
          exact right_leaf D x y s ids l hl m (i + 1) (n + 1) (by omega) (by omega) (by omega)
theorem right_node (D : Nat) (x y s : Int) (a b c d : Tr) (l : List It) (ho : rightOk (D + 1) (.node x y s a b c d) l = true) : G115n D 5 x y s a b c d l = some (rightV l (.node x y s a b c d)) := by
  simp only [rightOk, Bool.and_eq_true, decide_eq_true_eq, trDepth] at ho
  have ok : ∀ t, trDepth t < D → rightOk D t l = true := fun t ht => by simp only [rightOk, Bool.and_eq_true, decide_eq_true_eq]; exact ⟨ho.1, ht⟩
  have hm := Nat.max_lt.1 (Nat.lt_of_succ_lt_succ (of_decide_eq_true ho.2))
  have hm1 := Nat.max_lt.1 hm.1
  have hm2 := Nat.max_lt.1 hm.2
  have oa := ok a hm1.1
  have ob := ok b hm1.2
  have oc := ok c hm2.1
  have od := ok d hm2.2
  unfold G115n T115n
  simp only [L115n_3n0, T115n_3n0, L115n_3n1, T115n_3n1, L115n_3n2, T115n_3n2, L115n_3n3, T115n_3n3, L115n_3n4, T115n_3n4, isTr_trF, unTr_trF, isItems_itemsF, unItems_itemsF, oa, ob, oc, od, Bool.and_true, bsel_true]
  rw [rightV]
  cases rightV l a <;> cases rightV l b <;> cases rightV l c <;> cases rightV l d <;> rfl
theorem okRight : ∀ D, PureOK Try.prog 115 (preRt D) resRt
  | 0 => by
    intro xs hp
    exfalso
    unfold preRt at hp
    split at hp
    · simp only [rightOk, Bool.and_eq_true, decide_eq_true_eq] at hp
      omega
    · cases hp
  | D + 1 => fn_pure_at (c := bodyOf Try.f115) Try.func115 (by kernel_rfl) (by kernel_rfl) fun xs hp => match xs, hp with
    | [t, l], hp => by
      simp only [preRt, Bool.and_eq_true] at hp
      obtain ⟨⟨h1, h2⟩, h3⟩ := hp
      have ht := tr_eq h1
      have hr : resRt [t, l] = .bool (rightV (unItems l) (unTr t)) := rfl
      rw [hr]
      generalize unTr t = t' at ht h3 ⊢
      subst ht
      refine ⟨[trF t', itemsF (unItems l)], .bool (rightV (unItems l) t'), ⟨.refl _, (items_eqv h2).1, trivial⟩, ?_, .refl _⟩
      cases t' with
      | leaf x y s ids =>
        simp only [rightOk, Bool.and_eq_true, decide_eq_true_eq] at h3
        exact t115l D (Env.add_ok envQ3_ok (okRight D).sp) ((unItems l).length + 1) x y s ids (unItems l) _ (right_leaf D x y s ids _ h3.1 _ 0 0 (by omega) (by omega) (by omega))
      | node x y s a b c d => exact t115n D (Env.add_ok envQ3_ok (okRight D).sp) 5 x y s a b c d (unItems l) _ (right_node D x y s a b c d _ h3)
def envQ4 : Env := ((envQ3.add 76 (.pure (preCk 9) (resCk 9))).add 114 (.pure (preRd 9) (resRd 9))).add 115 (.pure (preRt 9) resRt)
theorem envQ4_ok : EnvOK Try.prog envQ4 := Env.add_ok (Env.add_ok (Env.add_ok envQ3_ok (okCheck 9).sp) (okRead 9).sp) (okRight 9).sp
end
end Go.Proofs.Ytjbilidfnfnpfaa.R
