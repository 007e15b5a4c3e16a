/-
  The own walk and what it shows, part 5 of 8.
-/
import Derived.Test.YtbnainbjcaekjaaJ1
import Derived.Test.YtbnainbjcaekjaaJ2
import Derived.Test.YtbnainbjcaekjaaJ3
import Derived.Test.YtbnainbjcaekjaaJ4
set_option linter.unusedVariables false
set_option linter.unusedSimpArgs false
set_option maxRecDepth 100000
set_option exponentiation.threshold 30000
namespace Go.Proofs.Ytbnainbjcaekjaa.R
open Go
noncomputable section
/-! ### function 12 -/
def S12_4 (q : Qd) (i : Int) : St := ⟨[.bad, (U.hp 0 0), (U.hp 1 0), .bad, (U.f (F.int .i64 i)), .bad, .bad, .bad, .bad, .bad, .bad, .bad, .bad, .bad, .bad, .bad, .bad, .bad, .bad, .bad, .bad, .bad, .bad, .bad, .bad, .bad, .bad, .bad, .bad, .bad, .bad, .bad, .bad, .bad, .bad, .bad, .bad, .bad, .bad, .bad, .bad, .bad, .bad, .bad, .bad, .bad, .bad, .bad, .bad, .bad, .bad, .bad, .bad, .bad, .bad, .bad, .bad, .bad, .bad, .bad, .bad, .bad, .bad, .bad, .bad, .bad, .bad, .bad, .bad, .bad, .bad, .bad, .bad, .bad, .bad, .bad, .bad, .bad, .bad, .bad, .bad, .bad, .bad, .bad, .bad, .bad, .bad, .bad, .bad, .bad, .bad, .bad, .bad, .bad, .bad, .bad, .bad, .bad, .bad, .bad], [HO.box [(U.f (F.int .i64 q.most)), (U.f (F.int .i64 q.deep)), (U.f (itemsF q.items)), (U.f (blocksF q.blocks))], HO.box [(U.f (F.int .i64 0)), (U.f (F.int .i64 0)), (U.f (F.int .i64 0)), U.nils, U.nils]]⟩
def T12_4 {ρ : Type} (ret : (F) → Option ρ) (c4 : (Qd) → (Int) → Option ρ) (q : Qd) (i : Int) : Option ρ :=
 (bsel (decide (i < (↑q.items.length : Int)))
 (bsel (decide (0 ≤ i))
 (bsel (decide (i < (↑q.items.length : Int)))
 (bsel ((!inV (q.items.getD i.toNat It.zero).id 1 1000) == false)
 (bsel (decide (0 ≤ i))
 (bsel (decide (i < (↑q.items.length : Int)))
 (bsel ((!segOkV (q.items.getD i.toNat It.zero).x0 (q.items.getD i.toNat It.zero).y0 (q.items.getD i.toNat It.zero).x1 (q.items.getD i.toNat It.zero).y1) == false)
 (bsel (decide (i > 0) == true)
 (bsel (decide (0 ≤ IntKind.i64.wrap (i - 1)))
 (bsel (decide (IntKind.i64.wrap (i - 1) < (↑q.items.length : Int)))
 (bsel (decide (0 ≤ i))
 (bsel (decide (i < (↑q.items.length : Int)))
 (bsel (decide ((q.items.getD (IntKind.i64.wrap (i - 1)).toNat It.zero).id ≥ (q.items.getD i.toNat It.zero).id))
 (ret (F.tup [F.agg [F.int .i64 0, F.int .i64 0, F.int .i64 0, F.tup [], F.tup []], F.bool false]))
 (c4 (q) (IntKind.i64.wrap (i + 1))))
 none)
 none)
 none)
 none)
 (c4 (q) (IntKind.i64.wrap (i + 1))))
 (ret (F.tup [F.agg [F.int .i64 0, F.int .i64 0, F.int .i64 0, F.tup [], F.tup []], F.bool false])))
 none)
 none)
 (ret (F.tup [F.agg [F.int .i64 0, F.int .i64 0, F.int .i64 0, F.tup [], F.tup []], F.bool false])))
 none)
 none)
 (bsel (isBlocks (blocksF q.blocks) && readOk 9 (unBlocks (blocksF q.blocks)) 0 q.deep)
 (bsel ((!(readV 9 (unBlocks (blocksF q.blocks)) 0 (-1048576) (-1048576) 2097152 q.deep).snd.snd) == false)
 (bsel (((readV 9 (unBlocks (blocksF q.blocks)) 0 (-1048576) (-1048576) 2097152 q.deep).snd.fst != (↑q.blocks.length : Int)) == false)
 (bsel (isTr (trF (readV 9 (unBlocks (blocksF q.blocks)) 0 (-1048576) (-1048576) 2097152 q.deep).fst) && isItems (itemsF q.items) && rightOk 9 (unTr (trF (readV 9 (unBlocks (blocksF q.blocks)) 0 (-1048576) (-1048576) 2097152 q.deep).fst)) (unItems (itemsF q.items)))
 (bsel (!rightV (unItems (itemsF q.items)) (unTr (trF (readV 9 (unBlocks (blocksF q.blocks)) 0 (-1048576) (-1048576) 2097152 q.deep).fst)))
 (ret (F.tup [F.agg [F.int .i64 0, F.int .i64 0, F.int .i64 0, F.tup [], F.tup []], F.bool false]))
 (ret (F.tup [trF (readV 9 (unBlocks (blocksF q.blocks)) 0 (-1048576) (-1048576) 2097152 q.deep).fst, F.bool true])))
 none)
 (ret (F.tup [F.agg [F.int .i64 0, F.int .i64 0, F.int .i64 0, F.tup [], F.tup []], F.bool false])))
 (ret (F.tup [F.agg [F.int .i64 0, F.int .i64 0, F.int .i64 0, F.tup [], F.tup []], F.bool false])))
 none))
def L12_4 : Nat → (Qd) → (Int) → Option (F)
  | 0, _, _ => none
  | k + 1, q, i => T12_4 some (L12_4 k) q i
def T12 {ρ : Type} (ret : (F) → Option ρ) (c4 : (Qd) → (Int) → Option ρ) (q : Qd) : Option ρ :=
 (bsel ((!limitsV q.most q.deep) == false)
 (bsel (decide ((↑q.items.length : Int) > 40) == false)
 (bsel (decide ((↑q.blocks.length : Int) > 2000))
 (ret (F.tup [F.agg [F.int .i64 0, F.int .i64 0, F.int .i64 0, F.tup [], F.tup []], F.bool false]))
 (c4 (q) (0)))
 (ret (F.tup [F.agg [F.int .i64 0, F.int .i64 0, F.int .i64 0, F.tup [], F.tup []], F.bool false])))
 (ret (F.tup [F.agg [F.int .i64 0, F.int .i64 0, F.int .i64 0, F.tup [], F.tup []], F.bool false])))
def G12 (k : Nat) (q : Qd) : Option (F) := T12 some (L12_4 k) q
theorem t12_4 : ∀ (k : Nat) (q : Qd) (i : Int) (rt : F), L12_4 k q i = some rt → Ends Try.prog (ResultVar.tmp 1000002 :: Go.Proofs.Try.f12.results.toList) (at_ Try.f12 4) (S12_4 q i) (rt)
  | 0, _, _, _, h => nomatch h
  | k + 1, q, i, rt, h => by
    refine Ends.of_cut tyOK envQ4_ok (T := [(4, [1, 2, 4], 1000)]) (n := 200) ?_
    have e : runCut Try.prog (tiOf Try.prog) envQ4 [(4, [1, 2, 4], 1000)] 0 (ResultVar.tmp 1000002 :: Go.Proofs.Try.f12.results.toList) some 200 (at_ Try.f12 4) (S12_4 q i) = T12_4 (fun rt => some (.ret (rt))) (fun q i => some (.cut (at_ Try.f12 4) (S12_4 q i))) q i := by kernel_rfl
    rw [e]
    exact (good_sel h (fun _ h => (good_sel h (fun _ h => (good_sel h (fun _ h => (good_sel h (fun _ h => (good_sel h (fun _ h => (good_sel h (fun _ h => (good_sel h (fun _ h => (good_sel h (fun _ h => (good_sel h (fun _ h => (good_sel h (fun _ h => (good_sel h (fun _ h => (good_sel h (fun _ h => (good_sel h (fun _ h => good_ret (by cases h; rfl)) (fun _ h => good_cut (t12_4 k _ _ rt h)))) (fun _ h => nomatch h))) (fun _ h => nomatch h))) (fun _ h => nomatch h))) (fun _ h => nomatch h))) (fun _ h => good_cut (t12_4 k _ _ rt h)))) (fun _ h => good_ret (by cases h; rfl)))) (fun _ h => nomatch h))) (fun _ h => nomatch h))) (fun _ h => good_ret (by cases h; rfl)))) (fun _ h => nomatch h))) (fun _ h => nomatch h))) (fun _ h => (good_sel h (fun _ h => (good_sel h (fun _ h => (good_sel h (fun _ h => (good_sel h (fun _ h => (good_sel h (fun _ h => good_ret (by cases h; rfl)) (fun _ h => good_ret (by cases h; rfl)))) (fun _ h => nomatch h))) (fun _ h => good_ret (by cases h; rfl)))) (fun _ h => good_ret (by cases h; rfl)))) (fun _ h => nomatch h))))
theorem t12 (k : Nat) (q : Qd) (rt : F) (h : G12 k q = some rt) : Ends Try.prog (ResultVar.tmp 1000002 :: Go.Proofs.Try.f12.results.toList) [.code (bodyOf Try.f12)] (start Try.f12.ntmps ([qdF q].map .f)) (rt) := by
  refine Ends.of_run tyOK envQ4_ok (T := [(4, [1, 2, 4], 1000)]) (n := 200) ?_
  have e : run Try.prog (tiOf Try.prog) envQ4 [(4, [1, 2, 4], 1000)] 0 (ResultVar.tmp 1000002 :: Go.Proofs.Try.f12.results.toList) some 200 [.code (bodyOf Try.f12)] (start Try.f12.ntmps ([qdF q].map .f)) = T12 (fun rt => some (.ret (rt))) (fun q i => some (.cut (at_ Try.f12 4) (S12_4 q i))) q := by kernel_rfl
  rw [e]
  exact (good_sel h (fun _ h => (good_sel h (fun _ h => (good_sel h (fun _ h => good_ret (by cases h; rfl)) (fun _ h => good_cut (t12_4 k _ _ rt h)))) (fun _ h => good_ret (by cases h; rfl)))) (fun _ h => good_ret (by cases h; rfl)))
/-! ### function 8 -/
def S8_4 (q : Qd) (i : Int) : St := ⟨[.bad, (U.hp 0 0), .bad, .bad, .bad, .bad, .bad, .bad, .bad, .bad, .bad, .bad, .bad, .bad, .bad, .bad, .bad, .bad, .bad, .bad, .bad, .bad, .bad, .bad, .bad, .bad, .bad, .bad, (U.f (itemsF q.items)), (U.f (F.int .i64 q.items.length)), (U.f (F.int .i64 i)), .bad, .bad, .bad, .bad, .bad, .bad, .bad, .bad, .bad, .bad, .bad, .bad, .bad, .bad, .bad, .bad, .bad, .bad, .bad, .bad, .bad, .bad, .bad, .bad, .bad, .bad, .bad, .bad, .bad, .bad, .bad, .bad, .bad, .bad, .bad, .bad, .bad, .bad, .bad], [HO.box [(U.f (F.int .i64 q.most)), (U.f (F.int .i64 q.deep)), (U.f (itemsF q.items)), (U.f (blocksF q.blocks))]]⟩
def T8_4 {ρ : Type} (ret : (Bool) → Option ρ) (c4 : (Qd) → (Int) → Option ρ) (q : Qd) (i : Int) : Option ρ :=
 (bsel (decide (i < (↑q.items.length : Int)))
 (bsel (decide (0 ≤ i))
 (bsel (decide (i < (↑q.items.length : Int)))
 (bsel ((!inV (q.items.getD i.toNat It.zero).id 1 1000) == false)
 (bsel ((!segOkV (q.items.getD i.toNat It.zero).x0 (q.items.getD i.toNat It.zero).y0 (q.items.getD i.toNat It.zero).x1 (q.items.getD i.toNat It.zero).y1) == false)
 (bsel (decide (i > 0) == true)
 (bsel (decide (0 ≤ IntKind.i64.wrap (i - 1)))
 (bsel (decide (IntKind.i64.wrap (i - 1) < (↑q.items.length : Int)))
 (bsel (decide ((q.items.getD i.toNat It.zero).id ≤ (q.items.getD (IntKind.i64.wrap (i - 1)).toNat It.zero).id))
 (ret (false))
 (c4 (q) (IntKind.i64.wrap (i + 1))))
 none)
 none)
 (c4 (q) (IntKind.i64.wrap (i + 1))))
 (ret (false)))
 (ret (false)))
 none)
 none)
 (bsel (isQd (qdF q) && fewV (unQd (qdF q)))
 (bsel (isQd (qdF q) && fewV (unQd (qdF q)) && isBk (resRoot [qdF q]) && checkOk 9 (unQd (qdF q)) 0 0)
 (ret (checkV 9 (unQd (qdF q)) 0 (unBk (resRoot [qdF q])) 0 == (↑q.blocks.length : Int)))
 none)
 none))
def L8_4 : Nat → (Qd) → (Int) → Option (Bool)
  | 0, _, _ => none
  | k + 1, q, i => T8_4 some (L8_4 k) q i
def T8 {ρ : Type} (ret : (Bool) → Option ρ) (c4 : (Qd) → (Int) → Option ρ) (q : Qd) : Option ρ :=
 (bsel ((!inV q.most 1 8) == false)
 (bsel ((!inV q.deep 0 8) == false)
 (bsel (decide ((↑q.items.length : Int) > 40) == false)
 (bsel (decide ((↑q.blocks.length : Int) > 2000))
 (ret (false))
 (c4 (q) (0)))
 (ret (false)))
 (ret (false)))
 (ret (false)))
def G8 (k : Nat) (q : Qd) : Option (Bool) := T8 some (L8_4 k) q
theorem t8_4 : ∀ (k : Nat) (q : Qd) (i : Int) (r : Bool), L8_4 k q i = some r → Ends Try.prog Try.f8.results.toList (at_ Try.f8 4) (S8_4 q i) (F.bool r)
  | 0, _, _, _, h => nomatch h
  | k + 1, q, i, r, h => by
    refine Ends.of_cut tyOK envQ4_ok (T := [(4, [1, 28, 29, 30], 1000)]) (n := 200) ?_
    have e : runCut Try.prog (tiOf Try.prog) envQ4 [(4, [1, 28, 29, 30], 1000)] 0 Try.f8.results.toList some 200 (at_ Try.f8 4) (S8_4 q i) = T8_4 (fun r => some (.ret (F.bool r))) (fun q i => some (.cut (at_ Try.f8 4) (S8_4 q i))) q i := by kernel_rfl
    rw [e]
    exact (good_sel h (fun _ h => (good_sel h (fun _ h => (good_sel h (fun _ h => (good_sel h (fun _ h => (good_sel h (fun _ h => (good_sel h (fun _ h => (good_sel h (fun _ h => (good_sel h (fun _ h => (good_sel h (fun _ h => good_ret (by cases h; rfl)) (fun _ h => good_cut (t8_4 k _ _ r h)))) (fun _ h => nomatch h))) (fun _ h => nomatch h))) (fun _ h => good_cut (t8_4 k _ _ r h)))) (fun _ h => good_ret (by cases h; rfl)))) (fun _ h => good_ret (by cases h; rfl)))) (fun _ h => nomatch h))) (fun _ h => nomatch h))) (fun _ h => (good_sel h (fun _ h => (good_sel h (fun _ h => good_ret (by cases h; rfl)) (fun _ h => nomatch h))) (fun _ h => nomatch h))))
theorem t8 (k : Nat) (q : Qd) (r : Bool) (h : G8 k q = some r) : Ends Try.prog Try.f8.results.toList [.code (bodyOf Try.f8)] (start Try.f8.ntmps ([qdF q].map .f)) (F.bool r) := by
  refine Ends.of_run tyOK envQ4_ok (T := [(4, [1, 28, 29, 30], 1000)]) (n := 200) ?_
  have e : run Try.prog (tiOf Try.prog) envQ4 [(4, [1, 28, 29, 30], 1000)] 0 Try.f8.results.toList some 200 [.code (bodyOf Try.f8)] (start Try.f8.ntmps ([qdF q].map .f)) = T8 (fun r => some (.ret (F.bool r))) (fun q i => some (.cut (at_ Try.f8 4) (S8_4 q i))) q := by kernel_rfl
  rw [e]
  exact (good_sel h (fun _ h => (good_sel h (fun _ h => (good_sel h (fun _ h => (good_sel h (fun _ h => good_ret (by cases h; rfl)) (fun _ h => good_cut (t8_4 k _ _ r h)))) (fun _ h => good_ret (by cases h; rfl)))) (fun _ h => good_ret (by cases h; rfl)))) (fun _ h => good_ret (by cases h; rfl)))
/-! Rows of items. -/
/-! Right items: in bounds, and rising. -/
def risesV (p : Option Int) (n : Int) : Bool := match p with | none => true | some p => !decide (n ≤ p)
def itsOk : List It → Option Int → Bool
  | [], _ => true
  | t :: ts, p => inV t.id 1 1000 && segOkV t.x0 t.y0 t.x1 t.y1 && risesV p t.id && itsOk ts (some t.id)
def prevOf (l : List It) : Nat → Option Int
  | 0 => none
  | i + 1 => some (l.getD i .zero).id
def treeV (q : Qd) : Tr × Bool :=
  bif limitsV q.most q.deep && !decide ((q.items.length : Int) > 40) && !decide ((q.blocks.length : Int) > 2000) && itsOk q.items none && (readV 9 q.blocks 0 (-1048576) (-1048576) 2097152 q.deep).2.2 &&
    (readV 9 q.blocks 0 (-1048576) (-1048576) 2097152 q.deep).2.1 == (q.blocks.length : Int) && rightV q.items (readV 9 q.blocks 0 (-1048576) (-1048576) 2097152 q.deep).1 then ((readV 9 q.blocks 0 (-1048576) (-1048576) 2097152 q.deep).1, true) else (.zero, false)
def okI (q : Qd) : Bool := limitsV q.most q.deep && !decide ((q.items.length : Int) > 40) && !decide ((q.blocks.length : Int) > 2000) && itsOk q.items none && checkV 9 q 0 (rootV q) 0 == (q.blocks.length : Int)
theorem rdKids_all {f : Int → Int → Tr × Int × Bool} {P : Tr → Prop} (hf : ∀ a k, (f a k).2.2 = true → P (f a k).1) : ∀ (ks : List Int) (a : Int) (ts : List Tr) (p : Int), rdKids f ks a = some (ts, p) → ∀ t ∈ ts, P t
  | [], a, ts, p, h => by simp only [rdKids, Option.some.injEq, Prod.mk.injEq] at h; rw [← h.1]; simp
  | k :: ks, a, ts, p, h => by
    rw [rdKids] at h
    cases hc : (f a k).2.2 with
    | false => rw [hc] at h; cases h
    | true =>
      rw [hc, cond_true] at h
      cases hr : rdKids f ks (f a k).2.1 with
      | none => rw [hr] at h; cases h
      | some r =>
        obtain ⟨ts', p'⟩ := r
        rw [hr] at h
        simp only [Option.some.injEq, Prod.mk.injEq] at h
        rw [← h.1]
        intro t ht
        rcases List.mem_cons.1 ht with rfl | ht
        · exact hf a k hc
        · exact rdKids_all hf ks _ _ _ hr t ht
theorem read_depth : ∀ (D : Nat) (l : List Bk) (a x y sz deep : Int), 0 ≤ deep → (readV D l a x y sz deep).2.2 = true → (trDepth (readV D l a x y sz deep).1 : Int) ≤ deep
  | 0, l, a, x, y, sz, deep, hd, h => by cases h
  | D + 1, l, a, x, y, sz, deep, hd, h => by
    have ih := read_depth D l
    rw [readV] at h ⊢
    generalize decide (a ≥ (l.length : Int)) = c1 at h ⊢
    generalize l.getD a.toNat .zero = b at h ⊢
    cases c1 with
    | true => cases h
    | false =>
      simp only [cond_false] at h ⊢
      cases hc : (b.x != x || b.y != y || b.size != sz || (b.split && (decide (deep < 1) || decide ((b.ids.length : Int) > 0)))) with
      | true => rw [hc] at h; cases h
      | false =>
        rw [hc] at h
        simp only [cond_false] at h ⊢
        cases hs : b.split with
        | false => simp only [Bool.not_false, cond_true, trDepth]; exact hd
        | true =>
          rw [hs] at hc h
          simp only [Bool.or_eq_false_iff, Bool.true_and, decide_eq_false_iff_not] at hc
          have hd1 : 1 ≤ deep := by omega
          simp only [Bool.not_true, cond_false] at h ⊢
          split
          · rename_i t0 t1 t2 t3 p hr
            have all := rdKids_all (P := fun t => (trDepth t : Int) ≤ deep - 1) (fun a k hk => ih a _ _ _ _ (by omega) hk) _ _ _ _ hr
            have h0 := all t0 (by simp)
            have h1 := all t1 (by simp)
            have h2 := all t2 (by simp)
            have h3 := all t3 (by simp)
            simp only [trDepth]
            have : max (max (trDepth t0) (trDepth t1)) (max (trDepth t2) (trDepth t3)) < deep.toNat := Nat.max_lt.2 ⟨Nat.max_lt.2 ⟨by omega, by omega⟩, Nat.max_lt.2 ⟨by omega, by omega⟩⟩
            omega
          · rename_i hne
            split at h
            · rename_i t0 t1 t2 t3 p hr; exact absurd hr (hne _ _ _ _ _)
            · cases h
/-! The two ways through a tree come to the same. -/
theorem kids_same (f : Int → Bk → Int) (g : Int → Int → Tr × Int × Bool) (R : Tr → Bool) (hp : ∀ a j, 0 ≤ a → (g a j).2.2 = true → 0 ≤ (g a j).2.1) : ∀ (zs : List (Bk × Int)), (∀ z ∈ zs, ∀ a, 0 ≤ a → f a z.1 = bif (g a z.2).2.2 && R (g a z.2).1 then (g a z.2).2.1 else -1) → ∀ a, 0 ≤ a →
    ckKids f (zs.map (·.1)) a = match rdKids g (zs.map (·.2)) a with | some (ts, p) => bif ts.all R then p else -1 | none => -1
  | [], _, a, ha => by simp [ckKids, rdKids]
  | z :: zs, hz, a, ha => by
    have h1 := hz z (by simp) a ha
    simp only [List.map_cons]
    rw [ckKids, rdKids, h1]
    cases hc : (g a z.2).2.2 with
    | false => rfl
    | true =>
      have hpos := hp a z.2 ha hc
      have ih := kids_same f g R hp zs (fun z' hz' => hz z' (by simp [hz'])) (g a z.2).2.1 hpos
      cases hR : R (g a z.2).1 with
      | false =>
        cases hr : rdKids g (zs.map (·.2)) (g a z.2).2.1 with
        | none => simp
        | some r => simp [hr, hR]
      | true =>
        have hneg : decide ((g a z.2).2.1 < 0) = false := decide_eq_false (by omega)
        simp only [Bool.and_self, cond_true, hneg, cond_false]
        rw [ih]
        cases hr : rdKids g (zs.map (·.2)) (g a z.2).2.1 with
        | none => rfl
        | some r => obtain ⟨ts, p⟩ := r; simp [hR]
theorem half_rng {s : Int} (h : 0 ≤ s ∧ s ≤ 2097152) : halfV s = s.tdiv 2 ∧ 0 ≤ s.tdiv 2 ∧ 2 * s.tdiv 2 ≤ s := by
  have e : s.tdiv 2 = s / 2 := Int.tdiv_eq_ediv_of_nonneg h.1
  unfold halfV
  rw [e]
  exact ⟨wrapi (by omega) (by omega), by omega, by omega⟩
theorem kids_len4 {f : Int → Int → Tr × Int × Bool} : ∀ (ks : List Int) (a : Int) (ts : List Tr) (p : Int), rdKids f ks a = some (ts, p) → ts.length = ks.length
  | [], a, ts, p, h => by simp only [rdKids, Option.some.injEq, Prod.mk.injEq] at h; rw [← h.1]; rfl
  | k :: ks, a, ts, p, h => by
    rw [rdKids] at h
    cases hc : (f a k).2.2 with
    | false => rw [hc] at h; cases h
    | true =>
      rw [hc, cond_true] at h
      cases hr : rdKids f ks (f a k).2.1 with
      | none => rw [hr] at h; cases h
      | some r =>
        obtain ⟨ts', p'⟩ := r
        rw [hr] at h
        simp only [Option.some.injEq, Prod.mk.injEq] at h
        rw [← h.1, List.length_cons, kids_len4 ks _ _ _ hr, List.length_cons]
theorem check_read : ∀ (D : Nat) (q : Qd) (a x y s deep : Int), 0 ≤ a → 0 ≤ deep → deep ≤ q.deep → q.deep < deep + D → 0 ≤ s ∧ s ≤ 2097152 → -1048576 ≤ x ∧ x + s ≤ 1048576 → -1048576 ≤ y ∧ y + s ≤ 1048576 →
    checkV D q a (squareV q x y s) deep = bif (readV D q.blocks a x y s (q.deep - deep)).2.2 && rightV q.items (readV D q.blocks a x y s (q.deep - deep)).1 then (readV D q.blocks a x y s (q.deep - deep)).2.1 else -1
  | 0, q, a, x, y, s, deep, ha, h0, h1, h2, hs, hx, hy => by omega
  | D + 1, q, a, x, y, s, deep, ha, h0, h1, h2, hs, hx, hy => by
    have ih := check_read D q
    rw [checkV, readV]
    cases hc : decide (a ≥ (q.blocks.length : Int)) with
    | true => rfl
    | false =>
      generalize q.blocks.getD a.toNat .zero = b
      simp only [cond_false, squareV]
      cases hX : (b.x != x) with
      | true => rfl
      | false => cases hY : (b.y != y) with
        | true => rfl
        | false => cases hZ : (b.size != s) with
          | true => rfl
          | false => cases hS : b.split with
            | false =>
              simp only [Bool.false_and, Bool.or_self, cond_false, Bool.not_false, cond_true, rightV, Bool.true_and, sameV]
            | true => cases hL : decide ((b.ids.length : Int) > 0) with
              | true => simp
              | false =>
                simp only [Bool.or_self, Bool.or_false, Bool.true_and, Bool.false_or, cond_false, Bool.not_true]
                cases hd : (deep == q.deep) with
                | true =>
                  have : decide (q.deep - deep < 1) = true := decide_eq_true (by have := eq_of_beq hd; omega)
                  rw [this]
                  rfl
                | false =>
                  have hd' : deep ≠ q.deep := by simpa using hd
                  have hdd : decide (q.deep - deep < 1) = false := decide_eq_false (by omega)
                  rw [hdd]
                  simp only [cond_false]
                  obtain ⟨e1, e2, e3⟩ := half_rng hs
                  have w0 : IntKind.i64.wrap ((0 : Int).tmod 2 * halfV s) = 0 := by rw [Int.zero_tmod, Int.zero_mul]; exact wrapi (by omega) (by omega)
                  have w1 : IntKind.i64.wrap ((1 : Int).tmod 2 * halfV s) = halfV s := by rw [show (1 : Int).tmod 2 = 1 by decide, Int.one_mul, e1]; exact wrapi (by omega) (by omega)
                  have w2 : IntKind.i64.wrap ((2 : Int).tmod 2 * halfV s) = 0 := by rw [show (2 : Int).tmod 2 = 0 by decide, Int.zero_mul]; exact wrapi (by omega) (by omega)
                  have w3 : IntKind.i64.wrap ((3 : Int).tmod 2 * halfV s) = halfV s := by rw [show (3 : Int).tmod 2 = 1 by decide, Int.one_mul, e1]; exact wrapi (by omega) (by omega)
                  have v0 : IntKind.i64.wrap (IntKind.i64.wrap ((0 : Int).tdiv 2) * halfV s) = 0 := by rw [show IntKind.i64.wrap ((0 : Int).tdiv 2) = 0 by decide, Int.zero_mul]; exact wrapi (by omega) (by omega)
                  have v1 : IntKind.i64.wrap (IntKind.i64.wrap ((1 : Int).tdiv 2) * halfV s) = 0 := by rw [show IntKind.i64.wrap ((1 : Int).tdiv 2) = 0 by decide, Int.zero_mul]; exact wrapi (by omega) (by omega)
                  have v2 : IntKind.i64.wrap (IntKind.i64.wrap ((2 : Int).tdiv 2) * halfV s) = halfV s := by rw [show IntKind.i64.wrap ((2 : Int).tdiv 2) = 1 by decide, Int.one_mul, e1]; exact wrapi (by omega) (by omega)
                  have v3 : IntKind.i64.wrap (IntKind.i64.wrap ((3 : Int).tdiv 2) * halfV s) = halfV s := by rw [show IntKind.i64.wrap ((3 : Int).tdiv 2) = 1 by decide, Int.one_mul, e1]; exact wrapi (by omega) (by omega)
                  have x0 : IntKind.i64.wrap (x + 0) = x := wrapi (by omega) (by omega) |>.trans (by omega)
                  have y0 : IntKind.i64.wrap (y + 0) = y := wrapi (by omega) (by omega) |>.trans (by omega)
                  have x1 : IntKind.i64.wrap (x + halfV s) = x + s.tdiv 2 := by rw [e1]; exact wrapi (by omega) (by omega)
                  have y1 : IntKind.i64.wrap (y + halfV s) = y + s.tdiv 2 := by rw [e1]; exact wrapi (by omega) (by omega)
                  have hk : kidsV q ⟨x, y, s, false, metFrom q.items x y s 0⟩ = [(squareV q x y (s.tdiv 2), (0 : Int)), (squareV q (x + s.tdiv 2) y (s.tdiv 2), 1), (squareV q x (y + s.tdiv 2) (s.tdiv 2), 2), (squareV q (x + s.tdiv 2) (y + s.tdiv 2) (s.tdiv 2), 3)].map (·.1) := by
                    rw [e1] at x1 y1
                    simp only [kidsV, e1, x1, y1, List.map_cons, List.map_nil]
                  have hf : q.deep - deep - 1 = q.deep - (deep + 1) := by omega
                  have hgd : (fun a k => readV D q.blocks a (IntKind.i64.wrap (x + IntKind.i64.wrap ((k.tmod 2) * halfV s))) (IntKind.i64.wrap (y + IntKind.i64.wrap (IntKind.i64.wrap (k.tdiv 2) * halfV s))) (halfV s) (q.deep - deep - 1)) = rdF D q.blocks x y s (q.deep - deep) := rfl
                  rw [hgd, hk]
                  have key := kids_same (fun a b => checkV D q a b (deep + 1)) (rdF D q.blocks x y s (q.deep - deep)) (rightV q.items) (fun a j ha hb => read_pos D _ _ _ _ _ _ ha hb)
                    [(squareV q x y (s.tdiv 2), (0 : Int)), (squareV q (x + s.tdiv 2) y (s.tdiv 2), 1), (squareV q x (y + s.tdiv 2) (s.tdiv 2), 2), (squareV q (x + s.tdiv 2) (y + s.tdiv 2) (s.tdiv 2), 3)] (fun z hz a ha => by
                      simp only [List.mem_cons, List.not_mem_nil, or_false] at hz
                      rcases hz with rfl | rfl | rfl | rfl
                      · have hr : rdF D q.blocks x y s (q.deep - deep) a 0 = readV D q.blocks a x y (s.tdiv 2) (q.deep - (deep + 1)) := by unfold rdF; rw [w0, v0, x0, y0, e1, hf]
                        simp only [hr]
                        exact ih a x y _ (deep + 1) ha (by omega) (by omega) (by omega) (by omega) (by omega) (by omega)
                      · have hr : rdF D q.blocks x y s (q.deep - deep) a 1 = readV D q.blocks a (x + s.tdiv 2) y (s.tdiv 2) (q.deep - (deep + 1)) := by unfold rdF; rw [w1, v1, x1, y0, e1, hf]
                        simp only [hr]
                        exact ih a _ y _ (deep + 1) ha (by omega) (by omega) (by omega) (by omega) (by omega) (by omega)
                      · have hr : rdF D q.blocks x y s (q.deep - deep) a 2 = readV D q.blocks a x (y + s.tdiv 2) (s.tdiv 2) (q.deep - (deep + 1)) := by unfold rdF; rw [w2, v2, x0, y1, e1, hf]
                        simp only [hr]
                        exact ih a x _ _ (deep + 1) ha (by omega) (by omega) (by omega) (by omega) (by omega) (by omega)
                      · have hr : rdF D q.blocks x y s (q.deep - deep) a 3 = readV D q.blocks a (x + s.tdiv 2) (y + s.tdiv 2) (s.tdiv 2) (q.deep - (deep + 1)) := by unfold rdF; rw [w3, v3, x1, y1, e1, hf]
                        simp only [hr]
                        exact ih a _ _ _ (deep + 1) ha (by omega) (by omega) (by omega) (by omega) (by omega) (by omega)) (a + 1) (by omega)
                  rw [key]
                  have hm : ([(squareV q x y (s.tdiv 2), (0 : Int)), (squareV q (x + s.tdiv 2) y (s.tdiv 2), 1), (squareV q x (y + s.tdiv 2) (s.tdiv 2), 2), (squareV q (x + s.tdiv 2) (y + s.tdiv 2) (s.tdiv 2), 3)].map (·.2)) = [0, 1, 2, 3] := rfl
                  rw [hm]
                  cases hr : rdKids (rdF D q.blocks x y s (q.deep - deep)) [0, 1, 2, 3] (a + 1) with
                  | none => rfl
                  | some r =>
                    obtain ⟨ts, p⟩ := r
                    have hlen := kids_len4 _ _ _ _ hr
                    match ts, hlen with
                    | [t0, t1, t2, t3], _ =>
                      simp only [List.all_cons, List.all_nil, Bool.and_true, rightV, Bool.true_and]
                      cases rightV q.items t0 <;> cases rightV q.items t1 <;> cases rightV q.items t2 <;> cases rightV q.items t3 <;> rfl
theorem okI_tree (q : Qd) : okI q = (treeV q).2 := by
  unfold okI treeV
  cases h1 : limitsV q.most q.deep with
  | false => rfl
  | true =>
    have hd : 0 ≤ q.deep ∧ q.deep ≤ 8 := by
      simp only [limitsV, inV, Bool.and_eq_true, decide_eq_true_eq] at h1
      exact h1.2
    have := check_read 9 q 0 (-1048576) (-1048576) 2097152 0 (by omega) (by omega) (by omega) (by omega) (by omega) (by omega) (by omega)
    have hr : rootV q = squareV q (-1048576) (-1048576) 2097152 := rfl
    rw [hr, this, Int.sub_zero]
    generalize (!decide ((q.items.length : Int) > 40)) = c1
    generalize (!decide ((q.blocks.length : Int) > 2000)) = c2
    generalize itsOk q.items none = c3
    have hpos : (readV 9 q.blocks 0 (-1048576) (-1048576) 2097152 q.deep).2.2 = true → 0 ≤ (readV 9 q.blocks 0 (-1048576) (-1048576) 2097152 q.deep).2.1 := read_pos 9 _ _ _ _ _ _ (by omega)
    generalize readV 9 q.blocks 0 (-1048576) (-1048576) 2097152 q.deep = r at hpos ⊢
    have hneg : ((-1 : Int) == (q.blocks.length : Int)) = false := by
      rw [beq_eq_false_iff_ne]; omega
    cases c1 <;> cases c2 <;> cases c3 <;> simp only [Bool.and_false, Bool.false_and, Bool.and_true, Bool.true_and, cond_false]
    cases hb : r.2.2 with
    | false => simp [hneg]
    | true =>
      cases hR : rightV q.items r.1 with
      | false => simp [hneg]
      | true =>
        simp only [Bool.and_true, Bool.true_and, cond_true]
        cases (r.2.1 == (q.blocks.length : Int)) <;> rfl
theorem prev_at (l : List It) {i : Nat} (h : 0 < i) : prevOf l i = some (l.getD (i - 1) .zero).id := by
  match i, h with
  | i + 1, _ => rfl
def treeEnd (q : Qd) : Tr × Bool := bif (readV 9 q.blocks 0 (-1048576) (-1048576) 2097152 q.deep).2.2 && (readV 9 q.blocks 0 (-1048576) (-1048576) 2097152 q.deep).2.1 == (q.blocks.length : Int) && rightV q.items (readV 9 q.blocks 0 (-1048576) (-1048576) 2097152 q.deep).1 then ((readV 9 q.blocks 0 (-1048576) (-1048576) 2097152 q.deep).1, true) else (.zero, false)
def nilTr : F := F.agg [F.int .i64 0, F.int .i64 0, F.int .i64 0, F.tup [], F.tup []]
theorem nilTr_le : FLe (unt2 nilTr) (trF .zero) := FLe.agg ⟨.refl _, .refl _, .refl _, FLe.cl fun j hj => absurd hj (Nat.not_lt_zero _), FLe.unCl fun j hj => absurd hj (Nat.not_lt_zero _), trivial⟩
theorem root_loop (q : Qd) (hs : allShortV q.blocks = true) (hn : q.items.length ≤ 40) (hd : 0 ≤ q.deep ∧ q.deep ≤ 8) : ∀ (m i : Nat), i + m = q.items.length →
    ∃ rt, L12_4 (m + 1) q i = some (.tup [rt, .bool (bif itsOk (q.items.drop i) (prevOf q.items i) then treeEnd q else (.zero, false)).2]) ∧ FLe (unt2 rt) (trF (bif itsOk (q.items.drop i) (prevOf q.items i) then treeEnd q else (.zero, false)).1)
  | 0, i, h => by
    have c1 : decide ((i : Int) < (q.items.length : Int)) = false := decide_eq_false (by omega)
    have c2 : readOk 9 q.blocks 0 q.deep = true := by
      simp only [readOk, hs, Bool.true_and, Bool.and_eq_true, decide_eq_true_eq]
      omega
    rw [List.drop_eq_nil_of_le (by omega)]
    simp only [L12_4, T12_4, c1, bsel_false, isBlocks_blocksF, unBlocks_blocksF, c2, Bool.and_true, bsel_true, isTr_trF, unTr_trF, isItems_itemsF, unItems_itemsF, itsOk, cond_true, treeEnd]
    have hdep := read_depth 9 q.blocks 0 (-1048576) (-1048576) 2097152 q.deep hd.1
    generalize readV 9 q.blocks 0 (-1048576) (-1048576) 2097152 q.deep = r at hdep ⊢
    cases hb : r.2.2 with
    | false => exact ⟨nilTr, rfl, nilTr_le⟩
    | true =>
      rw [bne]
      cases hc : (r.2.1 == (q.blocks.length : Int)) with
      | false => exact ⟨nilTr, rfl, nilTr_le⟩
      | true =>
        have hr : rightOk 9 r.1 q.items = true := by
          simp only [rightOk, Bool.and_eq_true, decide_eq_true_eq]
          have := hdep hb
          omega
        simp only [hr, Bool.and_true, Bool.true_and]
        cases hR : rightV q.items r.1 with
        | false => exact ⟨nilTr, rfl, nilTr_le⟩
        | true => exact ⟨trF r.1, rfl, .refl _⟩
  | m + 1, i, h => by
    have hi : i < q.items.length := by omega
    have c1 : decide ((i : Int) < (q.items.length : Int)) = true := decide_eq_true (by omega)
    have c2 : decide (0 ≤ (i : Int)) = true := decide_eq_true (by omega)
    have hw : IntKind.i64.wrap ((i : Int) + 1) = ((i + 1 : Nat) : Int) := by rw [wrapi (by omega) (by omega)]; omega
    have h1 : q.items.getD i .zero = q.items[i] := by simp [List.getD, List.getElem?_eq_getElem hi]
    have hp1 : prevOf q.items (i + 1) = some q.items[i].id := by rw [← h1]; rfl
    obtain ⟨rt, e1, e2⟩ := root_loop q hs hn hd m (i + 1) (by omega)
    rw [hp1] at e1 e2
    rw [List.drop_eq_getElem_cons hi, itsOk, L12_4]
    simp only [T12_4, c1, c2, hw, bsel_true, Int.toNat_natCast, h1]
    cases inV q.items[i].id 1 1000 with
    | false => exact ⟨nilTr, rfl, nilTr_le⟩
    | true => cases segOkV q.items[i].x0 q.items[i].y0 q.items[i].x1 q.items[i].y1 with
      | false => exact ⟨nilTr, rfl, nilTr_le⟩
      | true =>
        simp only [Bool.not_true, beq_self_eq_true, bsel_true, Bool.and_self, Bool.true_and]
        by_cases h0 : i = 0
        · subst h0
          exact ⟨rt, e1, e2⟩
        · have c3 : decide ((i : Int) > 0) = true := decide_eq_true (by omega)
          have hw2 : IntKind.i64.wrap ((i : Int) - 1) = ((i - 1 : Nat) : Int) := by rw [wrapi (by omega) (by omega)]; omega
          have c4 : decide (0 ≤ ((i - 1 : Nat) : Int)) = true := decide_eq_true (by omega)
          have c5 : decide (((i - 1 : Nat) : Int) < (q.items.length : Int)) = true := decide_eq_true (by omega)
          rw [prev_at _ (by omega)]
          simp only [risesV, c3, hw2, c4, c5, bsel_true, beq_self_eq_true, Int.toNat_natCast]
          have hge : decide ((q.items.getD (i - 1) It.zero).id ≥ q.items[i].id) = decide (q.items[i].id ≤ (q.items.getD (i - 1) It.zero).id) := rfl
          rw [hge]
          cases decide (q.items[i].id ≤ (q.items.getD (i - 1) It.zero).id) with
          | true => exact ⟨nilTr, rfl, nilTr_le⟩
          | false => exact ⟨rt, e1, e2⟩
def okQd (q : Qd) : Bool := allShortV q.blocks
def preTree : List F → Bool | [q] => isQd q && okQd (unQd q) | _ => false
def resTree : List F → F | [q] => .tup [trF (treeV (unQd q)).1, .bool (treeV (unQd q)).2] | _ => .dflt
theorem root_spec (q : Qd) (hs : allShortV q.blocks = true) : ∃ rt, G12 (q.items.length + 1) q = some (.tup [rt, .bool (treeV q).2]) ∧ FLe (unt2 rt) (trF (treeV q).1) := by
  unfold G12 T12 treeV
  cases h1 : limitsV q.most q.deep with
  | false => exact ⟨nilTr, rfl, nilTr_le⟩
  | true => cases h2 : decide ((q.items.length : Int) > 40) with
    | true => exact ⟨nilTr, rfl, nilTr_le⟩
    | false => cases h3 : decide ((q.blocks.length : Int) > 2000) with
      | true => exact ⟨nilTr, rfl, nilTr_le⟩
      | false =>
        have hd : 0 ≤ q.deep ∧ q.deep ≤ 8 := by
          simp only [limitsV, inV, Bool.and_eq_true, decide_eq_true_eq] at h1
          exact h1.2
        have h2' := of_decide_eq_false h2
        obtain ⟨rt, e1, e2⟩ := root_loop q hs (by omega) hd q.items.length 0 (by omega)
        rw [List.drop_zero] at e1 e2
        have e : (bif itsOk q.items (prevOf q.items 0) then treeEnd q else (Tr.zero, false)) = (bif limitsV q.most q.deep && !decide ((q.items.length : Int) > 40) && !decide ((q.blocks.length : Int) > 2000) && itsOk q.items none && (readV 9 q.blocks 0 (-1048576) (-1048576) 2097152 q.deep).2.2 &&
            (readV 9 q.blocks 0 (-1048576) (-1048576) 2097152 q.deep).2.1 == (q.blocks.length : Int) && rightV q.items (readV 9 q.blocks 0 (-1048576) (-1048576) 2097152 q.deep).1 then ((readV 9 q.blocks 0 (-1048576) (-1048576) 2097152 q.deep).1, true) else (.zero, false)) := by
          rw [h1, h2, h3]
          have hp : prevOf q.items 0 = none := rfl
          rw [hp]
          unfold treeEnd
          cases itsOk q.items none with
          | false => rfl
          | true => simp only [cond_true, Bool.true_and, Bool.not_false]
        rw [h1, h2, h3] at e
        rw [e] at e1 e2
        exact ⟨rt, e1, e2⟩
theorem okTree : PureOK Try.prog 12 preTree resTree :=
  fn_told (c := bodyOf Try.f12) Try.func12 (by kernel_rfl) (by kernel_rfl) fun xs hp => match xs, hp with
  | [q], hp => by
    simp only [preTree, Bool.and_eq_true] at hp
    obtain ⟨rt, e1, e2⟩ := root_spec (unQd q) hp.2
    exact ⟨[qdF (unQd q)], _, ⟨(qd_eqv hp.1).1, trivial⟩, t12 _ _ _ e1, FLe.tup ⟨e2, .refl _, trivial⟩⟩
theorem okI_loop (q : Qd) (hs : allShortV q.blocks = true) (hn : q.items.length ≤ 40) (hd : 0 ≤ q.deep ∧ q.deep ≤ 8) : ∀ (m i : Nat), i + m = q.items.length →
    L8_4 (m + 1) q i = some (itsOk (q.items.drop i) (prevOf q.items i) && checkV 9 q 0 (rootV q) 0 == (q.blocks.length : Int))
  | 0, i, h => by
    have c1 : decide ((i : Int) < (q.items.length : Int)) = false := decide_eq_false (by omega)
    have c2 : checkOk 9 q 0 0 = true := by
      simp only [checkOk, hs, Bool.true_and, Bool.and_eq_true, decide_eq_true_eq]
      omega
    have c3 : fewV q = true := decide_eq_true hn
    have hr : resRoot [qdF q] = bkF (rootV (unQd (qdF q))) := rfl
    rw [List.drop_eq_nil_of_le (by omega)]
    simp only [L8_4, T8_4, c1, bsel_false, isQd_qdF, c3, hr, unQd_qdF, isBk_bkF, unBk_bkF, c2, Bool.and_true, bsel_true, itsOk, Bool.true_and]
  | m + 1, i, h => by
    have hi : i < q.items.length := by omega
    have c1 : decide ((i : Int) < (q.items.length : Int)) = true := decide_eq_true (by omega)
    have c2 : decide (0 ≤ (i : Int)) = true := decide_eq_true (by omega)
    have hw : IntKind.i64.wrap ((i : Int) + 1) = ((i + 1 : Nat) : Int) := by rw [wrapi (by omega) (by omega)]; omega
    have h1 : q.items.getD i .zero = q.items[i] := by simp [List.getD, List.getElem?_eq_getElem hi]
    have hp1 : prevOf q.items (i + 1) = some q.items[i].id := by rw [← h1]; rfl
    have ih := okI_loop q hs hn hd m (i + 1) (by omega)
    rw [hp1] at ih
    rw [List.drop_eq_getElem_cons hi, itsOk, L8_4]
    simp only [T8_4, c1, c2, hw, bsel_true, Int.toNat_natCast, h1]
    cases inV q.items[i].id 1 1000 with
    | false => rfl
    | true => cases segOkV q.items[i].x0 q.items[i].y0 q.items[i].x1 q.items[i].y1 with
      | false => rfl
      | true =>
        simp only [Bool.not_true, beq_self_eq_true, bsel_true, Bool.and_self, Bool.true_and]
        by_cases h0 : i = 0
        · subst h0
          exact ih
        · have c3 : decide ((i : Int) > 0) = true := decide_eq_true (by omega)
          have hw2 : IntKind.i64.wrap ((i : Int) - 1) = ((i - 1 : Nat) : Int) := by rw [wrapi (by omega) (by omega)]; omega
          have c4 : decide (0 ≤ ((i - 1 : Nat) : Int)) = true := decide_eq_true (by omega)
          have c5 : decide (((i - 1 : Nat) : Int) < (q.items.length : Int)) = true := decide_eq_true (by omega)
          rw [prev_at _ (by omega)]
          simp only [risesV, c3, hw2, c4, c5, bsel_true, beq_self_eq_true, Int.toNat_natCast]
          cases decide (q.items[i].id ≤ (q.items.getD (i - 1) It.zero).id) with
          | true => rfl
          | false => exact ih
theorem okI_impl (q : Qd) (hs : allShortV q.blocks = true) : G8 (q.items.length + 1) q = some (okI q) := by
  unfold G8 T8 okI limitsV
  cases h1 : inV q.most 1 8 with
  | false => rfl
  | true => cases h4 : inV q.deep 0 8 with
    | false => rfl
    | true => cases h2 : decide ((q.items.length : Int) > 40) with
      | true => rfl
      | false => cases h3 : decide ((q.blocks.length : Int) > 2000) with
        | true => rfl
        | false =>
          have hd : 0 ≤ q.deep ∧ q.deep ≤ 8 := by
            simp only [inV, Bool.and_eq_true, decide_eq_true_eq] at h4
            exact h4
          have h2' := of_decide_eq_false h2
          have := okI_loop q hs (by omega) hd q.items.length 0 (by omega)
          simp only [Bool.not_true, Bool.not_false, Bool.true_and, beq_self_eq_true, bsel_true, bsel_false]
          exact this
def resOk : List F → F | [q] => .bool (treeV (unQd q)).2 | _ => .dflt
theorem okQuadOkI : PureOK Try.prog 8 preTree resOk :=
  fn_pure_at (c := bodyOf Try.f8) Try.func8 (by kernel_rfl) (by kernel_rfl) fun xs hp => match xs, hp with
  | [q], hp => by
    simp only [preTree, Bool.and_eq_true] at hp
    have h := okI_impl (unQd q) hp.2
    rw [okI_tree] at h
    exact ⟨[qdF (unQd q)], _, ⟨(qd_eqv hp.1).1, trivial⟩, t8 _ _ _ h, .refl _⟩
def envQ5 : Env := (envQ4.add 12 (.pure preTree resTree)).add 8 (.pure preTree resOk)
theorem envQ5_ok : EnvOK Try.prog envQ5 := (Env.add_ok (Env.add_ok envQ4_ok okTree.sp) okQuadOkI.sp)
end
end Go.Proofs.Ytbnainbjcaekjaa.R
namespace Go.Proofs.Ytbnainbjcaekjaa.R
open Go
noncomputable section
/-! ### function 9 -/
def T9 {ρ : Type} (ret : (Bool) → Option ρ) (q : Qd) : Option ρ :=
 (bsel (isQd (qdF q) && allShortV (unQd (qdF q)).blocks)
 (ret ((treeV (unQd (qdF q))).snd))
 none)
def G9 (q : Qd) : Option (Bool) := T9 some q
theorem t9 (q : Qd) (r : Bool) (h : G9 q = some r) : Ends Try.prog Try.f9.results.toList [.code (bodyOf Try.f9)] (start Try.f9.ntmps ([qdF q].map .f)) (F.bool r) := by
  refine Ends.of_run tyOK envQ5_ok (T := []) (n := 200) ?_
  have e : run Try.prog (tiOf Try.prog) envQ5 [] 0 Try.f9.results.toList some 200 [.code (bodyOf Try.f9)] (start Try.f9.ntmps ([qdF q].map .f)) = T9 (fun r => some (.ret (F.bool r))) q := by kernel_rfl
  rw [e]
  exact (good_sel h (fun _ h => good_ret (by cases h; rfl)) (fun _ h => nomatch h))
theorem okQuadOkS : PureOK Try.prog 9 preTree resOk :=
  fn_pure_at (c := bodyOf Try.f9) Try.func9 (by kernel_rfl) (by kernel_rfl) fun xs hp => match xs, hp with
  | [q], hp => by
    simp only [preTree, Bool.and_eq_true] at hp
    have h : allShortV (unQd q).blocks = true := hp.2
    exact ⟨[qdF (unQd q)], _, ⟨(qd_eqv hp.1).1, trivial⟩, t9 _ (treeV (unQd q)).2 (by
      unfold G9 T9
      simp only [isQd_qdF, unQd_qdF, h, Bool.and_true, bsel_true]), .refl _⟩
/-! What the law's own count of sizes tells. -/
def envQ6 : Env := envQ5.add 9 (.pure preTree resOk)
theorem envQ6_ok : EnvOK Try.prog envQ6 := (Env.add_ok envQ5_ok okQuadOkS.sp)
end
end Go.Proofs.Ytbnainbjcaekjaa.R
namespace Go.Proofs.Ytbnainbjcaekjaa.R
open Go
noncomputable section
def lvs : Tr → Nat
  | .leaf _ _ _ _ => 1
  | .node _ _ _ a b c d => lvs a + lvs b + lvs c + lvs d
def cntOk (D : Nat) (t : Tr) : Bool := decide (trDepth t < D) && decide (D ≤ 9)
def preCn (D : Nat) : List F → Bool | [t] => isTr t && cntOk D (unTr t) | _ => false
def lvsV (t : Tr) : Int := lvs t
def dptV (t : Tr) : Int := trDepth t
def resCn : List F → F | [t] => .tup [.int .i64 (lvsV (unTr t)), .int .i64 (dptV (unTr t))] | _ => .dflt
def envCn (D : Nat) : Env := envQ6.add 13 (.pure (preCn D) resCn)
end
end Go.Proofs.Ytbnainbjcaekjaa.R
namespace Go.Proofs.Ytbnainbjcaekjaa.R
open Go
noncomputable section
/-! ### function 13 -/
def S13n_6n0 (x : Int) (y : Int) (s : Int) (a : Tr) (b : Tr) (c : Tr) (d : Tr) (n : Int) (deep : Int) : St := ⟨[.bad, (U.hp 0 0), .bad, .bad, (U.f (F.int .i64 n)), (U.f (F.int .i64 deep)), (U.f (F.int .i64 0)), .bad, .bad, .bad, .bad, .bad, .bad, .bad, .bad, .bad, .bad, .bad, .bad, .bad, .bad, .bad, .bad, .bad, .bad, .bad, .bad, .bad, .bad, .bad, .bad, .bad, .bad, .bad, .bad], [HO.box [(U.f (F.int .i64 x)), (U.f (F.int .i64 y)), (U.f (F.int .i64 s)), (U.f (F.cl 4 (kidG (Tr.node x y s a b c d)))), (U.f (intsF []))]]⟩
def S13n_6n1 (x : Int) (y : Int) (s : Int) (a : Tr) (b : Tr) (c : Tr) (d : Tr) (n : Int) (deep : Int) : St := ⟨[.bad, (U.hp 0 0), .bad, .bad, (U.f (F.int .i64 n)), (U.f (F.int .i64 deep)), (U.f (F.int .i64 1)), .bad, .bad, .bad, .bad, .bad, .bad, .bad, .bad, .bad, .bad, .bad, .bad, .bad, .bad, .bad, .bad, .bad, .bad, .bad, .bad, .bad, .bad, .bad, .bad, .bad, .bad, .bad, .bad], [HO.box [(U.f (F.int .i64 x)), (U.f (F.int .i64 y)), (U.f (F.int .i64 s)), (U.f (F.cl 4 (kidG (Tr.node x y s a b c d)))), (U.f (intsF []))]]⟩
def S13n_6n2 (x : Int) (y : Int) (s : Int) (a : Tr) (b : Tr) (c : Tr) (d : Tr) (n : Int) (deep : Int) : St := ⟨[.bad, (U.hp 0 0), .bad, .bad, (U.f (F.int .i64 n)), (U.f (F.int .i64 deep)), (U.f (F.int .i64 2)), .bad, .bad, .bad, .bad, .bad, .bad, .bad, .bad, .bad, .bad, .bad, .bad, .bad, .bad, .bad, .bad, .bad, .bad, .bad, .bad, .bad, .bad, .bad, .bad, .bad, .bad, .bad, .bad], [HO.box [(U.f (F.int .i64 x)), (U.f (F.int .i64 y)), (U.f (F.int .i64 s)), (U.f (F.cl 4 (kidG (Tr.node x y s a b c d)))), (U.f (intsF []))]]⟩
def S13n_6n3 (x : Int) (y : Int) (s : Int) (a : Tr) (b : Tr) (c : Tr) (d : Tr) (n : Int) (deep : Int) : St := ⟨[.bad, (U.hp 0 0), .bad, .bad, (U.f (F.int .i64 n)), (U.f (F.int .i64 deep)), (U.f (F.int .i64 3)), .bad, .bad, .bad, .bad, .bad, .bad, .bad, .bad, .bad, .bad, .bad, .bad, .bad, .bad, .bad, .bad, .bad, .bad, .bad, .bad, .bad, .bad, .bad, .bad, .bad, .bad, .bad, .bad], [HO.box [(U.f (F.int .i64 x)), (U.f (F.int .i64 y)), (U.f (F.int .i64 s)), (U.f (F.cl 4 (kidG (Tr.node x y s a b c d)))), (U.f (intsF []))]]⟩
def S13n_6n4 (x : Int) (y : Int) (s : Int) (a : Tr) (b : Tr) (c : Tr) (d : Tr) (n : Int) (deep : Int) : St := ⟨[.bad, (U.hp 0 0), .bad, .bad, (U.f (F.int .i64 n)), (U.f (F.int .i64 deep)), (U.f (F.int .i64 4)), .bad, .bad, .bad, .bad, .bad, .bad, .bad, .bad, .bad, .bad, .bad, .bad, .bad, .bad, .bad, .bad, .bad, .bad, .bad, .bad, .bad, .bad, .bad, .bad, .bad, .bad, .bad, .bad], [HO.box [(U.f (F.int .i64 x)), (U.f (F.int .i64 y)), (U.f (F.int .i64 s)), (U.f (F.cl 4 (kidG (Tr.node x y s a b c d)))), (U.f (intsF []))]]⟩
abbrev KJ52 (ρ : Type) := (Int) → (Int) → (Int) → (Tr) → (Tr) → (Tr) → (Tr) → (Int) → (Int) → Option ρ
abbrev KJ53 (ρ : Type) := (Int) → (Int) → Option ρ
def T13n_6n0 {ρ : Type} (D : Nat) (ret : KJ53 ρ) (c6n0 : KJ52 ρ) (c6n1 : KJ52 ρ) (c6n2 : KJ52 ρ) (c6n3 : KJ52 ρ) (c6n4 : KJ52 ρ) (x : Int) (y : Int) (s : Int) (a : Tr) (b : Tr) (c : Tr) (d : Tr) (n : Int) (deep : Int) : Option ρ :=
 (bsel (isTr (trF a) && cntOk D (unTr (trF a)))
 (c6n1 (x) (y) (s) (a) (b) (c) (d) (IntKind.i64.wrap (n + lvsV (unTr (trF a)))) (if true = true then if IntKind.i64.wrap (dptV (unTr (trF a)) + 1) > deep then IntKind.i64.wrap (dptV (unTr (trF a)) + 1) else deep else if IntKind.i64.wrap (dptV (unTr (trF a)) + 1) < deep then IntKind.i64.wrap (dptV (unTr (trF a)) + 1) else deep))
 none)
def T13n_6n1 {ρ : Type} (D : Nat) (ret : KJ53 ρ) (c6n0 : KJ52 ρ) (c6n1 : KJ52 ρ) (c6n2 : KJ52 ρ) (c6n3 : KJ52 ρ) (c6n4 : KJ52 ρ) (x : Int) (y : Int) (s : Int) (a : Tr) (b : Tr) (c : Tr) (d : Tr) (n : Int) (deep : Int) : Option ρ :=
 (bsel (isTr (trF b) && cntOk D (unTr (trF b)))
 (c6n2 (x) (y) (s) (a) (b) (c) (d) (IntKind.i64.wrap (n + lvsV (unTr (trF b)))) (if true = true then if IntKind.i64.wrap (dptV (unTr (trF b)) + 1) > deep then IntKind.i64.wrap (dptV (unTr (trF b)) + 1) else deep else if IntKind.i64.wrap (dptV (unTr (trF b)) + 1) < deep then IntKind.i64.wrap (dptV (unTr (trF b)) + 1) else deep))
 none)
def T13n_6n2 {ρ : Type} (D : Nat) (ret : KJ53 ρ) (c6n0 : KJ52 ρ) (c6n1 : KJ52 ρ) (c6n2 : KJ52 ρ) (c6n3 : KJ52 ρ) (c6n4 : KJ52 ρ) (x : Int) (y : Int) (s : Int) (a : Tr) (b : Tr) (c : Tr) (d : Tr) (n : Int) (deep : Int) : Option ρ :=
 (bsel (isTr (trF c) && cntOk D (unTr (trF c)))
 (c6n3 (x) (y) (s) (a) (b) (c) (d) (IntKind.i64.wrap (n + lvsV (unTr (trF c)))) (if true = true then if IntKind.i64.wrap (dptV (unTr (trF c)) + 1) > deep then IntKind.i64.wrap (dptV (unTr (trF c)) + 1) else deep else if IntKind.i64.wrap (dptV (unTr (trF c)) + 1) < deep then IntKind.i64.wrap (dptV (unTr (trF c)) + 1) else deep))
 none)
def T13n_6n3 {ρ : Type} (D : Nat) (ret : KJ53 ρ) (c6n0 : KJ52 ρ) (c6n1 : KJ52 ρ) (c6n2 : KJ52 ρ) (c6n3 : KJ52 ρ) (c6n4 : KJ52 ρ) (x : Int) (y : Int) (s : Int) (a : Tr) (b : Tr) (c : Tr) (d : Tr) (n : Int) (deep : Int) : Option ρ :=
 (bsel (isTr (trF d) && cntOk D (unTr (trF d)))
 (c6n4 (x) (y) (s) (a) (b) (c) (d) (IntKind.i64.wrap (n + lvsV (unTr (trF d)))) (if true = true then if IntKind.i64.wrap (dptV (unTr (trF d)) + 1) > deep then IntKind.i64.wrap (dptV (unTr (trF d)) + 1) else deep else if IntKind.i64.wrap (dptV (unTr (trF d)) + 1) < deep then IntKind.i64.wrap (dptV (unTr (trF d)) + 1) else deep))
 none)
def T13n_6n4 {ρ : Type} (D : Nat) (ret : KJ53 ρ) (c6n0 : KJ52 ρ) (c6n1 : KJ52 ρ) (c6n2 : KJ52 ρ) (c6n3 : KJ52 ρ) (c6n4 : KJ52 ρ) (x : Int) (y : Int) (s : Int) (a : Tr) (b : Tr) (c : Tr) (d : Tr) (n : Int) (deep : Int) : Option ρ :=
 (ret (n) (deep))
mutual
def L13n_6n0 (D : Nat) : Nat → (Int) → (Int) → (Int) → (Tr) → (Tr) → (Tr) → (Tr) → (Int) → (Int) → Option ((Int) × (Int))
  | 0, _, _, _, _, _, _, _, _, _ => none
  | k + 1, x, y, s, a, b, c, d, n, deep => T13n_6n0 D (fun r r2 => some (r, r2)) (L13n_6n0 D k) (L13n_6n1 D k) (L13n_6n2 D k) (L13n_6n3 D k) (L13n_6n4 D k) x y s a b c d n deep
def L13n_6n1 (D : Nat) : Nat → (Int) → (Int) → (Int) → (Tr) → (Tr) → (Tr) → (Tr) → (Int) → (Int) → Option ((Int) × (Int))
  | 0, _, _, _, _, _, _, _, _, _ => none
  | k + 1, x, y, s, a, b, c, d, n, deep => T13n_6n1 D (fun r r2 => some (r, r2)) (L13n_6n0 D k) (L13n_6n1 D k) (L13n_6n2 D k) (L13n_6n3 D k) (L13n_6n4 D k) x y s a b c d n deep
def L13n_6n2 (D : Nat) : Nat → (Int) → (Int) → (Int) → (Tr) → (Tr) → (Tr) → (Tr) → (Int) → (Int) → Option ((Int) × (Int))
  | 0, _, _, _, _, _, _, _, _, _ => none
  | k + 1, x, y, s, a, b, c, d, n, deep => T13n_6n2 D (fun r r2 => some (r, r2)) (L13n_6n0 D k) (L13n_6n1 D k) (L13n_6n2 D k) (L13n_6n3 D k) (L13n_6n4 D k) x y s a b c d n deep
def L13n_6n3 (D : Nat) : Nat → (Int) → (Int) → (Int) → (Tr) → (Tr) → (Tr) → (Tr) → (Int) → (Int) → Option ((Int) × (Int))
  | 0, _, _, _, _, _, _, _, _, _ => none
  | k + 1, x, y, s, a, b, c, d, n, deep => T13n_6n3 D (fun r r2 => some (r, r2)) (L13n_6n0 D k) (L13n_6n1 D k) (L13n_6n2 D k) (L13n_6n3 D k) (L13n_6n4 D k) x y s a b c d n deep
def L13n_6n4 (D : Nat) : Nat → (Int) → (Int) → (Int) → (Tr) → (Tr) → (Tr) → (Tr) → (Int) → (Int) → Option ((Int) × (Int))
  | 0, _, _, _, _, _, _, _, _, _ => none
  | k + 1, x, y, s, a, b, c, d, n, deep => T13n_6n4 D (fun r r2 => some (r, r2)) (L13n_6n0 D k) (L13n_6n1 D k) (L13n_6n2 D k) (L13n_6n3 D k) (L13n_6n4 D k) x y s a b c d n deep
end
def T13n {ρ : Type} (D : Nat) (ret : KJ53 ρ) (c6n0 : KJ52 ρ) (c6n1 : KJ52 ρ) (c6n2 : KJ52 ρ) (c6n3 : KJ52 ρ) (c6n4 : KJ52 ρ) (x : Int) (y : Int) (s : Int) (a : Tr) (b : Tr) (c : Tr) (d : Tr) : Option ρ :=
 (c6n0 ((Tr.node x y s a b c d).x) ((Tr.node x y s a b c d).y) ((Tr.node x y s a b c d).size) (a) (b) (c) (d) (0) (0))
def G13n (D : Nat) (k : Nat) (x : Int) (y : Int) (s : Int) (a : Tr) (b : Tr) (c : Tr) (d : Tr) : Option ((Int) × (Int)) := T13n D (fun r r2 => some (r, r2)) (L13n_6n0 D k) (L13n_6n1 D k) (L13n_6n2 D k) (L13n_6n3 D k) (L13n_6n4 D k) x y s a b c d
mutual
theorem t13n_6n0 (D : Nat) (hE : EnvOK Try.prog (envCn D)) : ∀ (k : Nat) (x : Int) (y : Int) (s : Int) (a : Tr) (b : Tr) (c : Tr) (d : Tr) (n : Int) (deep : Int) (r : Int) (r2 : Int), L13n_6n0 D k x y s a b c d n deep = some (r, r2) → Ends Try.prog Try.f13.results.toList (at_ Try.f13 6) (S13n_6n0 x y s a b c d n deep) (F.tup [F.int .i64 r, F.int .i64 r2])
  | 0, _, _, _, _, _, _, _, _, _, _, _, h => nomatch h
  | k + 1, x, y, s, a, b, c, d, n, deep, r, r2, h => by
    refine Ends.of_cut tyOK hE (T := [(6, [1, 4, 5, 6], 1000)]) (n := 200) ?_
    have e : runCut Try.prog (tiOf Try.prog) (envCn D) [(6, [1, 4, 5, 6], 1000)] 0 Try.f13.results.toList some 200 (at_ Try.f13 6) (S13n_6n0 x y s a b c d n deep) = T13n_6n0 D (fun r r2 => some (.ret (F.tup [F.int .i64 r, F.int .i64 r2]))) (fun x y s a b c d n deep => some (.cut (at_ Try.f13 6) (S13n_6n0 x y s a b c d n deep))) (fun x y s a b c d n deep => some (.cut (at_ Try.f13 6) (S13n_6n1 x y s a b c d n deep))) (fun x y s a b c d n deep => some (.cut (at_ Try.f13 6) (S13n_6n2 x y s a b c d n deep))) (fun x y s a b c d n deep => some (.cut (at_ Try.f13 6) (S13n_6n3 x y s a b c d n deep))) (fun x y s a b c d n deep => some (.cut (at_ Try.f13 6) (S13n_6n4 x y s a b c d n deep))) x y s a b c d n deep := by kernel_rfl
    rw [e]
    exact (good_sel h (fun _ h => good_cut (t13n_6n1 D hE k _ _ _ _ _ _ _ _ _ r r2 h)) (fun _ h => nomatch h))
theorem t13n_6n1 (D : Nat) (hE : EnvOK Try.prog (envCn D)) : ∀ (k : Nat) (x : Int) (y : Int) (s : Int) (a : Tr) (b : Tr) (c : Tr) (d : Tr) (n : Int) (deep : Int) (r : Int) (r2 : Int), L13n_6n1 D k x y s a b c d n deep = some (r, r2) → Ends Try.prog Try.f13.results.toList (at_ Try.f13 6) (S13n_6n1 x y s a b c d n deep) (F.tup [F.int .i64 r, F.int .i64 r2])
  | 0, _, _, _, _, _, _, _, _, _, _, _, h => nomatch h
  | k + 1, x, y, s, a, b, c, d, n, deep, r, r2, h => by
    refine Ends.of_cut tyOK hE (T := [(6, [1, 4, 5, 6], 1000)]) (n := 200) ?_
    have e : runCut Try.prog (tiOf Try.prog) (envCn D) [(6, [1, 4, 5, 6], 1000)] 0 Try.f13.results.toList some 200 (at_ Try.f13 6) (S13n_6n1 x y s a b c d n deep) = T13n_6n1 D (fun r r2 => some (.ret (F.tup [F.int .i64 r, F.int .i64 r2]))) (fun x y s a b c d n deep => some (.cut (at_ Try.f13 6) (S13n_6n0 x y s a b c d n deep))) (fun x y s a b c d n deep => some (.cut (at_ Try.f13 6) (S13n_6n1 x y s a b c d n deep))) (fun x y s a b c d n deep => some (.cut (at_ Try.f13 6) (S13n_6n2 x y s a b c d n deep))) (fun x y s a b c d n deep => some (.cut (at_ Try.f13 6) (S13n_6n3 x y s a b c d n deep))) (fun x y s a b c d n deep => some (.cut (at_ Try.f13 6) (S13n_6n4 x y s a b c d n deep))) x y s a b c d n deep := by kernel_rfl
    rw [e]
    exact (good_sel h (fun _ h => good_cut (t13n_6n2 D hE k _ _ _ _ _ _ _ _ _ r r2 h)) (fun _ h => nomatch h))
theorem t13n_6n2 (D : Nat) (hE : EnvOK Try.prog (envCn D)) : ∀ (k : Nat) (x : Int) (y : Int) (s : Int) (a : Tr) (b : Tr) (c : Tr) (d : Tr) (n : Int) (deep : Int) (r : Int) (r2 : Int), L13n_6n2 D k x y s a b c d n deep = some (r, r2) → Ends Try.prog Try.f13.results.toList (at_ Try.f13 6) (S13n_6n2 x y s a b c d n deep) (F.tup [F.int .i64 r, F.int .i64 r2])
  | 0, _, _, _, _, _, _, _, _, _, _, _, h => nomatch h
  | k + 1, x, y, s, a, b, c, d, n, deep, r, r2, h => by
    refine Ends.of_cut tyOK hE (T := [(6, [1, 4, 5, 6], 1000)]) (n := 200) ?_
    have e : runCut Try.prog (tiOf Try.prog) (envCn D) [(6, [1, 4, 5, 6], 1000)] 0 Try.f13.results.toList some 200 (at_ Try.f13 6) (S13n_6n2 x y s a b c d n deep) = T13n_6n2 D (fun r r2 => some (.ret (F.tup [F.int .i64 r, F.int .i64 r2]))) (fun x y s a b c d n deep => some (.cut (at_ Try.f13 6) (S13n_6n0 x y s a b c d n deep))) (fun x y s a b c d n deep => some (.cut (at_ Try.f13 6) (S13n_6n1 x y s a b c d n deep))) (fun x y s a b c d n deep => some (.cut (at_ Try.f13 6) (S13n_6n2 x y s a b c d n deep))) (fun x y s a b c d n deep => some (.cut (at_ Try.f13 6) (S13n_6n3 x y s a b c d n deep))) (fun x y s a b c d n deep => some (.cut (at_ Try.f13 6) (S13n_6n4 x y s a b c d n deep))) x y s a b c d n deep := by kernel_rfl
    rw [e]
    exact (good_sel h (fun _ h => good_cut (t13n_6n3 D hE k _ _ _ _ _ _ _ _ _ r r2 h)) (fun _ h => nomatch h))
theorem t13n_6n3 (D : Nat) (hE : EnvOK Try.prog (envCn D)) : ∀ (k : Nat) (x : Int) (y : Int) (s : Int) (a : Tr) (b : Tr) (c : Tr) (d : Tr) (n : Int) (deep : Int) (r : Int) (r2 : Int), L13n_6n3 D k x y s a b c d n deep = some (r, r2) → Ends Try.prog Try.f13.results.toList (at_ Try.f13 6) (S13n_6n3 x y s a b c d n deep) (F.tup [F.int .i64 r, F.int .i64 r2])
  | 0, _, _, _, _, _, _, _, _, _, _, _, h => nomatch h
  | k + 1, x, y, s, a, b, c, d, n, deep, r, r2, h => by
    refine Ends.of_cut tyOK hE (T := [(6, [1, 4, 5, 6], 1000)]) (n := 200) ?_
    have e : runCut Try.prog (tiOf Try.prog) (envCn D) [(6, [1, 4, 5, 6], 1000)] 0 Try.f13.results.toList some 200 (at_ Try.f13 6) (S13n_6n3 x y s a b c d n deep) = T13n_6n3 D (fun r r2 => some (.ret (F.tup [F.int .i64 r, F.int .i64 r2]))) (fun x y s a b c d n deep => some (.cut (at_ Try.f13 6) (S13n_6n0 x y s a b c d n deep))) (fun x y s a b c d n deep => some (.cut (at_ Try.f13 6) (S13n_6n1 x y s a b c d n deep))) (fun x y s a b c d n deep => some (.cut (at_ Try.f13 6) (S13n_6n2 x y s a b c d n deep))) (fun x y s a b c d n deep => some (.cut (at_ Try.f13 6) (S13n_6n3 x y s a b c d n deep))) (fun x y s a b c d n deep => some (.cut (at_ Try.f13 6) (S13n_6n4 x y s a b c d n deep))) x y s a b c d n deep := by kernel_rfl
    rw [e]
    exact (good_sel h (fun _ h => good_cut (t13n_6n4 D hE k _ _ _ _ _ _ _ _ _ r r2 h)) (fun _ h => nomatch h))
theorem t13n_6n4 (D : Nat) (hE : EnvOK Try.prog (envCn D)) : ∀ (k : Nat) (x : Int) (y : Int) (s : Int) (a : Tr) (b : Tr) (c : Tr) (d : Tr) (n : Int) (deep : Int) (r : Int) (r2 : Int), L13n_6n4 D k x y s a b c d n deep = some (r, r2) → Ends Try.prog Try.f13.results.toList (at_ Try.f13 6) (S13n_6n4 x y s a b c d n deep) (F.tup [F.int .i64 r, F.int .i64 r2])
  | 0, _, _, _, _, _, _, _, _, _, _, _, h => nomatch h
  | k + 1, x, y, s, a, b, c, d, n, deep, r, r2, h => by
    refine Ends.of_cut tyOK hE (T := [(6, [1, 4, 5, 6], 1000)]) (n := 200) ?_
    have e : runCut Try.prog (tiOf Try.prog) (envCn D) [(6, [1, 4, 5, 6], 1000)] 0 Try.f13.results.toList some 200 (at_ Try.f13 6) (S13n_6n4 x y s a b c d n deep) = T13n_6n4 D (fun r r2 => some (.ret (F.tup [F.int .i64 r, F.int .i64 r2]))) (fun x y s a b c d n deep => some (.cut (at_ Try.f13 6) (S13n_6n0 x y s a b c d n deep))) (fun x y s a b c d n deep => some (.cut (at_ Try.f13 6) (S13n_6n1 x y s a b c d n deep))) (fun x y s a b c d n deep => some (.cut (at_ Try.f13 6) (S13n_6n2 x y s a b c d n deep))) (fun x y s a b c d n deep => some (.cut (at_ Try.f13 6) (S13n_6n3 x y s a b c d n deep))) (fun x y s a b c d n deep => some (.cut (at_ Try.f13 6) (S13n_6n4 x y s a b c d n deep))) x y s a b c d n deep := by kernel_rfl
    rw [e]
    exact good_ret (by cases h; rfl)
end
theorem t13n (D : Nat) (hE : EnvOK Try.prog (envCn D)) (k : Nat) (x : Int) (y : Int) (s : Int) (a : Tr) (b : Tr) (c : Tr) (d : Tr) (r : Int) (r2 : Int) (h : G13n D k x y s a b c d = some (r, r2)) : Ends Try.prog Try.f13.results.toList [.code (bodyOf Try.f13)] (start Try.f13.ntmps ([trF (Tr.node x y s a b c d)].map .f)) (F.tup [F.int .i64 r, F.int .i64 r2]) := by
  refine Ends.of_run tyOK hE (T := [(6, [1, 4, 5, 6], 1000)]) (n := 200) ?_
  have e : run Try.prog (tiOf Try.prog) (envCn D) [(6, [1, 4, 5, 6], 1000)] 0 Try.f13.results.toList some 200 [.code (bodyOf Try.f13)] (start Try.f13.ntmps ([trF (Tr.node x y s a b c d)].map .f)) = T13n D (fun r r2 => some (.ret (F.tup [F.int .i64 r, F.int .i64 r2]))) (fun x y s a b c d n deep => some (.cut (at_ Try.f13 6) (S13n_6n0 x y s a b c d n deep))) (fun x y s a b c d n deep => some (.cut (at_ Try.f13 6) (S13n_6n1 x y s a b c d n deep))) (fun x y s a b c d n deep => some (.cut (at_ Try.f13 6) (S13n_6n2 x y s a b c d n deep))) (fun x y s a b c d n deep => some (.cut (at_ Try.f13 6) (S13n_6n3 x y s a b c d n deep))) (fun x y s a b c d n deep => some (.cut (at_ Try.f13 6) (S13n_6n4 x y s a b c d n deep))) x y s a b c d := by kernel_rfl
  rw [e]
  exact good_cut (t13n_6n0 D hE k _ _ _ _ _ _ _ _ _ r r2 h)
/-! ### function 13 -/
def S13l_6  : St := ⟨[.bad, .bad, .bad, .bad, .bad, .bad, .bad, .bad, .bad, .bad, .bad, .bad, .bad, .bad, .bad, .bad, .bad, .bad, .bad, .bad, .bad, .bad, .bad, .bad, .bad, .bad, .bad, .bad, .bad, .bad, .bad, .bad, .bad, .bad, .bad], []⟩
def T13l_6 {ρ : Type} (D : Nat) (ret : KJ53 ρ) (c6 : Option ρ)  : Option ρ :=
 none
def L13l_6 (D : Nat) : Nat → Option ((Int) × (Int))
  | 0 => none
  | k + 1 => T13l_6 D (fun r r2 => some (r, r2)) (L13l_6 D k) 
def T13l {ρ : Type} (D : Nat) (ret : KJ53 ρ) (c6 : Option ρ) (x : Int) (y : Int) (s : Int) (ids : List Int) : Option ρ :=
 (ret (1) (0))
def G13l (D : Nat) (k : Nat) (x : Int) (y : Int) (s : Int) (ids : List Int) : Option ((Int) × (Int)) := T13l D (fun r r2 => some (r, r2)) (L13l_6 D k) x y s ids
theorem t13l (D : Nat) (hE : EnvOK Try.prog (envCn D)) (k : Nat) (x : Int) (y : Int) (s : Int) (ids : List Int) (r : Int) (r2 : Int) (h : G13l D k x y s ids = some (r, r2)) : Ends Try.prog Try.f13.results.toList [.code (bodyOf Try.f13)] (start Try.f13.ntmps ([trF (Tr.leaf x y s ids)].map .f)) (F.tup [F.int .i64 r, F.int .i64 r2]) := by
  refine Ends.of_run tyOK hE (T := [(6, [1, 4, 5, 6], 1000)]) (n := 200) ?_
  have e : run Try.prog (tiOf Try.prog) (envCn D) [(6, [1, 4, 5, 6], 1000)] 0 Try.f13.results.toList some 200 [.code (bodyOf Try.f13)] (start Try.f13.ntmps ([trF (Tr.leaf x y s ids)].map .f)) = T13l D (fun r r2 => some (.ret (F.tup [F.int .i64 r, F.int .i64 r2]))) (some (.cut (at_ Try.f13 6) (S13l_6 ))) x y s ids := by kernel_rfl
  rw [e]
  exact good_ret (by cases h; rfl)
theorem lvs_le : ∀ t : Tr, lvs t ≤ 4 ^ trDepth t
  | .leaf _ _ _ _ => Nat.le_refl 1
  | .node _ _ _ a b c d => by
    have ha := lvs_le a
    have hb := lvs_le b
    have hc := lvs_le c
    have hd := lvs_le d
    simp only [lvs, trDepth]
    generalize hm : max (max (trDepth a) (trDepth b)) (max (trDepth c) (trDepth d)) = m
    have m1 : trDepth a ≤ m := hm ▸ Nat.le_trans (Nat.le_max_left _ _) (Nat.le_max_left _ _)
    have m2 : trDepth b ≤ m := hm ▸ Nat.le_trans (Nat.le_max_right _ _) (Nat.le_max_left _ _)
    have m3 : trDepth c ≤ m := hm ▸ Nat.le_trans (Nat.le_max_left _ _) (Nat.le_max_right _ _)
    have m4 : trDepth d ≤ m := hm ▸ Nat.le_trans (Nat.le_max_right _ _) (Nat.le_max_right _ _)
    have p1 := Nat.pow_le_pow_right (show 0 < 4 by omega) m1
    have p2 := Nat.pow_le_pow_right (show 0 < 4 by omega) m2
    have p3 := Nat.pow_le_pow_right (show 0 < 4 by omega) m3
    have p4 := Nat.pow_le_pow_right (show 0 < 4 by omega) m4
    rw [Nat.pow_succ]
    omega
theorem lvs_small {t : Tr} (h : trDepth t < 9) : lvs t ≤ 65536 := Nat.le_trans (lvs_le t) (Nat.pow_le_pow_right (n := 4) (by omega) (show trDepth t ≤ 8 by omega))
theorem max_nat {a b : Nat} : (if (a : Int) > (b : Int) then (a : Int) else (b : Int)) = ((max b a : Nat) : Int) := by
  split
  · rw [Nat.max_eq_right (by omega)]
  · rw [Nat.max_eq_left (by omega)]
theorem count_node (D : Nat) (x y s : Int) (a b c d : Tr) (ho : cntOk (D + 1) (.node x y s a b c d) = true) : G13n D 5 x y s a b c d = some (lvsV (.node x y s a b c d), dptV (.node x y s a b c d)) := by
  simp only [cntOk, Bool.and_eq_true, decide_eq_true_eq, trDepth] at ho
  obtain ⟨ho, hD⟩ := ho
  have hm := Nat.max_lt.1 (Nat.lt_of_succ_lt_succ (of_decide_eq_true ho))
  have hm1 := Nat.max_lt.1 hm.1
  have hm2 := Nat.max_lt.1 hm.2
  have ok : ∀ t, trDepth t < D → cntOk D t = true := fun t ht => by simp only [cntOk, Bool.and_eq_true, decide_eq_true_eq]; exact ⟨ht, by omega⟩
  have la := lvs_small (t := a) (by omega)
  have lb := lvs_small (t := b) (by omega)
  have lc := lvs_small (t := c) (by omega)
  have ld := lvs_small (t := d) (by omega)
  have step : ∀ (t : Tr) (n m : Nat), n ≤ 1000000 → lvs t ≤ 65536 → IntKind.i64.wrap ((n : Int) + lvsV t) = ((n + lvs t : Nat) : Int) := fun t n m hn ht => by
    unfold lvsV; rw [wrapi (by omega) (by omega)]; omega
  have dst : ∀ (t : Tr), trDepth t < D → IntKind.i64.wrap (dptV t + 1) = ((trDepth t + 1 : Nat) : Int) := fun t ht => by
    unfold dptV; rw [wrapi (by omega) (by omega)]; omega
  have z : (0 : Int) = ((0 : Nat) : Int) := rfl
  unfold G13n T13n
  simp only [L13n_6n0, T13n_6n0, L13n_6n1, T13n_6n1, L13n_6n2, T13n_6n2, L13n_6n3, T13n_6n3, L13n_6n4, T13n_6n4, isTr_trF, unTr_trF, ok a hm1.1, ok b hm1.2, ok c hm2.1, ok d hm2.2, Bool.and_true, bsel_true, if_true]
  rw [z, step a 0 0 (by omega) la, step b _ 0 (by omega) lb, step c _ 0 (by omega) lc, step d _ 0 (by omega) ld, dst a hm1.1, dst b hm1.2, dst c hm2.1, dst d hm2.2, max_nat, max_nat, max_nat, max_nat]
  simp only [lvsV, dptV, lvs, trDepth]
  congr 2
  · congr 1; omega
  · congr 1
    omega
theorem okCount : ∀ D, PureOK Try.prog 13 (preCn D) resCn
  | 0 => by
    intro xs hp
    exfalso
    unfold preCn at hp
    split at hp
    · simp only [cntOk, Bool.and_eq_true, decide_eq_true_eq] at hp
      omega
    · cases hp
  | D + 1 => fn_pure_at (c := bodyOf Try.f13) Try.func13 (by kernel_rfl) (by kernel_rfl) fun xs hp => match xs, hp with
    | [t], hp => by
      simp only [preCn, Bool.and_eq_true] at hp
      obtain ⟨h1, h3⟩ := hp
      have ht := tr_eq h1
      have hr : resCn [t] = .tup [.int .i64 (lvsV (unTr t)), .int .i64 (dptV (unTr t))] := rfl
      rw [hr]
      generalize unTr t = t' at ht h3 ⊢
      subst ht
      refine ⟨[trF t'], .tup [.int .i64 (lvsV t'), .int .i64 (dptV t')], ⟨.refl _, trivial⟩, ?_, .refl _⟩
      cases t' with
      | leaf x y s ids => exact t13l D (Env.add_ok envQ6_ok (okCount D).sp) 5 x y s ids _ _ rfl
      | node x y s a b c d => exact t13n D (Env.add_ok envQ6_ok (okCount D).sp) 5 x y s a b c d _ _ (count_node D x y s a b c d h3)
def envQ8 : Env := envQ6.add 13 (.pure (preCn 9) resCn)
theorem envQ8_ok : EnvOK Try.prog envQ8 := (Env.add_ok envQ6_ok (okCount 9).sp)
end
end Go.Proofs.Ytbnainbjcaekjaa.R
namespace Go.Proofs.Ytbnainbjcaekjaa.R
open Go
noncomputable section
def keyB (b : Bk) : Bool × Int := (b.split, b.size)
def flat : Tr → List (Bool × Int)
  | .leaf _ _ s _ => [(false, s)]
  | .node _ _ s a b c d => (true, s) :: (flat a ++ (flat b ++ (flat c ++ flat d)))
def SizedT : Nat → Tr → Prop
  | m, .leaf _ _ s _ => s = ((2 ^ m : Nat) : Int)
  | 0, .node _ _ _ _ _ _ _ => False
  | m + 1, .node _ _ s a b c d => s = ((2 ^ (m + 1) : Nat) : Int) ∧ SizedT m a ∧ SizedT m b ∧ SizedT m c ∧ SizedT m d
def seg (l : List Bk) (a p : Int) : List (Bool × Int) := ((l.drop a.toNat).take (p.toNat - a.toNat)).map keyB
theorem seg_none (l : List Bk) (a : Int) : seg l a a = [] := by simp [seg]
theorem seg_append (l : List Bk) {a b c : Int} (h0 : 0 ≤ a) (h1 : a ≤ b) (h2 : b ≤ c) : seg l a c = seg l a b ++ seg l b c := by
  unfold seg
  rw [← List.map_append]
  congr 1
  have e1 : c.toNat - a.toNat = (b.toNat - a.toNat) + (c.toNat - b.toNat) := by omega
  have e2 : l.drop b.toNat = (l.drop a.toNat).drop (b.toNat - a.toNat) := by rw [List.drop_drop]; congr 1; omega
  rw [e1, e2, List.take_add]
theorem seg_one (l : List Bk) {a : Int} (h0 : 0 ≤ a) (h1 : a < l.length) : seg l a (a + 1) = [keyB (l.getD a.toNat .zero)] := by
  unfold seg
  have hi : a.toNat < l.length := by omega
  have e1 : (a + 1).toNat - a.toNat = 1 := by omega
  have e2 : l.getD a.toNat Bk.zero = l[a.toNat] := by simp [List.getD, List.getElem?_eq_getElem hi]
  rw [e1, List.drop_eq_getElem_cons hi, e2]
  rfl
def Good3 (l : List Bk) (m : Nat) (a : Int) (r : Tr × Int × Bool) : Prop := a ≤ r.2.1 ∧ r.2.1 ≤ l.length ∧ seg l a r.2.1 = flat r.1 ∧ SizedT m r.1
theorem rdKids_flat {f : Int → Int → Tr × Int × Bool} {l : List Bk} {m : Nat} (hf : ∀ a k, 0 ≤ a → (f a k).2.2 = true → Good3 l m a (f a k)) : ∀ (ks : List Int) (a : Int) (ts : List Tr) (p : Int), 0 ≤ a → a ≤ l.length → rdKids f ks a = some (ts, p) → a ≤ p ∧ p ≤ l.length ∧ seg l a p = (ts.map flat).flatten ∧ ∀ t ∈ ts, SizedT m t
  | [], a, ts, p, ha, hl, h => by
    simp only [rdKids, Option.some.injEq, Prod.mk.injEq] at h
    obtain ⟨rfl, rfl⟩ := h
    exact ⟨Int.le_refl _, hl, by rw [seg_none]; rfl, by simp⟩
  | k :: ks, a, ts, p, ha, hl, h => by
    rw [rdKids] at h
    cases hc : (f a k).2.2 with
    | false => rw [hc] at h; cases h
    | true =>
      rw [hc, cond_true] at h
      obtain ⟨h1, h2, h3, h4⟩ := hf a k ha hc
      cases hr : rdKids f ks (f a k).2.1 with
      | none => rw [hr] at h; cases h
      | some r =>
        obtain ⟨ts', p'⟩ := r
        rw [hr] at h
        simp only [Option.some.injEq, Prod.mk.injEq] at h
        obtain ⟨rfl, rfl⟩ := h
        obtain ⟨i1, i2, i3, i4⟩ := rdKids_flat hf ks _ _ _ (by omega) h2 hr
        refine ⟨by omega, i2, ?_, ?_⟩
        · rw [seg_append l ha h1 i1, h3, i3]; rfl
        · intro t ht
          rcases List.mem_cons.1 ht with rfl | ht
          · exact h4
          · exact i4 t ht
theorem pow_half (m : Nat) (h : m ≤ 20) : halfV ((2 ^ (m + 1) : Nat) : Int) = ((2 ^ m : Nat) : Int) := by
  have h1 : 2 ^ m ≤ 2 ^ 20 := Nat.pow_le_pow_right (by omega) h
  have e : 2 ^ (m + 1) = 2 * 2 ^ m := by rw [Nat.pow_succ, Nat.mul_comm]
  rw [e]
  generalize 2 ^ m = p at h1 ⊢
  obtain ⟨e1, _, _⟩ := half_rng (s := ((2 * p : Nat) : Int)) (by omega)
  rw [e1, Int.tdiv_eq_ediv_of_nonneg (by omega)]
  omega
theorem read_flat : ∀ (D : Nat) (l : List Bk) (a x y deep : Int) (m : Nat), 0 ≤ a → deep ≤ m → m ≤ 21 → (readV D l a x y ((2 ^ m : Nat) : Int) deep).2.2 = true → Good3 l m a (readV D l a x y ((2 ^ m : Nat) : Int) deep)
  | 0, l, a, x, y, deep, m, ha, hd, hm, h => by cases h
  | D + 1, l, a, x, y, deep, m, ha, hd, hm, h => by
    have ih := read_flat D l
    rw [readV] at h ⊢
    cases hc1 : decide (a ≥ (l.length : Int)) with
    | true => rw [hc1] at h; cases h
    | false =>
      have hlt := of_decide_eq_false hc1
      have hone := seg_one l ha (by omega)
      rw [hc1] at h
      generalize l.getD a.toNat .zero = b at h hone ⊢
      simp only [cond_false] at h ⊢
      cases hc : (b.x != x || b.y != y || b.size != ((2 ^ m : Nat) : Int) || (b.split && (decide (deep < 1) || decide ((b.ids.length : Int) > 0)))) with
      | true => rw [hc] at h; cases h
      | false =>
        rw [hc] at h
        simp only [cond_false] at h ⊢
        simp only [Bool.or_eq_false_iff, bne_eq_false_iff_eq] at hc
        obtain ⟨⟨⟨_, _⟩, hsz⟩, hsp⟩ := hc
        cases hs : b.split with
        | false =>
          simp only [Bool.not_false, cond_true]
          refine ⟨by simp only []; omega, by simp only []; omega, ?_, by cases m <;> rfl⟩
          simp only [hone, flat, keyB, hs, hsz]
        | true =>
          rw [hs] at hsp h
          simp only [Bool.true_and, Bool.or_eq_false_iff, decide_eq_false_iff_not] at hsp
          simp only [Bool.not_true, cond_false] at h ⊢
          match m, hm, hd with
          | 0, hm, hd => exfalso; omega
          | m + 1, hm, hd =>
            rw [pow_half m (by omega)] at h ⊢
            cases hr : rdKids (fun a k => readV D l a (IntKind.i64.wrap (x + IntKind.i64.wrap ((k.tmod 2) * ((2 ^ m : Nat) : Int)))) (IntKind.i64.wrap (y + IntKind.i64.wrap (IntKind.i64.wrap (k.tdiv 2) * ((2 ^ m : Nat) : Int)))) ((2 ^ m : Nat) : Int) (deep - 1)) [0, 1, 2, 3] (a + 1) with
            | none => rw [hr] at h; cases h
            | some r =>
              obtain ⟨ts, p⟩ := r
              have hlen := kids_len4 _ _ _ _ hr
              obtain ⟨i1, i2, i3, i4⟩ := rdKids_flat (l := l) (m := m) (fun a k ha hk => ih a _ _ _ m ha (by omega) (by omega) hk) _ _ _ _ (by omega) (by omega) hr
              match ts, hlen with
              | [t0, t1, t2, t3], _ =>
                refine ⟨by simp only []; omega, i2, ?_, rfl, i4 t0 (by simp), i4 t1 (by simp), i4 t2 (by simp), i4 t3 (by simp)⟩
                simp only [flat]
                rw [seg_append l ha (show a ≤ a + 1 by omega) i1, hone, i3]
                simp [keyB, hs, hsz]
def leavesN (l : List (Bool × Int)) : Nat := l.countP fun x => !x.1
def splitsN (l : List (Bool × Int)) : Nat := l.countP fun x => x.1
def bdN (s : Int) : Nat := 21 - Nat.log2 s.toNat
def deepN : List (Bool × Int) → Nat
  | [] => 0
  | x :: l => max (bdN x.2) (deepN l)
theorem deep_append : ∀ (l l' : List (Bool × Int)), deepN (l ++ l') = max (deepN l) (deepN l')
  | [], l' => by simp [deepN]
  | x :: l, l' => by simp only [List.cons_append, deepN, deep_append l l', Nat.max_assoc]
theorem flat_leaves : ∀ t : Tr, leavesN (flat t) = lvs t
  | .leaf _ _ _ _ => rfl
  | .node _ _ _ a b c d => by
    have ha := flat_leaves a
    have hb := flat_leaves b
    have hc := flat_leaves c
    have hd := flat_leaves d
    simp only [leavesN, flat, lvs, List.countP_cons, List.countP_append] at *
    simp
    omega
theorem flat_splits : ∀ t : Tr, lvs t = 1 + 3 * splitsN (flat t)
  | .leaf _ _ _ _ => rfl
  | .node _ _ _ a b c d => by
    have ha := flat_splits a
    have hb := flat_splits b
    have hc := flat_splits c
    have hd := flat_splits d
    simp only [splitsN, flat, lvs, List.countP_cons, List.countP_append] at *
    simp
    omega
theorem leaves_splits : ∀ l : List (Bool × Int), leavesN l + splitsN l = l.length
  | [] => rfl
  | x :: l => by
    have := leaves_splits l
    simp only [leavesN, splitsN, List.countP_cons, List.length_cons] at *
    cases x.1 <;> simp <;> omega
theorem bd_pow {m : Nat} : bdN ((2 ^ m : Nat) : Int) = 21 - m := by
  unfold bdN
  rw [Int.toNat_natCast, Nat.log2_two_pow]
theorem flat_deep : ∀ (t : Tr) (m : Nat), SizedT m t → m ≤ 21 → deepN (flat t) = (21 - m) + trDepth t
  | .leaf _ _ s _, m, h, hm => by
    have h : s = ((2 ^ m : Nat) : Int) := by cases m <;> exact h
    subst h
    simp only [flat, deepN, trDepth, bd_pow]
    simp
  | .node _ _ s a b c d, 0, h, hm => h.elim
  | .node _ _ s a b c d, m + 1, h, hm => by
    obtain ⟨rfl, h1, h2, h3, h4⟩ := h
    have ha := flat_deep a m h1 (by omega)
    have hb := flat_deep b m h2 (by omega)
    have hc := flat_deep c m h3 (by omega)
    have hd := flat_deep d m h4 (by omega)
    simp only [flat, deepN, deep_append, ha, hb, hc, hd, trDepth, bd_pow]
    have e : 21 - m = 21 - (m + 1) + 1 := by omega
    rw [e]
    omega
theorem flat_sizes : ∀ (t : Tr) (m : Nat), SizedT m t → ∀ x ∈ flat t, ∃ k, k ≤ m ∧ x.2 = ((2 ^ k : Nat) : Int)
  | .leaf _ _ s _, m, h, x, hx => by
    have h : s = ((2 ^ m : Nat) : Int) := by cases m <;> exact h
    simp only [flat, List.mem_singleton] at hx
    subst hx
    exact ⟨m, Nat.le_refl _, h⟩
  | .node _ _ s a b c d, 0, h, x, hx => h.elim
  | .node _ _ s a b c d, m + 1, h, x, hx => by
    obtain ⟨rfl, h1, h2, h3, h4⟩ := h
    simp only [flat, List.mem_cons, List.mem_append] at hx
    rcases hx with rfl | hx | hx | hx | hx
    · exact ⟨m + 1, Nat.le_refl _, rfl⟩
    · obtain ⟨k, hk, e⟩ := flat_sizes a m h1 x hx; exact ⟨k, by omega, e⟩
    · obtain ⟨k, hk, e⟩ := flat_sizes b m h2 x hx; exact ⟨k, by omega, e⟩
    · obtain ⟨k, hk, e⟩ := flat_sizes c m h3 x hx; exact ⟨k, by omega, e⟩
    · obtain ⟨k, hk, e⟩ := flat_sizes d m h4 x hx; exact ⟨k, by omega, e⟩
theorem tree_flat {q : Qd} (h : (treeV q).2 = true) : q.blocks.map keyB = flat (treeV q).1 ∧ SizedT 21 (treeV q).1 ∧ (trDepth (treeV q).1 : Int) ≤ q.deep ∧ q.deep ≤ 8 ∧ q.blocks.length ≤ 2000 := by
  unfold treeV at h ⊢
  cases hc : (limitsV q.most q.deep && !decide ((q.items.length : Int) > 40) && !decide ((q.blocks.length : Int) > 2000) && itsOk q.items none && (readV 9 q.blocks 0 (-1048576) (-1048576) 2097152 q.deep).2.2 &&
    (readV 9 q.blocks 0 (-1048576) (-1048576) 2097152 q.deep).2.1 == (q.blocks.length : Int) && rightV q.items (readV 9 q.blocks 0 (-1048576) (-1048576) 2097152 q.deep).1) with
  | false => rw [hc] at h; cases h
  | true =>
    simp only [cond_true]
    simp only [Bool.and_eq_true, beq_iff_eq] at hc
    obtain ⟨⟨⟨⟨⟨⟨h1, h2⟩, h3⟩, h4⟩, h5⟩, h6⟩, h7⟩ := hc
    have hd : 0 ≤ q.deep ∧ q.deep ≤ 8 := by
      simp only [limitsV, inV, Bool.and_eq_true, decide_eq_true_eq] at h1
      exact h1.2
    have h3' : q.blocks.length ≤ 2000 := by
      rw [Bool.not_eq_true', decide_eq_false_iff_not] at h3
      omega
    have hdp := read_depth 9 q.blocks 0 (-1048576) (-1048576) 2097152 q.deep hd.1 h5
    have e21 : (2097152 : Int) = ((2 ^ 21 : Nat) : Int) := by decide
    have hg := read_flat 9 q.blocks 0 (-1048576) (-1048576) q.deep 21 (by omega) (by omega) (by omega) (by rw [← e21]; exact h5)
    rw [← e21] at hg
    obtain ⟨_, _, g3, g4⟩ := hg
    rw [h6] at g3
    refine ⟨?_, g4, hdp, hd.2, h3'⟩
    rw [← g3]
    unfold seg
    simp
end
end Go.Proofs.Ytbnainbjcaekjaa.R
namespace Go.Proofs.Ytbnainbjcaekjaa.R
open Go
noncomputable section
/-! ### function 6 -/
def S6_5 (l : List Bk) (n : Int) (m : Int) (i : Int) : St := ⟨[.bad, .bad, .bad, .bad, (U.f (F.int .i64 n)), (U.f (F.int .i64 m)), .bad, .bad, .bad, .bad, .bad, .bad, .bad, .bad, (U.f (blocksF l)), (U.f (F.int .i64 l.length)), (U.f (F.int .i64 i)), .bad, .bad, .bad, .bad, .bad, .bad, .bad, .bad, .bad, .bad, .bad, .bad, .bad, .bad, .bad, .bad, .bad, .bad, .bad, .bad, .bad, .bad], []⟩
def S6_11 (l : List Bk) (n : Int) (m : Int) (dp : Int) (sz : Int) (i : Int) : St := ⟨[.bad, .bad, .bad, .bad, (U.f (F.int .i64 n)), (U.f (F.int .i64 m)), .bad, .bad, (U.f (F.int .i64 dp)), (U.f (F.int .i64 sz)), .bad, .bad, .bad, .bad, (U.f (blocksF l)), (U.f (F.int .i64 l.length)), (U.f (F.int .i64 i)), .bad, .bad, .bad, .bad, .bad, .bad, .bad, .bad, .bad, .bad, .bad, .bad, .bad, .bad, .bad, .bad, .bad, .bad, .bad, .bad, .bad, .bad], []⟩
abbrev KJ55 (ρ : Type) := (List Bk) → (Int) → (Int) → (Int) → (Int) → (Int) → Option ρ
abbrev KJ56 (ρ : Type) := (List Bk) → (Int) → (Int) → (Int) → Option ρ
def T6_5 {ρ : Type} (ret : KJ53 ρ) (c5 : KJ56 ρ) (c11 : KJ55 ρ) (l : List Bk) (n : Int) (m : Int) (i : Int) : Option ρ :=
 (bsel (decide (i < (↑l.length : Int)))
 (bsel (decide (0 ≤ i))
 (bsel (decide (i < (↑l.length : Int)))
 (bsel (!(l.getD i.toNat Bk.zero).split)
 (c11 (l) (IntKind.i64.wrap (n + 1)) (m) (0) ((l.getD i.toNat Bk.zero).size) (i))
 (c11 (l) (n) (m) (0) ((l.getD i.toNat Bk.zero).size) (i)))
 none)
 none)
 (ret (n) (m)))
def T6_11 {ρ : Type} (ret : KJ53 ρ) (c5 : KJ56 ρ) (c11 : KJ55 ρ) (l : List Bk) (n : Int) (m : Int) (dp : Int) (sz : Int) (i : Int) : Option ρ :=
 (bsel (decide (sz < 2097152))
 (c11 (l) (n) (m) (IntKind.i64.wrap (dp + 1)) (IntKind.i64.wrap (sz * 2)) (i))
 (c5 (l) (n) (if true = true then if dp > m then dp else m else if dp < m then dp else m) (IntKind.i64.wrap (i + 1))))
mutual
def L6_5 : Nat → (List Bk) → (Int) → (Int) → (Int) → Option ((Int) × (Int))
  | 0, _, _, _, _ => none
  | k + 1, l, n, m, i => T6_5 (fun r r2 => some (r, r2)) (L6_5 k) (L6_11 k) l n m i
def L6_11 : Nat → (List Bk) → (Int) → (Int) → (Int) → (Int) → (Int) → Option ((Int) × (Int))
  | 0, _, _, _, _, _, _ => none
  | k + 1, l, n, m, dp, sz, i => T6_11 (fun r r2 => some (r, r2)) (L6_5 k) (L6_11 k) l n m dp sz i
end
def T6 {ρ : Type} (ret : KJ53 ρ) (c5 : KJ56 ρ) (c11 : KJ55 ρ) (q : Qd) : Option ρ :=
 (bsel (isQd (qdF q) && allShortV (unQd (qdF q)).blocks)
 (bsel (!(treeV (unQd (qdF q))).snd)
 (ret (0) (0))
 (c5 (q.blocks) (0) (0) (0)))
 none)
def G6 (k : Nat) (q : Qd) : Option ((Int) × (Int)) := T6 (fun r r2 => some (r, r2)) (L6_5 k) (L6_11 k) q
mutual
theorem t6_5 : ∀ (k : Nat) (l : List Bk) (n : Int) (m : Int) (i : Int) (r : Int) (r2 : Int), L6_5 k l n m i = some (r, r2) → Ends Try.prog Try.f6.results.toList (at_ Try.f6 5) (S6_5 l n m i) (F.tup [F.int .i64 r, F.int .i64 r2])
  | 0, _, _, _, _, _, _, h => nomatch h
  | k + 1, l, n, m, i, r, r2, h => by
    refine Ends.of_cut tyOK envQ8_ok (T := [(5, [4, 5, 14, 15, 16], 1000), (11, [4, 5, 8, 9, 14, 15, 16], 1000)]) (n := 200) ?_
    have e : runCut Try.prog (tiOf Try.prog) envQ8 [(5, [4, 5, 14, 15, 16], 1000), (11, [4, 5, 8, 9, 14, 15, 16], 1000)] 0 Try.f6.results.toList some 200 (at_ Try.f6 5) (S6_5 l n m i) = T6_5 (fun r r2 => some (.ret (F.tup [F.int .i64 r, F.int .i64 r2]))) (fun l n m i => some (.cut (at_ Try.f6 5) (S6_5 l n m i))) (fun l n m dp sz i => some (.cut (at_ Try.f6 11) (S6_11 l n m dp sz i))) l n m i := by kernel_rfl
    rw [e]
    exact (good_sel h (fun _ h => (good_sel h (fun _ h => (good_sel h (fun _ h => (good_sel h (fun _ h => good_cut (t6_11 k _ _ _ _ _ _ r r2 h)) (fun _ h => good_cut (t6_11 k _ _ _ _ _ _ r r2 h)))) (fun _ h => nomatch h))) (fun _ h => nomatch h))) (fun _ h => good_ret (by cases h; rfl)))
theorem t6_11 : ∀ (k : Nat) (l : List Bk) (n : Int) (m : Int) (dp : Int) (sz : Int) (i : Int) (r : Int) (r2 : Int), L6_11 k l n m dp sz i = some (r, r2) → Ends Try.prog Try.f6.results.toList (at_ Try.f6 11) (S6_11 l n m dp sz i) (F.tup [F.int .i64 r, F.int .i64 r2])
  | 0, _, _, _, _, _, _, _, _, h => nomatch h
  | k + 1, l, n, m, dp, sz, i, r, r2, h => by
    refine Ends.of_cut tyOK envQ8_ok (T := [(5, [4, 5, 14, 15, 16], 1000), (11, [4, 5, 8, 9, 14, 15, 16], 1000)]) (n := 200) ?_
    have e : runCut Try.prog (tiOf Try.prog) envQ8 [(5, [4, 5, 14, 15, 16], 1000), (11, [4, 5, 8, 9, 14, 15, 16], 1000)] 0 Try.f6.results.toList some 200 (at_ Try.f6 11) (S6_11 l n m dp sz i) = T6_11 (fun r r2 => some (.ret (F.tup [F.int .i64 r, F.int .i64 r2]))) (fun l n m i => some (.cut (at_ Try.f6 5) (S6_5 l n m i))) (fun l n m dp sz i => some (.cut (at_ Try.f6 11) (S6_11 l n m dp sz i))) l n m dp sz i := by kernel_rfl
    rw [e]
    exact (good_sel h (fun _ h => good_cut (t6_11 k _ _ _ _ _ _ r r2 h)) (fun _ h => good_cut (t6_5 k _ _ _ _ r r2 h)))
end
theorem t6 (k : Nat) (q : Qd) (r : Int) (r2 : Int) (h : G6 k q = some (r, r2)) : Ends Try.prog Try.f6.results.toList [.code (bodyOf Try.f6)] (start Try.f6.ntmps ([qdF q].map .f)) (F.tup [F.int .i64 r, F.int .i64 r2]) := by
  refine Ends.of_run tyOK envQ8_ok (T := [(5, [4, 5, 14, 15, 16], 1000), (11, [4, 5, 8, 9, 14, 15, 16], 1000)]) (n := 200) ?_
  have e : run Try.prog (tiOf Try.prog) envQ8 [(5, [4, 5, 14, 15, 16], 1000), (11, [4, 5, 8, 9, 14, 15, 16], 1000)] 0 Try.f6.results.toList some 200 [.code (bodyOf Try.f6)] (start Try.f6.ntmps ([qdF q].map .f)) = T6 (fun r r2 => some (.ret (F.tup [F.int .i64 r, F.int .i64 r2]))) (fun l n m i => some (.cut (at_ Try.f6 5) (S6_5 l n m i))) (fun l n m dp sz i => some (.cut (at_ Try.f6 11) (S6_11 l n m dp sz i))) q := by kernel_rfl
  rw [e]
  exact (good_sel h (fun _ h => (good_sel h (fun _ h => good_ret (by cases h; rfl)) (fun _ h => good_cut (t6_5 k _ _ _ _ r r2 h)))) (fun _ h => nomatch h))
/-! ### function 7 -/
def T7 {ρ : Type} (ret : KJ53 ρ) (q : Qd) : Option ρ :=
 (bsel (isQd (qdF q) && allShortV (unQd (qdF q)).blocks)
 (bsel (!(treeV (unQd (qdF q))).snd)
 (ret (0) (0))
 (bsel (isTr (trF (treeV (unQd (qdF q))).fst) && cntOk 9 (unTr (trF (treeV (unQd (qdF q))).fst)))
 (ret (lvsV (unTr (trF (treeV (unQd (qdF q))).fst))) (dptV (unTr (trF (treeV (unQd (qdF q))).fst))))
 none))
 none)
def G7 (q : Qd) : Option ((Int) × (Int)) := T7 (fun r r2 => some (r, r2)) q
theorem t7 (q : Qd) (r : Int) (r2 : Int) (h : G7 q = some (r, r2)) : Ends Try.prog Try.f7.results.toList [.code (bodyOf Try.f7)] (start Try.f7.ntmps ([qdF q].map .f)) (F.tup [F.int .i64 r, F.int .i64 r2]) := by
  refine Ends.of_run tyOK envQ8_ok (T := []) (n := 200) ?_
  have e : run Try.prog (tiOf Try.prog) envQ8 [] 0 Try.f7.results.toList some 200 [.code (bodyOf Try.f7)] (start Try.f7.ntmps ([qdF q].map .f)) = T7 (fun r r2 => some (.ret (F.tup [F.int .i64 r, F.int .i64 r2]))) q := by kernel_rfl
  rw [e]
  exact (good_sel h (fun _ h => (good_sel h (fun _ h => good_ret (by cases h; rfl)) (fun _ h => (good_sel h (fun _ h => good_ret (by cases h; rfl)) (fun _ h => nomatch h))))) (fun _ h => nomatch h))
theorem size_loop (l : List Bk) (n mx i : Int) : ∀ (e m k dp : Nat), m + e = 21 → dp + e ≤ 21 → e + 1 ≤ k → L6_11 k l n mx dp ((2 ^ m : Nat) : Int) i = L6_5 (k - e - 1) l n (if ((dp + e : Nat) : Int) > mx then ((dp + e : Nat) : Int) else mx) (IntKind.i64.wrap (i + 1))
  | 0, m, k, dp, h, hd, hk => by
    obtain ⟨k, rfl⟩ : ∃ k', k = k' + 1 := ⟨k - 1, by omega⟩
    obtain rfl : m = 21 := by omega
    have c1 : decide (((2 ^ 21 : Nat) : Int) < 2097152) = false := by decide
    rw [L6_11]
    simp only [T6_11, c1, bsel_false, if_true, Nat.add_zero, Nat.sub_zero, Nat.add_sub_cancel]
  | e + 1, m, k, dp, h, hd, hk => by
    obtain ⟨k, rfl⟩ : ∃ k', k = k' + 1 := ⟨k - 1, by omega⟩
    have hp : 2 ^ (m + 1) ≤ 2 ^ 21 := Nat.pow_le_pow_right (by omega) (by omega)
    have hs : 2 ^ (m + 1) = 2 * 2 ^ m := by rw [Nat.pow_succ, Nat.mul_comm]
    have ih := size_loop l n mx i e (m + 1) k (dp + 1) (by omega) (by omega) (by omega)
    have hw : IntKind.i64.wrap ((dp : Int) + 1) = ((dp + 1 : Nat) : Int) := by rw [wrapi (by omega) (by omega)]; omega
    have hw2 : IntKind.i64.wrap (((2 ^ m : Nat) : Int) * 2) = ((2 ^ (m + 1) : Nat) : Int) := by
      rw [hs]; rw [hs] at hp
      generalize 2 ^ m = p at hp ⊢
      rw [wrapi (by omega) (by omega)]; omega
    have c1 : decide (((2 ^ m : Nat) : Int) < 2097152) = true := by
      rw [hs] at hp
      have : 0 < 2 ^ m := Nat.pow_pos (by omega)
      have h21 : (2 : Nat) ^ 21 = 2097152 := by decide
      generalize 2 ^ m = p at hp this ⊢
      exact decide_eq_true (by omega)
    rw [L6_11]
    simp only [T6_11, c1, bsel_true, hw, hw2, ih]
    rw [show dp + 1 + e = dp + (e + 1) by omega, show k + 1 - (e + 1) - 1 = k - e - 1 by omega]
theorem count_loop (l : List Bk) (hn : l.length ≤ 2000) (hs : ∀ b ∈ l, ∃ m, m ≤ 21 ∧ b.size = ((2 ^ m : Nat) : Int)) : ∀ (d i n mx k : Nat), i + d = l.length → n ≤ i → mx ≤ 21 → 24 * d + 1 ≤ k →
    L6_5 k l n mx i = some (((n + leavesN ((l.drop i).map keyB) : Nat) : Int), ((max mx (deepN ((l.drop i).map keyB)) : Nat) : Int))
  | 0, i, n, mx, k, h, h1, h2, hk => by
    obtain ⟨k, rfl⟩ : ∃ k', k = k' + 1 := ⟨k - 1, by omega⟩
    have c1 : decide ((i : Int) < (l.length : Int)) = false := decide_eq_false (by omega)
    rw [L6_5, List.drop_eq_nil_of_le (by omega)]
    simp only [T6_5, c1, bsel_false, List.map_nil, leavesN, List.countP_nil, deepN, Nat.add_zero, Nat.max_zero]
  | d + 1, i, n, mx, k, h, h1, h2, hk => by
    obtain ⟨k, rfl⟩ : ∃ k', k = k' + 1 := ⟨k - 1, by omega⟩
    have hi : i < l.length := by omega
    have c1 : decide ((i : Int) < (l.length : Int)) = true := decide_eq_true (by omega)
    have c2 : decide (0 ≤ (i : Int)) = true := decide_eq_true (by omega)
    have hw : IntKind.i64.wrap ((i : Int) + 1) = ((i + 1 : Nat) : Int) := by rw [wrapi (by omega) (by omega)]; omega
    have hw2 : IntKind.i64.wrap ((n : Int) + 1) = ((n + 1 : Nat) : Int) := by rw [wrapi (by omega) (by omega)]; omega
    have hg : l.getD i .zero = l[i] := by simp [List.getD, List.getElem?_eq_getElem hi]
    obtain ⟨m, hm, hsz⟩ := hs l[i] (List.getElem_mem hi)
    have hb : bdN l[i].size = 21 - m := by rw [hsz, bd_pow]
    have z : (0 : Int) = ((0 : Nat) : Int) := rfl
    have hx : (if ((0 + (21 - m) : Nat) : Int) > (mx : Int) then ((0 + (21 - m) : Nat) : Int) else (mx : Int)) = ((max mx (21 - m) : Nat) : Int) := by
      rw [Nat.zero_add]; exact max_nat
    have hmx : max mx (21 - m) ≤ 21 := Nat.max_le.2 ⟨h2, by omega⟩
    rw [L6_5]
    simp only [T6_5, c1, c2, bsel_true, Int.toNat_natCast, hg, hsz]
    rw [List.drop_eq_getElem_cons hi]
    simp only [List.map_cons, leavesN, List.countP_cons, deepN, keyB, hb]
    rw [z]
    cases hsp : l[i].split with
    | false =>
      simp only [Bool.not_false, bsel_true, if_true, hw2]
      rw [size_loop l _ _ _ (21 - m) m k 0 (by omega) (by omega) (by omega), hx, hw, count_loop l hn hs d (i + 1) (n + 1) _ _ (by omega) (by omega) hmx (by omega)]
      simp only [leavesN, Nat.max_assoc]
      congr 2
      congr 1
      omega
    | true =>
      simp only [Bool.not_true, bsel_false, Bool.false_eq_true, if_false]
      rw [size_loop l _ _ _ (21 - m) m k 0 (by omega) (by omega) (by omega), hx, hw, count_loop l hn hs d (i + 1) n _ _ (by omega) (by omega) hmx (by omega)]
      simp only [leavesN, Nat.max_assoc, Nat.add_zero]
def countV (q : Qd) : Int × Int := bif (treeV q).2 then (lvsV (treeV q).1, dptV (treeV q).1) else (0, 0)
theorem count_impl (q : Qd) (hs : allShortV q.blocks = true) : G6 60000 q = some (countV q) := by
  unfold G6 T6 countV
  simp only [isQd_qdF, unQd_qdF, hs, Bool.and_true, bsel_true]
  cases ht : (treeV q).2 with
  | false => rfl
  | true =>
    obtain ⟨h1, h2, h3, h4, h5⟩ := tree_flat ht
    have hsz : ∀ b ∈ q.blocks, ∃ m, m ≤ 21 ∧ b.size = ((2 ^ m : Nat) : Int) := fun b hb => by
      have : keyB b ∈ flat (treeV q).1 := by rw [← h1]; exact List.mem_map_of_mem hb
      obtain ⟨k, hk, e⟩ := flat_sizes _ _ h2 _ this
      exact ⟨k, hk, e⟩
    have := count_loop q.blocks h5 hsz q.blocks.length 0 0 0 60000 (by omega) (by omega) (by omega) (by omega)
    rw [List.drop_zero, h1, flat_leaves, flat_deep _ 21 h2 (by omega)] at this
    simp only [Bool.not_true, bsel_false, cond_true, lvsV, dptV]
    simpa using this
theorem count_spec (q : Qd) (hs : allShortV q.blocks = true) : G7 q = some (countV q) := by
  unfold G7 T7 countV
  simp only [isQd_qdF, unQd_qdF, hs, Bool.and_true, bsel_true]
  cases ht : (treeV q).2 with
  | false => rfl
  | true =>
    obtain ⟨h1, h2, h3, h4, h5⟩ := tree_flat ht
    have hc : cntOk 9 (treeV q).1 = true := by
      simp only [cntOk, Bool.and_eq_true, decide_eq_true_eq]
      omega
    simp only [isTr_trF, unTr_trF, hc, Bool.and_true, bsel_true, Bool.not_true, bsel_false, cond_true]
def resQCount : List F → F | [q] => .tup [.int .i64 (countV (unQd q)).1, .int .i64 (countV (unQd q)).2] | _ => .dflt
theorem okQCountI : PureOK Try.prog 6 preTree resQCount :=
  fn_pure_at (c := bodyOf Try.f6) Try.func6 (by kernel_rfl) (by kernel_rfl) fun xs hp => match xs, hp with
  | [q], hp => by
    simp only [preTree, Bool.and_eq_true] at hp
    exact ⟨[qdF (unQd q)], _, ⟨(qd_eqv hp.1).1, trivial⟩, t6 60000 _ _ _ (count_impl (unQd q) hp.2), .refl _⟩
theorem okQCountS : PureOK Try.prog 7 preTree resQCount :=
  fn_pure_at (c := bodyOf Try.f7) Try.func7 (by kernel_rfl) (by kernel_rfl) fun xs hp => match xs, hp with
  | [q], hp => by
    simp only [preTree, Bool.and_eq_true] at hp
    exact ⟨[qdF (unQd q)], _, ⟨(qd_eqv hp.1).1, trivial⟩, t7 _ _ _ (count_spec (unQd q) hp.2), .refl _⟩
def envQ9 : Env := (envQ8.add 6 (.pure preTree resQCount)).add 7 (.pure preTree resQCount)
theorem envQ9_ok : EnvOK Try.prog envQ9 := (Env.add_ok (Env.add_ok envQ8_ok okQCountI.sp) okQCountS.sp)
end
end Go.Proofs.Ytbnainbjcaekjaa.R
namespace Go.Proofs.Ytbnainbjcaekjaa.R
open Go
/-! ### function 19 -/
def T19 {ρ : Type} (ret : KJ53 ρ) (s : ByteArray) (p : Int) (n : Int) : Option ρ :=
 (bsel (decide (n ≤ 1))
 (ret (0) (p))
 (bsel (decide (n ≤ 256))
 (bsel (isBytes (bytesF s) && rdOk (unBytes (bytesF s)) p)
 (bsel (n != 0)
 (ret ((nextV (unBytes (bytesF s)) p).fst.tmod n) ((nextV (unBytes (bytesF s)) p).snd))
 none)
 none)
 (bsel (isBytes (bytesF s) && rdOk (unBytes (bytesF s)) p)
 (bsel (isBytes (bytesF s) && rdOk (unBytes (bytesF s)) (nextV (unBytes (bytesF s)) p).snd)
 (bsel (n != 0)
 (ret ((IntKind.i64.wrap (IntKind.i64.wrap ((nextV (unBytes (bytesF s)) p).fst * 256) + (nextV (unBytes (bytesF s)) (nextV (unBytes (bytesF s)) p).snd).fst)).tmod n) ((nextV (unBytes (bytesF s)) (nextV (unBytes (bytesF s)) p).snd).snd))
 none)
 none)
 none)))
def G19 (s : ByteArray) (p : Int) (n : Int) : Option ((Int) × (Int)) := T19 (fun r q => some (r, q)) s p n
theorem t19 (s : ByteArray) (p : Int) (n : Int) (r : Int) (q : Int) (h : G19 s p n = some (r, q)) : EndsN Try.prog 1 Try.f19.results.toList [.code (bodyOf Try.f19)] (startN Try.f19.ntmps [U.hp 0 0, U.f (F.int .i64 n)] [HO.box [U.f (bytesF s), U.f (F.int .i64 p)]]) (F.tup [F.int .i64 r, F.agg [bytesF s, F.int .i64 q]]) := by
  refine Ends.of_run tyOK envD1_ok (T := []) (n := 200) ?_
  have e : run Try.prog (tiOf Try.prog) envD1 [] 1 Try.f19.results.toList some 200 [.code (bodyOf Try.f19)] (startN Try.f19.ntmps [U.hp 0 0, U.f (F.int .i64 n)] [HO.box [U.f (bytesF s), U.f (F.int .i64 p)]]) = T19 (fun r q => some (.ret (F.tup [F.int .i64 r, F.agg [bytesF s, F.int .i64 q]]))) s p n := by kernel_rfl
  rw [e]
  exact (good_sel h (fun _ h => good_ret (by cases h; rfl)) (fun _ h => (good_sel h (fun _ h => (good_sel h (fun _ h => (good_sel h (fun _ h => good_ret (by cases h; rfl)) (fun _ h => nomatch h))) (fun _ h => nomatch h))) (fun _ h => (good_sel h (fun _ h => (good_sel h (fun _ h => (good_sel h (fun _ h => good_ret (by cases h; rfl)) (fun _ h => nomatch h))) (fun _ h => nomatch h))) (fun _ h => nomatch h))))))
def belowV (s : ByteArray) (p n : Int) : Int × Int := (G19 s p n).getD (0, 0)
theorem below_ok {s : ByteArray} {p : Int} (h : rdOk s p = true) (n : Int) :
    G19 s p n = some (belowV s p n) ∧ 0 ≤ (belowV s p n).1 ∧ ((belowV s p n).1 < n ∨ (belowV s p n).1 = 0) ∧ rdOk s (belowV s p n).2 = true := by
  obtain ⟨h1, h2, h3, h4⟩ := next_ok h
  obtain ⟨k1, k2, k3, k4⟩ := next_ok h4
  unfold belowV G19 T19
  simp only [unBytes_bytesF, isBytes_bytesF, h, h4, Bool.and_self, bsel_true]
  by_cases c1 : n ≤ 1
  · simp only [decide_eq_true c1, bsel_true, Option.getD_some]
    exact ⟨trivial, by omega, .inr trivial, h⟩
  · have hn : (n != 0) = true := by simp; omega
    simp only [decide_eq_false c1, bsel_false, hn, bsel_true]
    by_cases c2 : n ≤ 256
    · simp only [decide_eq_true c2, bsel_true, Option.getD_some]
      exact ⟨trivial, Int.tmod_nonneg _ h2, .inl (Int.tmod_lt_of_pos _ (by omega)), h4⟩
    · simp only [decide_eq_false c2, bsel_false, Option.getD_some]
      refine ⟨trivial, Int.tmod_nonneg _ ?_, .inl (Int.tmod_lt_of_pos _ (by omega)), k4⟩
      rw [wrapi (x := (nextV s p).1 * 256) (by omega) (by omega), wrapi (by omega) (by omega)]
      omega
theorem okBelow : SpOK Try.prog 19 (ptrSp (fun cs xs => match xs with | [.int .i64 n] => preR cs | _ => false) (fun cs xs => match xs with | [.int .i64 n] => rd (fun s p => (.int .i64 (belowV s p n).1, (belowV s p n).2)) cs | _ => (.dflt, cs))) :=
  fn_ptr_at (c := bodyOf Try.f19) Try.func19 (by kernel_rfl) (by kernel_rfl) fun cs xs hp => by
    split at hp
    · rename_i n
      obtain ⟨b, p, rfl, hb, hr⟩ := preR_open hp
      obtain ⟨h1, _⟩ := below_ok hr n
      exact ⟨[bytesF (unBytes b), .int .i64 p], [.int .i64 n], _, _, ⟨(bytes_eqv hb).1, .refl _, trivial⟩, ⟨.refl _, trivial⟩, t19 _ _ _ _ _ h1, .refl _, ⟨(bytes_eqv hb).2, .refl _, trivial⟩⟩
    · cases hp
def envD2 : Env := envD1.add 19 (ptrSp (fun cs xs => match xs with | [.int .i64 n] => preR cs | _ => false) (fun cs xs => match xs with | [.int .i64 n] => rd (fun s p => (.int .i64 (belowV s p n).1, (belowV s p n).2)) cs | _ => (.dflt, cs)))
theorem envD2_ok : EnvOK Try.prog envD2 := (Env.add_ok envD1_ok okBelow)
end Go.Proofs.Ytbnainbjcaekjaa.R
namespace Go.Proofs.Ytbnainbjcaekjaa.R
open Go
/-! ### function 22 -/
def T22 {ρ : Type} (ret : (Bool) → (Int) → Option ρ) (s : ByteArray) (p : Int) (n : Int) : Option ρ :=
 (bsel (isBytes (bytesF s) && rdOk (unBytes (bytesF s)) p)
 (ret ((belowV (unBytes (bytesF s)) p n).fst == IntKind.i64.wrap (n - 1)) ((belowV (unBytes (bytesF s)) p n).snd))
 none)
def G22 (s : ByteArray) (p : Int) (n : Int) : Option ((Bool) × (Int)) := T22 (fun r q => some (r, q)) s p n
theorem t22 (s : ByteArray) (p : Int) (n : Int) (r : Bool) (q : Int) (h : G22 s p n = some (r, q)) : EndsN Try.prog 1 Try.f22.results.toList [.code (bodyOf Try.f22)] (startN Try.f22.ntmps [U.hp 0 0, U.f (F.int .i64 n)] [HO.box [U.f (bytesF s), U.f (F.int .i64 p)]]) (F.tup [F.bool r, F.agg [bytesF s, F.int .i64 q]]) := by
  refine Ends.of_run tyOK envD2_ok (T := []) (n := 200) ?_
  have e : run Try.prog (tiOf Try.prog) envD2 [] 1 Try.f22.results.toList some 200 [.code (bodyOf Try.f22)] (startN Try.f22.ntmps [U.hp 0 0, U.f (F.int .i64 n)] [HO.box [U.f (bytesF s), U.f (F.int .i64 p)]]) = T22 (fun r q => some (.ret (F.tup [F.bool r, F.agg [bytesF s, F.int .i64 q]]))) s p n := by kernel_rfl
  rw [e]
  exact (good_sel h (fun _ h => good_ret (by cases h; rfl)) (fun _ h => nomatch h))
def onceV (s : ByteArray) (p n : Int) : Bool × Int := (G22 s p n).getD (false, 0)
theorem once_ok {s : ByteArray} {p : Int} (h : rdOk s p = true) (n : Int) : G22 s p n = some (onceV s p n) ∧ rdOk s (onceV s p n).2 = true := by
  obtain ⟨h1, h2, h3, h4⟩ := below_ok h n
  unfold onceV G22 T22
  simp only [unBytes_bytesF, isBytes_bytesF, h, h4, Bool.and_self, bsel_true, Option.getD_some]
  exact ⟨trivial, trivial⟩
theorem okOnce : SpOK Try.prog 22 (ptrSp (fun cs xs => match xs with | [.int .i64 n] => preR cs | _ => false) (fun cs xs => match xs with | [.int .i64 n] => rd (fun s p => (.bool (onceV s p n).1, (onceV s p n).2)) cs | _ => (.dflt, cs))) :=
  fn_ptr_at (c := bodyOf Try.f22) Try.func22 (by kernel_rfl) (by kernel_rfl) fun cs xs hp => by
    split at hp
    · rename_i n
      obtain ⟨b, p, rfl, hb, hr⟩ := preR_open hp
      obtain ⟨h1, _⟩ := once_ok hr n
      exact ⟨[bytesF (unBytes b), .int .i64 p], [.int .i64 n], _, _, ⟨(bytes_eqv hb).1, .refl _, trivial⟩, ⟨.refl _, trivial⟩, t22 _ _ _ _ _ h1, .refl _, ⟨(bytes_eqv hb).2, .refl _, trivial⟩⟩
    · cases hp
def envD3 : Env := envD2.add 22 (ptrSp (fun cs xs => match xs with | [.int .i64 n] => preR cs | _ => false) (fun cs xs => match xs with | [.int .i64 n] => rd (fun s p => (.bool (onceV s p n).1, (onceV s p n).2)) cs | _ => (.dflt, cs)))
theorem envD3_ok : EnvOK Try.prog envD3 := (Env.add_ok envD2_ok okOnce)
end Go.Proofs.Ytbnainbjcaekjaa.R
namespace Go.Proofs.Ytbnainbjcaekjaa.R
open Go
abbrev rdSp (pre : List F → Bool) (V : List F → ByteArray → Int → F × Int) : Sp := ptrSp (fun cs xs => preR cs && pre xs) (fun cs xs => rd (V xs) cs)
theorem ok_rd {f : FuncId} {fn : Func} {c : Code} (hf : Try.prog.funcs[f]? = some fn) (hb : fn.body = some c) (hname : (fn.name == "runtime.NumGoroutine") = false) {pre : List F → Bool} {V : List F → ByteArray → Int → F × Int}
    (h : ∀ xs s p, pre xs = true → rdOk s p = true → ∃ r, FLe r (V xs s p).1 ∧ EndsN Try.prog 1 fn.results.toList [.code c] (startN fn.ntmps (U.hp 0 0 :: xs.map U.f) [HO.box [U.f (bytesF s), U.f (F.int .i64 p)]]) (.tup [r, .agg [bytesF s, .int .i64 (V xs s p).2]])) :
    SpOK Try.prog f (rdSp pre V) :=
  fn_ptr_at hf hb hname fun cs xs hp => by
    simp only [Bool.and_eq_true] at hp
    obtain ⟨b, p, rfl, hb, hr⟩ := preR_open hp.1
    obtain ⟨r, h1, h2⟩ := h xs (unBytes b) p hp.2 hr
    exact ⟨[bytesF (unBytes b), .int .i64 p], xs, r, _, ⟨(bytes_eqv hb).1, .refl _, trivial⟩, FsLe.refl _, h2, h1, ⟨(bytes_eqv hb).2, .refl _, trivial⟩⟩
def isNone : List F → Bool | [] => true | _ => false
/-! ### function 49 -/
def S49_3 (s : ByteArray) (p : Int) (x3 : Int) (x4 : Int) : St := ⟨[(U.hp 0 0), .bad, .bad, (U.f (F.int .u64 x3)), (U.f (F.int .i64 x4)), .bad, .bad, .bad, .bad, .bad, .bad, .bad, .bad, .bad, .bad, .bad], [HO.box [U.f (bytesF s), U.f (F.int .i64 p)]]⟩
def T49_3 {ρ : Type} (ret : KJ53 ρ) (c3 : (ByteArray) → (Int) → (Int) → (Int) → Option ρ) (s : ByteArray) (p : Int) (x3 : Int) (x4 : Int) : Option ρ :=
 (bsel (decide (x4 < 8))
 (bsel (isBytes (bytesF s) && rdOk (unBytes (bytesF s)) p)
 (c3 (s) ((nextV (unBytes (bytesF s)) p).snd) (bitsOp BinOp.or IntKind.u64 (IntKind.u64.wrap (x3 * 2 ^ min (Int.toNat 8) IntKind.u64.bits)) (IntKind.u64.wrap (nextV (unBytes (bytesF s)) p).fst)) (IntKind.i64.wrap (x4 + 1)))
 none)
 (ret (x3) (p)))
def L49_3 : Nat → (ByteArray) → (Int) → (Int) → (Int) → Option ((Int) × (Int))
  | 0, _, _, _, _ => none
  | k + 1, s, p, x3, x4 => T49_3 (fun r q => some (r, q)) (L49_3 k) s p x3 x4
def T49 {ρ : Type} (ret : KJ53 ρ) (c3 : (ByteArray) → (Int) → (Int) → (Int) → Option ρ) (s : ByteArray) (p : Int) : Option ρ :=
 (c3 (s) (p) (0) (0))
def G49 (k : Nat) (s : ByteArray) (p : Int) : Option ((Int) × (Int)) := T49 (fun r q => some (r, q)) (L49_3 k) s p
theorem t49_3 : ∀ (k : Nat) (s : ByteArray) (p : Int) (x3 : Int) (x4 : Int) (r : Int) (q : Int), L49_3 k s p x3 x4 = some (r, q) → EndsN Try.prog 1 Try.f49.results.toList (at_ Try.f49 3) (S49_3 s p x3 x4) (F.tup [F.int .u64 r, F.agg [bytesF s, F.int .i64 q]])
  | 0, _, _, _, _, _, _, h => nomatch h
  | k + 1, s, p, x3, x4, r, q, h => by
    refine Ends.of_cut tyOK envD3_ok (T := [(3, [0, 3, 4], 1)]) (n := 200) ?_
    have e : runCut Try.prog (tiOf Try.prog) envD3 [(3, [0, 3, 4], 1)] 1 Try.f49.results.toList some 200 (at_ Try.f49 3) (S49_3 s p x3 x4) = T49_3 (fun r q => some (.ret (F.tup [F.int .u64 r, F.agg [bytesF s, F.int .i64 q]]))) (fun s p x3 x4 => some (.cut (at_ Try.f49 3) (S49_3 s p x3 x4))) s p x3 x4 := by kernel_rfl
    rw [e]
    exact (good_sel h (fun _ h => (good_sel h (fun _ h => good_cut (t49_3 k _ _ _ _ r q h)) (fun _ h => nomatch h))) (fun _ h => good_ret (by cases h; rfl)))
theorem t49 (k : Nat) (s : ByteArray) (p : Int) (r : Int) (q : Int) (h : G49 k s p = some (r, q)) : EndsN Try.prog 1 Try.f49.results.toList [.code (bodyOf Try.f49)] (startN Try.f49.ntmps [U.hp 0 0] [HO.box [U.f (bytesF s), U.f (F.int .i64 p)]]) (F.tup [F.int .u64 r, F.agg [bytesF s, F.int .i64 q]]) := by
  refine Ends.of_run tyOK envD3_ok (T := [(3, [0, 3, 4], 1)]) (n := 200) ?_
  have e : run Try.prog (tiOf Try.prog) envD3 [(3, [0, 3, 4], 1)] 1 Try.f49.results.toList some 200 [.code (bodyOf Try.f49)] (startN Try.f49.ntmps [U.hp 0 0] [HO.box [U.f (bytesF s), U.f (F.int .i64 p)]]) = T49 (fun r q => some (.ret (F.tup [F.int .u64 r, F.agg [bytesF s, F.int .i64 q]]))) (fun s p x3 x4 => some (.cut (at_ Try.f49 3) (S49_3 s p x3 x4))) s p := by kernel_rfl
  rw [e]
  exact good_cut (t49_3 k _ _ _ _ r q h)
theorem word_loop {s : ByteArray} : ∀ (d i : Nat) (p x : Int), i + d = 8 → rdOk s p = true → ∃ r q, L49_3 (d + 1) s p x i = some (r, q) ∧ rdOk s q = true
  | 0, i, p, x, h, hr => by
    obtain rfl : i = 8 := by omega
    have c1 : decide (((8 : Nat) : Int) < 8) = false := by decide
    exact ⟨x, p, by simp only [L49_3, T49_3, c1, bsel_false], hr⟩
  | d + 1, i, p, x, h, hr => by
    obtain ⟨h1, h2, h3, h4⟩ := next_ok hr
    have c1 : decide ((i : Int) < 8) = true := decide_eq_true (by omega)
    have e2 : IntKind.i64.wrap ((i : Int) + 1) = ((i + 1 : Nat) : Int) := by rw [wrapi (by omega) (by omega)]; omega
    rw [L49_3]
    simp only [T49_3, unBytes_bytesF, isBytes_bytesF, hr, c1, e2, Bool.and_self, bsel_true]
    exact word_loop d (i + 1) _ _ (by omega) h4
def wordV (s : ByteArray) (p : Int) : Int × Int := (G49 9 s p).getD (0, 0)
theorem word_ok {s : ByteArray} {p : Int} (h : rdOk s p = true) : G49 9 s p = some (wordV s p) ∧ rdOk s (wordV s p).2 = true := by
  obtain ⟨r, q, e, k⟩ := word_loop 8 0 p 0 (by omega) h
  have : G49 9 s p = some (r, q) := e
  unfold wordV
  rw [this]
  exact ⟨rfl, k⟩
theorem okWord : SpOK Try.prog 49 (rdSp isNone fun _ s p => (.int .u64 (wordV s p).1, (wordV s p).2)) :=
  ok_rd (c := bodyOf Try.f49) Try.func49 (by kernel_rfl) (by kernel_rfl) fun xs s p hx hr => match xs, hx with
  | [], _ => ⟨_, .refl _, t49 9 s p _ _ (word_ok hr).1⟩
def envD7 : Env := envD3.add 49 (rdSp isNone fun _ s p => (.int .u64 (wordV s p).1, (wordV s p).2))
theorem envD7_ok : EnvOK Try.prog envD7 := (Env.add_ok envD3_ok okWord)
end Go.Proofs.Ytbnainbjcaekjaa.R
namespace Go.Proofs.Ytbnainbjcaekjaa.R
open Go
/-! ### function 42 -/
def T42 {ρ : Type} (ret : KJ53 ρ) (s : ByteArray) (p : Int) (a : Int) (b : Int) : Option ρ :=
 (bsel (isBytes (bytesF s) && rdOk (unBytes (bytesF s)) p)
 (bsel ((belowV (unBytes (bytesF s)) p 8).fst == 0)
 (ret (a) ((belowV (unBytes (bytesF s)) p 8).snd))
 (bsel ((belowV (unBytes (bytesF s)) p 8).fst == 1)
 (ret (b) ((belowV (unBytes (bytesF s)) p 8).snd))
 (bsel (decide (b < a))
 (ret (a) ((belowV (unBytes (bytesF s)) p 8).snd))
 (bsel (isBytes (bytesF s) && rdOk (unBytes (bytesF s)) (belowV (unBytes (bytesF s)) p 8).snd && true)
 (bsel (IntKind.u64.wrap (IntKind.i64.wrap (IntKind.i64.wrap (b - a) + 1)) != 0)
 (ret (IntKind.i64.wrap (a + IntKind.i64.wrap (((wordV (unBytes (bytesF s)) (belowV (unBytes (bytesF s)) p 8).snd).fst.fdiv (2 ^ min (Int.toNat 1) IntKind.u64.bits)).tmod (IntKind.u64.wrap (IntKind.i64.wrap (IntKind.i64.wrap (b - a) + 1)))))) ((wordV (unBytes (bytesF s)) (belowV (unBytes (bytesF s)) p 8).snd).snd))
 none)
 none))))
 none)
def G42 (s : ByteArray) (p : Int) (a : Int) (b : Int) : Option ((Int) × (Int)) := T42 (fun r q => some (r, q)) s p a b
theorem t42 (s : ByteArray) (p : Int) (a : Int) (b : Int) (r : Int) (q : Int) (h : G42 s p a b = some (r, q)) : EndsN Try.prog 1 Try.f42.results.toList [.code (bodyOf Try.f42)] (startN Try.f42.ntmps [U.hp 0 0, U.f (F.int .i64 a), U.f (F.int .i64 b)] [HO.box [U.f (bytesF s), U.f (F.int .i64 p)]]) (F.tup [F.int .i64 r, F.agg [bytesF s, F.int .i64 q]]) := by
  refine Ends.of_run tyOK envD7_ok (T := []) (n := 200) ?_
  have e : run Try.prog (tiOf Try.prog) envD7 [] 1 Try.f42.results.toList some 200 [.code (bodyOf Try.f42)] (startN Try.f42.ntmps [U.hp 0 0, U.f (F.int .i64 a), U.f (F.int .i64 b)] [HO.box [U.f (bytesF s), U.f (F.int .i64 p)]]) = T42 (fun r q => some (.ret (F.tup [F.int .i64 r, F.agg [bytesF s, F.int .i64 q]]))) s p a b := by kernel_rfl
  rw [e]
  exact (good_sel h (fun _ h => (good_sel h (fun _ h => good_ret (by cases h; rfl)) (fun _ h => (good_sel h (fun _ h => good_ret (by cases h; rfl)) (fun _ h => (good_sel h (fun _ h => good_ret (by cases h; rfl)) (fun _ h => (good_sel h (fun _ h => (good_sel h (fun _ h => good_ret (by cases h; rfl)) (fun _ h => nomatch h))) (fun _ h => nomatch h))))))))) (fun _ h => nomatch h))
theorem wrapU64 {x : Int} (h0 : 0 ≤ x) (h1 : x ≤ 18446744073709551615) : IntKind.u64.wrap x = x := by
  unfold IntKind.wrap
  simp [IntKind.bits, IntKind.signed]
  omega
def isNear : List F → Bool
  | [.int .i64 a, .int .i64 b] => decide (-1099511627776 ≤ a ∧ a ≤ b ∧ b ≤ 1099511627776)
  | _ => false
def nearV (a b : Int) (s : ByteArray) (p : Int) : Int × Int := (G42 s p a b).getD (0, 0)
theorem near_ok {s : ByteArray} {p a b : Int} (h : rdOk s p = true) (hab : -1099511627776 ≤ a ∧ a ≤ b ∧ b ≤ 1099511627776) : G42 s p a b = some (nearV a b s p) ∧ rdOk s (nearV a b s p).2 = true := by
  obtain ⟨b1, b2, b3, b4⟩ := below_ok h 8
  obtain ⟨w1, w2⟩ := word_ok b4
  unfold nearV G42 T42
  have e : IntKind.u64.wrap (IntKind.i64.wrap (IntKind.i64.wrap (b - a) + 1)) = b - a + 1 := by
    rw [wrapi (x := b - a) (by omega) (by omega), wrapi (by omega) (by omega), wrapU64 (by omega) (by omega)]
  have c1 : (b - a + 1 != 0) = true := by simp; omega
  have c2 : decide (b < a) = false := decide_eq_false (by omega)
  simp only [unBytes_bytesF, isBytes_bytesF, h, b4, e, c1, c2, Bool.and_self, Bool.and_true, bsel_true, bsel_false]
  cases (belowV s p 8).1 == 0
  · simp only [bsel_false]
    cases (belowV s p 8).1 == 1
    · simp only [bsel_false, Option.getD_some]; exact ⟨trivial, w2⟩
    · simp only [bsel_true, Option.getD_some]; exact ⟨trivial, b4⟩
  · simp only [bsel_true, Option.getD_some]; exact ⟨trivial, b4⟩
def resNear : List F → ByteArray → Int → F × Int
  | [.int .i64 a, .int .i64 b], s, p => (.int .i64 (nearV a b s p).1, (nearV a b s p).2)
  | _, _, p => (.dflt, p)
theorem okNear : SpOK Try.prog 42 (rdSp isNear resNear) :=
  ok_rd (c := bodyOf Try.f42) Try.func42 (by kernel_rfl) (by kernel_rfl) fun xs s p hx hr => match xs, hx with
  | [.int .i64 a, .int .i64 b], hx => ⟨_, .refl _, t42 s p a b _ _ (near_ok hr (of_decide_eq_true hx)).1⟩
def envD8 : Env := envD7.add 42 (rdSp isNear resNear)
theorem envD8_ok : EnvOK Try.prog envD8 := (Env.add_ok envD7_ok okNear)
end Go.Proofs.Ytbnainbjcaekjaa.R
namespace Go.Proofs.Ytbnainbjcaekjaa.R
open Go
/-! ### function 38 -/
def T38 {ρ : Type} (ret : (Int) → (Int) → (Int) → Option ρ) (s : ByteArray) (p : Int) : Option ρ :=
 (bsel (isBytes (bytesF s) && rdOk (unBytes (bytesF s)) p && true)
 (bsel (isBytes (bytesF s) && rdOk (unBytes (bytesF s)) (resNear [F.int .i64 (-6), F.int .i64 6] (unBytes (bytesF s)) p).snd && true)
 (ret ((nearV (-6) 6 (unBytes (bytesF s)) p).fst) ((nearV (-6) 6 (unBytes (bytesF s)) (resNear [F.int .i64 (-6), F.int .i64 6] (unBytes (bytesF s)) p).snd).fst) ((resNear [F.int .i64 (-6), F.int .i64 6] (unBytes (bytesF s)) (resNear [F.int .i64 (-6), F.int .i64 6] (unBytes (bytesF s)) p).snd).snd))
 none)
 none)
def G38 (s : ByteArray) (p : Int) : Option ((Int) × (Int) × (Int)) := T38 (fun r r2 q => some (r, r2, q)) s p
theorem t38 (s : ByteArray) (p : Int) (r : Int) (r2 : Int) (q : Int) (h : G38 s p = some (r, r2, q)) : EndsN Try.prog 1 Try.f38.results.toList [.code (bodyOf Try.f38)] (startN Try.f38.ntmps [U.hp 0 0] [HO.box [U.f (bytesF s), U.f (F.int .i64 p)]]) (F.tup [F.agg [F.int .i64 r, F.int .i64 r2], F.agg [bytesF s, F.int .i64 q]]) := by
  refine Ends.of_run tyOK envD8_ok (T := []) (n := 200) ?_
  have e : run Try.prog (tiOf Try.prog) envD8 [] 1 Try.f38.results.toList some 200 [.code (bodyOf Try.f38)] (startN Try.f38.ntmps [U.hp 0 0] [HO.box [U.f (bytesF s), U.f (F.int .i64 p)]]) = T38 (fun r r2 q => some (.ret (F.tup [F.agg [F.int .i64 r, F.int .i64 r2], F.agg [bytesF s, F.int .i64 q]]))) s p := by kernel_rfl
  rw [e]
  exact (good_sel h (fun _ h => (good_sel h (fun _ h => good_ret (by cases h; rfl)) (fun _ h => nomatch h))) (fun _ h => nomatch h))
/-! ### function 41 -/
def T41 {ρ : Type} (ret : KJ53 ρ) (s : ByteArray) (p : Int) (a : Int) (b : Int) : Option ρ :=
 (bsel (isBytes (bytesF s) && rdOk (unBytes (bytesF s)) p)
 (bsel ((onceV (unBytes (bytesF s)) p 24).fst)
 (bsel (isBytes (bytesF s) && rdOk (unBytes (bytesF s)) (onceV (unBytes (bytesF s)) p 24).snd)
 (bsel (decide (0 ≤ (belowV (unBytes (bytesF s)) (onceV (unBytes (bytesF s)) p 24).snd 4).fst))
 (bsel (decide ((belowV (unBytes (bytesF s)) (onceV (unBytes (bytesF s)) p 24).snd 4).fst < ((4 : Nat) : Int)))
 (bsel (decide (0 + (belowV (unBytes (bytesF s)) (onceV (unBytes (bytesF s)) p 24).snd 4).fst.toNat < 4))
 (bsel (decide ((lget [F.int .i64 (IntKind.i64.wrap (a - 1)), F.int .i64 (IntKind.i64.wrap (b + 1)), F.int .i64 (-9223372036854775808), F.int .i64 9223372036854775807] (0 + (belowV (unBytes (bytesF s)) (onceV (unBytes (bytesF s)) p 24).snd 4).fst.toNat)).cells.length = 1))
 (bsel (okV (Value.int IntKind.i64 0) ((List.drop 0 (lget [F.int .i64 (IntKind.i64.wrap (a - 1)), F.int .i64 (IntKind.i64.wrap (b + 1)), F.int .i64 (-9223372036854775808), F.int .i64 9223372036854775807] (0 + (belowV (unBytes (bytesF s)) (onceV (unBytes (bytesF s)) p 24).snd 4).fst.toNat)).cells).headD F.dflt) && true)
 (ret (intOf ((List.drop 0 (lget [F.int .i64 (IntKind.i64.wrap (a - 1)), F.int .i64 (IntKind.i64.wrap (b + 1)), F.int .i64 (-9223372036854775808), F.int .i64 9223372036854775807] (0 + (belowV (unBytes (bytesF s)) (onceV (unBytes (bytesF s)) p 24).snd 4).fst.toNat)).cells).headD F.dflt)) ((belowV (unBytes (bytesF s)) (onceV (unBytes (bytesF s)) p 24).snd 4).snd))
 none)
 none)
 none)
 none)
 none)
 none)
 (bsel (isBytes (bytesF s) && rdOk (unBytes (bytesF s)) (onceV (unBytes (bytesF s)) p 24).snd && isNear [F.int .i64 a, F.int .i64 b])
 (ret ((nearV a b (unBytes (bytesF s)) (onceV (unBytes (bytesF s)) p 24).snd).fst) ((resNear [F.int .i64 a, F.int .i64 b] (unBytes (bytesF s)) (onceV (unBytes (bytesF s)) p 24).snd).snd))
 none))
 none)
def G41 (s : ByteArray) (p : Int) (a : Int) (b : Int) : Option ((Int) × (Int)) := T41 (fun r q => some (r, q)) s p a b
theorem t41 (s : ByteArray) (p : Int) (a : Int) (b : Int) (r : Int) (q : Int) (h : G41 s p a b = some (r, q)) : EndsN Try.prog 1 Try.f41.results.toList [.code (bodyOf Try.f41)] (startN Try.f41.ntmps [U.hp 0 0, U.f (F.int .i64 a), U.f (F.int .i64 b)] [HO.box [U.f (bytesF s), U.f (F.int .i64 p)]]) (F.tup [F.int .i64 r, F.agg [bytesF s, F.int .i64 q]]) := by
  refine Ends.of_run tyOK envD8_ok (T := []) (n := 200) ?_
  have e : run Try.prog (tiOf Try.prog) envD8 [] 1 Try.f41.results.toList some 200 [.code (bodyOf Try.f41)] (startN Try.f41.ntmps [U.hp 0 0, U.f (F.int .i64 a), U.f (F.int .i64 b)] [HO.box [U.f (bytesF s), U.f (F.int .i64 p)]]) = T41 (fun r q => some (.ret (F.tup [F.int .i64 r, F.agg [bytesF s, F.int .i64 q]]))) s p a b := by kernel_rfl
  rw [e]
  exact (good_sel h (fun _ h => (good_sel h (fun _ h => (good_sel h (fun _ h => (good_sel h (fun _ h => (good_sel h (fun _ h => (good_sel h (fun _ h => (good_sel h (fun _ h => (good_sel h (fun _ h => good_ret (by cases h; rfl)) (fun _ h => nomatch h))) (fun _ h => nomatch h))) (fun _ h => nomatch h))) (fun _ h => nomatch h))) (fun _ h => nomatch h))) (fun _ h => nomatch h))) (fun _ h => (good_sel h (fun _ h => good_ret (by cases h; rfl)) (fun _ h => nomatch h))))) (fun _ h => nomatch h))
def spotV (s : ByteArray) (p : Int) : Int × Int × Int := (G38 s p).getD (0, 0, 0)
theorem spot_ok {s : ByteArray} {p : Int} (h : rdOk s p = true) : G38 s p = some (spotV s p) ∧ rdOk s (spotV s p).2.2 = true := by
  obtain ⟨a1, a2⟩ := near_ok h (a := -6) (b := 6) (by omega)
  obtain ⟨b1, b2⟩ := near_ok a2 (a := -6) (b := 6) (by omega)
  unfold spotV G38 T38
  simp only [resNear, unBytes_bytesF, isBytes_bytesF, h, a2, Bool.and_self, Bool.and_true, bsel_true, Option.getD_some]
  exact ⟨trivial, b2⟩
def resSpot : List F → ByteArray → Int → F × Int := fun _ s p => (.agg [.int .i64 (spotV s p).1, .int .i64 (spotV s p).2.1], (spotV s p).2.2)
theorem okSpot : SpOK Try.prog 38 (rdSp isNone resSpot) :=
  ok_rd (c := bodyOf Try.f38) Try.func38 (by kernel_rfl) (by kernel_rfl) fun xs s p hx hr => match xs, hx with
  | [], hx => ⟨_, .refl _, t38 s p _ _ _ (spot_ok hr).1⟩
def offV (a b : Int) (s : ByteArray) (p : Int) : Int × Int := (G41 s p a b).getD (0, 0)
theorem off_ok {s : ByteArray} {p a b : Int} (h : rdOk s p = true) (hab : -1099511627776 ≤ a ∧ a ≤ b ∧ b ≤ 1099511627776) : G41 s p a b = some (offV a b s p) ∧ rdOk s (offV a b s p).2 = true := by
  obtain ⟨o1, o2⟩ := once_ok h 24
  obtain ⟨b1, b2, b3, b4⟩ := below_ok o2 4
  obtain ⟨n1, n2⟩ := near_ok o2 hab
  have hn : isNear [F.int .i64 a, F.int .i64 b] = true := decide_eq_true hab
  unfold offV G41 T41
  simp only [resNear, unBytes_bytesF, isBytes_bytesF, h, o2, hn, Bool.and_self, Bool.and_true, bsel_true]
  cases (onceV s p 24).1 with
  | false => simp only [bsel_false, Option.getD_some]; exact ⟨trivial, n2⟩
  | true =>
    simp only [bsel_true]
    have hk : (belowV s (onceV s p 24).2 4).1 = 0 ∨ (belowV s (onceV s p 24).2 4).1 = 1 ∨ (belowV s (onceV s p 24).2 4).1 = 2 ∨ (belowV s (onceV s p 24).2 4).1 = 3 := by omega
    generalize (belowV s (onceV s p 24).2 4).1 = k at hk b2
    rcases hk with rfl | rfl | rfl | rfl <;> exact ⟨rfl, b4⟩
def resOff : List F → ByteArray → Int → F × Int
  | [.int .i64 a, .int .i64 b], s, p => (.int .i64 (offV a b s p).1, (offV a b s p).2)
  | _, _, p => (.dflt, p)
theorem okOff : SpOK Try.prog 41 (rdSp isNear resOff) :=
  ok_rd (c := bodyOf Try.f41) Try.func41 (by kernel_rfl) (by kernel_rfl) fun xs s p hx hr => match xs, hx with
  | [.int .i64 a, .int .i64 b], hx => ⟨_, .refl _, t41 s p a b _ _ (off_ok hr (of_decide_eq_true hx)).1⟩
def envD9 : Env := (envD8.add 38 (rdSp isNone resSpot)).add 41 (rdSp isNear resOff)
theorem envD9_ok : EnvOK Try.prog envD9 := (Env.add_ok (Env.add_ok envD8_ok okSpot) okOff)
end Go.Proofs.Ytbnainbjcaekjaa.R
namespace Go.Proofs.Ytbnainbjcaekjaa.R
open Go
def envD10a : Env := (envD9.add 44 (.pure pre2p resLess)).add 27 (.pure pre1s resSegOk)
theorem envD10a_ok : EnvOK Try.prog envD10a := (Env.add_ok (Env.add_ok envD9_ok okLess.sp) okSegOkS.sp)
end Go.Proofs.Ytbnainbjcaekjaa.R
namespace Go.Proofs.Ytbnainbjcaekjaa.R
open Go
/-! ### function 39 -/
def T39 {ρ : Type} (ret : (Int) → (Int) → (Int) → (Int) → (Bool) → Option ρ) (x0 : Int) (y0 : Int) (x1 : Int) (y1 : Int) : Option ρ :=
 (bsel (lessV x1 y1 x0 y0)
 (bsel (!segOkV x1 y1 x0 y0)
 (ret (0) (0) (0) (0) (false))
 (ret (x1) (y1) (x0) (y0) (true)))
 (bsel (!segOkV x0 y0 x1 y1)
 (ret (0) (0) (0) (0) (false))
 (ret (x0) (y0) (x1) (y1) (true))))
def G39 (x0 : Int) (y0 : Int) (x1 : Int) (y1 : Int) : Option ((Int) × (Int) × (Int) × (Int) × (Bool)) := T39 (fun rx0 ry0 rx1 ry1 rb => some (rx0, ry0, rx1, ry1, rb)) x0 y0 x1 y1
theorem t39 (x0 : Int) (y0 : Int) (x1 : Int) (y1 : Int) (rx0 : Int) (ry0 : Int) (rx1 : Int) (ry1 : Int) (rb : Bool) (h : G39 x0 y0 x1 y1 = some (rx0, ry0, rx1, ry1, rb)) : Ends Try.prog Try.f39.results.toList [.code (bodyOf Try.f39)] (start Try.f39.ntmps ([F.agg [F.int .i64 x0, F.int .i64 y0], F.agg [F.int .i64 x1, F.int .i64 y1]].map .f)) (F.tup [F.agg [F.int .i64 rx0, F.int .i64 ry0, F.int .i64 rx1, F.int .i64 ry1], F.bool rb]) := by
  refine Ends.of_run tyOK envD10a_ok (T := []) (n := 200) ?_
  have e : run Try.prog (tiOf Try.prog) envD10a [] 0 Try.f39.results.toList some 200 [.code (bodyOf Try.f39)] (start Try.f39.ntmps ([F.agg [F.int .i64 x0, F.int .i64 y0], F.agg [F.int .i64 x1, F.int .i64 y1]].map .f)) = T39 (fun rx0 ry0 rx1 ry1 rb => some (.ret (F.tup [F.agg [F.int .i64 rx0, F.int .i64 ry0, F.int .i64 rx1, F.int .i64 ry1], F.bool rb]))) x0 y0 x1 y1 := by kernel_rfl
  rw [e]
  exact (good_sel h (fun _ h => (good_sel h (fun _ h => good_ret (by cases h; rfl)) (fun _ h => good_ret (by cases h; rfl)))) (fun _ h => (good_sel h (fun _ h => good_ret (by cases h; rfl)) (fun _ h => good_ret (by cases h; rfl)))))
def segOfV (x0 y0 x1 y1 : Int) : Sg × Bool := match G39 x0 y0 x1 y1 with
  | some (a, b, c, d, e) => (⟨a, b, c, d⟩, e)
  | none => (.zero, false)
theorem segOf_ok (x0 y0 x1 y1 : Int) : G39 x0 y0 x1 y1 = some ((segOfV x0 y0 x1 y1).1.x0, (segOfV x0 y0 x1 y1).1.y0, (segOfV x0 y0 x1 y1).1.x1, (segOfV x0 y0 x1 y1).1.y1, (segOfV x0 y0 x1 y1).2) := by
  unfold segOfV G39 T39
  cases lessV x1 y1 x0 y0 <;> cases segOkV x1 y1 x0 y0 <;> cases segOkV x0 y0 x1 y1 <;> rfl
def resSegOf : List F → F | [.agg [.int .i64 a, .int .i64 b], .agg [.int .i64 c, .int .i64 d]] => .tup [.agg [.int .i64 (segOfV a b c d).1.x0, .int .i64 (segOfV a b c d).1.y0, .int .i64 (segOfV a b c d).1.x1, .int .i64 (segOfV a b c d).1.y1], .bool (segOfV a b c d).2] | _ => .dflt
theorem okSegOf : PureOK Try.prog 39 pre2p resSegOf :=
  fn_pure (c := bodyOf Try.f39) Try.func39 (by kernel_rfl) (by kernel_rfl) fun xs hp => match xs, hp with
  | [.agg [.int .i64 a, .int .i64 b], .agg [.int .i64 c, .int .i64 d]], hp => t39 a b c d _ _ _ _ _ (segOf_ok a b c d)
def envD10 : Env := envD10a.add 39 (.pure pre2p resSegOf)
theorem envD10_ok : EnvOK Try.prog envD10 := (Env.add_ok envD10a_ok okSegOf.sp)
end Go.Proofs.Ytbnainbjcaekjaa.R
namespace Go.Proofs.Ytbnainbjcaekjaa.R
open Go
/-! ### function 24 -/
def T24 {ρ : Type} (ret : (Int) → (Int) → (Int) → (Int) → (Int) → Option ρ) (s : ByteArray) (p : Int) : Option ρ :=
 (bsel (isBytes (bytesF s) && rdOk (unBytes (bytesF s)) p)
 (bsel ((belowV (unBytes (bytesF s)) p 20).fst == 0)
 (bsel (isBytes (bytesF s) && rdOk (unBytes (bytesF s)) (belowV (unBytes (bytesF s)) p 20).snd && true)
 (bsel (isBytes (bytesF s) && rdOk (unBytes (bytesF s)) (resOff [F.int .i64 (-1000000), F.int .i64 1000000] (unBytes (bytesF s)) (belowV (unBytes (bytesF s)) p 20).snd).snd && true)
 (bsel (isBytes (bytesF s) && rdOk (unBytes (bytesF s)) (resOff [F.int .i64 (-1000000), F.int .i64 1000000] (unBytes (bytesF s)) (resOff [F.int .i64 (-1000000), F.int .i64 1000000] (unBytes (bytesF s)) (belowV (unBytes (bytesF s)) p 20).snd).snd).snd && true)
 (bsel (isBytes (bytesF s) && rdOk (unBytes (bytesF s)) (resOff [F.int .i64 (-1000000), F.int .i64 1000000] (unBytes (bytesF s)) (resOff [F.int .i64 (-1000000), F.int .i64 1000000] (unBytes (bytesF s)) (resOff [F.int .i64 (-1000000), F.int .i64 1000000] (unBytes (bytesF s)) (belowV (unBytes (bytesF s)) p 20).snd).snd).snd).snd && true)
 (ret ((offV (-1000000) 1000000 (unBytes (bytesF s)) (belowV (unBytes (bytesF s)) p 20).snd).fst) ((offV (-1000000) 1000000 (unBytes (bytesF s)) (resOff [F.int .i64 (-1000000), F.int .i64 1000000] (unBytes (bytesF s)) (belowV (unBytes (bytesF s)) p 20).snd).snd).fst) ((offV (-1000000) 1000000 (unBytes (bytesF s)) (resOff [F.int .i64 (-1000000), F.int .i64 1000000] (unBytes (bytesF s)) (resOff [F.int .i64 (-1000000), F.int .i64 1000000] (unBytes (bytesF s)) (belowV (unBytes (bytesF s)) p 20).snd).snd).snd).fst) ((offV (-1000000) 1000000 (unBytes (bytesF s)) (resOff [F.int .i64 (-1000000), F.int .i64 1000000] (unBytes (bytesF s)) (resOff [F.int .i64 (-1000000), F.int .i64 1000000] (unBytes (bytesF s)) (resOff [F.int .i64 (-1000000), F.int .i64 1000000] (unBytes (bytesF s)) (belowV (unBytes (bytesF s)) p 20).snd).snd).snd).snd).fst) ((resOff [F.int .i64 (-1000000), F.int .i64 1000000] (unBytes (bytesF s)) (resOff [F.int .i64 (-1000000), F.int .i64 1000000] (unBytes (bytesF s)) (resOff [F.int .i64 (-1000000), F.int .i64 1000000] (unBytes (bytesF s)) (resOff [F.int .i64 (-1000000), F.int .i64 1000000] (unBytes (bytesF s)) (belowV (unBytes (bytesF s)) p 20).snd).snd).snd).snd).snd))
 none)
 none)
 none)
 none)
 (bsel ((belowV (unBytes (bytesF s)) p 20).fst == 1)
 (bsel (isBytes (bytesF s) && rdOk (unBytes (bytesF s)) (belowV (unBytes (bytesF s)) p 20).snd && true)
 (bsel (isBytes (bytesF s) && rdOk (unBytes (bytesF s)) (resNear [F.int .i64 (-1000000), F.int .i64 1000000] (unBytes (bytesF s)) (belowV (unBytes (bytesF s)) p 20).snd).snd && true)
 (bsel (isBytes (bytesF s) && rdOk (unBytes (bytesF s)) (resNear [F.int .i64 (-1000000), F.int .i64 1000000] (unBytes (bytesF s)) (resNear [F.int .i64 (-1000000), F.int .i64 1000000] (unBytes (bytesF s)) (belowV (unBytes (bytesF s)) p 20).snd).snd).snd && true)
 (bsel (isBytes (bytesF s) && rdOk (unBytes (bytesF s)) (resNear [F.int .i64 (-1000000), F.int .i64 1000000] (unBytes (bytesF s)) (resNear [F.int .i64 (-1000000), F.int .i64 1000000] (unBytes (bytesF s)) (resNear [F.int .i64 (-1000000), F.int .i64 1000000] (unBytes (bytesF s)) (belowV (unBytes (bytesF s)) p 20).snd).snd).snd).snd && true)
 (ret ((segOfV (nearV (-1000000) 1000000 (unBytes (bytesF s)) (belowV (unBytes (bytesF s)) p 20).snd).fst (nearV (-1000000) 1000000 (unBytes (bytesF s)) (resNear [F.int .i64 (-1000000), F.int .i64 1000000] (unBytes (bytesF s)) (belowV (unBytes (bytesF s)) p 20).snd).snd).fst (nearV (-1000000) 1000000 (unBytes (bytesF s)) (resNear [F.int .i64 (-1000000), F.int .i64 1000000] (unBytes (bytesF s)) (resNear [F.int .i64 (-1000000), F.int .i64 1000000] (unBytes (bytesF s)) (belowV (unBytes (bytesF s)) p 20).snd).snd).snd).fst (nearV (-1000000) 1000000 (unBytes (bytesF s)) (resNear [F.int .i64 (-1000000), F.int .i64 1000000] (unBytes (bytesF s)) (resNear [F.int .i64 (-1000000), F.int .i64 1000000] (unBytes (bytesF s)) (resNear [F.int .i64 (-1000000), F.int .i64 1000000] (unBytes (bytesF s)) (belowV (unBytes (bytesF s)) p 20).snd).snd).snd).snd).fst).fst.x0) ((segOfV (nearV (-1000000) 1000000 (unBytes (bytesF s)) (belowV (unBytes (bytesF s)) p 20).snd).fst (nearV (-1000000) 1000000 (unBytes (bytesF s)) (resNear [F.int .i64 (-1000000), F.int .i64 1000000] (unBytes (bytesF s)) (belowV (unBytes (bytesF s)) p 20).snd).snd).fst (nearV (-1000000) 1000000 (unBytes (bytesF s)) (resNear [F.int .i64 (-1000000), F.int .i64 1000000] (unBytes (bytesF s)) (resNear [F.int .i64 (-1000000), F.int .i64 1000000] (unBytes (bytesF s)) (belowV (unBytes (bytesF s)) p 20).snd).snd).snd).fst (nearV (-1000000) 1000000 (unBytes (bytesF s)) (resNear [F.int .i64 (-1000000), F.int .i64 1000000] (unBytes (bytesF s)) (resNear [F.int .i64 (-1000000), F.int .i64 1000000] (unBytes (bytesF s)) (resNear [F.int .i64 (-1000000), F.int .i64 1000000] (unBytes (bytesF s)) (belowV (unBytes (bytesF s)) p 20).snd).snd).snd).snd).fst).fst.y0) ((segOfV (nearV (-1000000) 1000000 (unBytes (bytesF s)) (belowV (unBytes (bytesF s)) p 20).snd).fst (nearV (-1000000) 1000000 (unBytes (bytesF s)) (resNear [F.int .i64 (-1000000), F.int .i64 1000000] (unBytes (bytesF s)) (belowV (unBytes (bytesF s)) p 20).snd).snd).fst (nearV (-1000000) 1000000 (unBytes (bytesF s)) (resNear [F.int .i64 (-1000000), F.int .i64 1000000] (unBytes (bytesF s)) (resNear [F.int .i64 (-1000000), F.int .i64 1000000] (unBytes (bytesF s)) (belowV (unBytes (bytesF s)) p 20).snd).snd).snd).fst (nearV (-1000000) 1000000 (unBytes (bytesF s)) (resNear [F.int .i64 (-1000000), F.int .i64 1000000] (unBytes (bytesF s)) (resNear [F.int .i64 (-1000000), F.int .i64 1000000] (unBytes (bytesF s)) (resNear [F.int .i64 (-1000000), F.int .i64 1000000] (unBytes (bytesF s)) (belowV (unBytes (bytesF s)) p 20).snd).snd).snd).snd).fst).fst.x1) ((segOfV (nearV (-1000000) 1000000 (unBytes (bytesF s)) (belowV (unBytes (bytesF s)) p 20).snd).fst (nearV (-1000000) 1000000 (unBytes (bytesF s)) (resNear [F.int .i64 (-1000000), F.int .i64 1000000] (unBytes (bytesF s)) (belowV (unBytes (bytesF s)) p 20).snd).snd).fst (nearV (-1000000) 1000000 (unBytes (bytesF s)) (resNear [F.int .i64 (-1000000), F.int .i64 1000000] (unBytes (bytesF s)) (resNear [F.int .i64 (-1000000), F.int .i64 1000000] (unBytes (bytesF s)) (belowV (unBytes (bytesF s)) p 20).snd).snd).snd).fst (nearV (-1000000) 1000000 (unBytes (bytesF s)) (resNear [F.int .i64 (-1000000), F.int .i64 1000000] (unBytes (bytesF s)) (resNear [F.int .i64 (-1000000), F.int .i64 1000000] (unBytes (bytesF s)) (resNear [F.int .i64 (-1000000), F.int .i64 1000000] (unBytes (bytesF s)) (belowV (unBytes (bytesF s)) p 20).snd).snd).snd).snd).fst).fst.y1) ((resNear [F.int .i64 (-1000000), F.int .i64 1000000] (unBytes (bytesF s)) (resNear [F.int .i64 (-1000000), F.int .i64 1000000] (unBytes (bytesF s)) (resNear [F.int .i64 (-1000000), F.int .i64 1000000] (unBytes (bytesF s)) (resNear [F.int .i64 (-1000000), F.int .i64 1000000] (unBytes (bytesF s)) (belowV (unBytes (bytesF s)) p 20).snd).snd).snd).snd).snd))
 none)
 none)
 none)
 none)
 (bsel ((belowV (unBytes (bytesF s)) p 20).fst == 2)
 (bsel (isBytes (bytesF s) && rdOk (unBytes (bytesF s)) (belowV (unBytes (bytesF s)) p 20).snd && true)
 (bsel (isBytes (bytesF s) && rdOk (unBytes (bytesF s)) (resSpot [] (unBytes (bytesF s)) (belowV (unBytes (bytesF s)) p 20).snd).snd && true)
 (ret ((spotV (unBytes (bytesF s)) (belowV (unBytes (bytesF s)) p 20).snd).fst) ((spotV (unBytes (bytesF s)) (belowV (unBytes (bytesF s)) p 20).snd).snd.fst) ((spotV (unBytes (bytesF s)) (resSpot [] (unBytes (bytesF s)) (belowV (unBytes (bytesF s)) p 20).snd).snd).fst) ((spotV (unBytes (bytesF s)) (resSpot [] (unBytes (bytesF s)) (belowV (unBytes (bytesF s)) p 20).snd).snd).snd.fst) ((resSpot [] (unBytes (bytesF s)) (resSpot [] (unBytes (bytesF s)) (belowV (unBytes (bytesF s)) p 20).snd).snd).snd))
 none)
 none)
 (bsel (isBytes (bytesF s) && rdOk (unBytes (bytesF s)) (belowV (unBytes (bytesF s)) p 20).snd && true)
 (bsel (isBytes (bytesF s) && rdOk (unBytes (bytesF s)) (resSpot [] (unBytes (bytesF s)) (belowV (unBytes (bytesF s)) p 20).snd).snd && true)
 (bsel ((spotV (unBytes (bytesF s)) (belowV (unBytes (bytesF s)) p 20).snd).fst == (spotV (unBytes (bytesF s)) (resSpot [] (unBytes (bytesF s)) (belowV (unBytes (bytesF s)) p 20).snd).snd).fst && ((spotV (unBytes (bytesF s)) (belowV (unBytes (bytesF s)) p 20).snd).snd.fst == (spotV (unBytes (bytesF s)) (resSpot [] (unBytes (bytesF s)) (belowV (unBytes (bytesF s)) p 20).snd).snd).snd.fst && true))
 (ret ((segOfV (spotV (unBytes (bytesF s)) (belowV (unBytes (bytesF s)) p 20).snd).fst (spotV (unBytes (bytesF s)) (belowV (unBytes (bytesF s)) p 20).snd).snd.fst (IntKind.i64.wrap ((spotV (unBytes (bytesF s)) (resSpot [] (unBytes (bytesF s)) (belowV (unBytes (bytesF s)) p 20).snd).snd).fst + 1)) (spotV (unBytes (bytesF s)) (resSpot [] (unBytes (bytesF s)) (belowV (unBytes (bytesF s)) p 20).snd).snd).snd.fst).fst.x0) ((segOfV (spotV (unBytes (bytesF s)) (belowV (unBytes (bytesF s)) p 20).snd).fst (spotV (unBytes (bytesF s)) (belowV (unBytes (bytesF s)) p 20).snd).snd.fst (IntKind.i64.wrap ((spotV (unBytes (bytesF s)) (resSpot [] (unBytes (bytesF s)) (belowV (unBytes (bytesF s)) p 20).snd).snd).fst + 1)) (spotV (unBytes (bytesF s)) (resSpot [] (unBytes (bytesF s)) (belowV (unBytes (bytesF s)) p 20).snd).snd).snd.fst).fst.y0) ((segOfV (spotV (unBytes (bytesF s)) (belowV (unBytes (bytesF s)) p 20).snd).fst (spotV (unBytes (bytesF s)) (belowV (unBytes (bytesF s)) p 20).snd).snd.fst (IntKind.i64.wrap ((spotV (unBytes (bytesF s)) (resSpot [] (unBytes (bytesF s)) (belowV (unBytes (bytesF s)) p 20).snd).snd).fst + 1)) (spotV (unBytes (bytesF s)) (resSpot [] (unBytes (bytesF s)) (belowV (unBytes (bytesF s)) p 20).snd).snd).snd.fst).fst.x1) ((segOfV (spotV (unBytes (bytesF s)) (belowV (unBytes (bytesF s)) p 20).snd).fst (spotV (unBytes (bytesF s)) (belowV (unBytes (bytesF s)) p 20).snd).snd.fst (IntKind.i64.wrap ((spotV (unBytes (bytesF s)) (resSpot [] (unBytes (bytesF s)) (belowV (unBytes (bytesF s)) p 20).snd).snd).fst + 1)) (spotV (unBytes (bytesF s)) (resSpot [] (unBytes (bytesF s)) (belowV (unBytes (bytesF s)) p 20).snd).snd).snd.fst).fst.y1) ((resSpot [] (unBytes (bytesF s)) (resSpot [] (unBytes (bytesF s)) (belowV (unBytes (bytesF s)) p 20).snd).snd).snd))
 (ret ((segOfV (spotV (unBytes (bytesF s)) (belowV (unBytes (bytesF s)) p 20).snd).fst (spotV (unBytes (bytesF s)) (belowV (unBytes (bytesF s)) p 20).snd).snd.fst (spotV (unBytes (bytesF s)) (resSpot [] (unBytes (bytesF s)) (belowV (unBytes (bytesF s)) p 20).snd).snd).fst (spotV (unBytes (bytesF s)) (resSpot [] (unBytes (bytesF s)) (belowV (unBytes (bytesF s)) p 20).snd).snd).snd.fst).fst.x0) ((segOfV (spotV (unBytes (bytesF s)) (belowV (unBytes (bytesF s)) p 20).snd).fst (spotV (unBytes (bytesF s)) (belowV (unBytes (bytesF s)) p 20).snd).snd.fst (spotV (unBytes (bytesF s)) (resSpot [] (unBytes (bytesF s)) (belowV (unBytes (bytesF s)) p 20).snd).snd).fst (spotV (unBytes (bytesF s)) (resSpot [] (unBytes (bytesF s)) (belowV (unBytes (bytesF s)) p 20).snd).snd).snd.fst).fst.y0) ((segOfV (spotV (unBytes (bytesF s)) (belowV (unBytes (bytesF s)) p 20).snd).fst (spotV (unBytes (bytesF s)) (belowV (unBytes (bytesF s)) p 20).snd).snd.fst (spotV (unBytes (bytesF s)) (resSpot [] (unBytes (bytesF s)) (belowV (unBytes (bytesF s)) p 20).snd).snd).fst (spotV (unBytes (bytesF s)) (resSpot [] (unBytes (bytesF s)) (belowV (unBytes (bytesF s)) p 20).snd).snd).snd.fst).fst.x1) ((segOfV (spotV (unBytes (bytesF s)) (belowV (unBytes (bytesF s)) p 20).snd).fst (spotV (unBytes (bytesF s)) (belowV (unBytes (bytesF s)) p 20).snd).snd.fst (spotV (unBytes (bytesF s)) (resSpot [] (unBytes (bytesF s)) (belowV (unBytes (bytesF s)) p 20).snd).snd).fst (spotV (unBytes (bytesF s)) (resSpot [] (unBytes (bytesF s)) (belowV (unBytes (bytesF s)) p 20).snd).snd).snd.fst).fst.y1) ((resSpot [] (unBytes (bytesF s)) (resSpot [] (unBytes (bytesF s)) (belowV (unBytes (bytesF s)) p 20).snd).snd).snd)))
 none)
 none))))
 none)
def G24 (s : ByteArray) (p : Int) : Option ((Int) × (Int) × (Int) × (Int) × (Int)) := T24 (fun rx0 ry0 rx1 ry1 q => some (rx0, ry0, rx1, ry1, q)) s p
theorem t24 (s : ByteArray) (p : Int) (rx0 : Int) (ry0 : Int) (rx1 : Int) (ry1 : Int) (q : Int) (h : G24 s p = some (rx0, ry0, rx1, ry1, q)) : EndsN Try.prog 1 Try.f24.results.toList [.code (bodyOf Try.f24)] (startN Try.f24.ntmps [U.hp 0 0] [HO.box [U.f (bytesF s), U.f (F.int .i64 p)]]) (F.tup [F.agg [F.int .i64 rx0, F.int .i64 ry0, F.int .i64 rx1, F.int .i64 ry1], F.agg [bytesF s, F.int .i64 q]]) := by
  refine Ends.of_run tyOK envD10_ok (T := []) (n := 200) ?_
  have e : run Try.prog (tiOf Try.prog) envD10 [] 1 Try.f24.results.toList some 200 [.code (bodyOf Try.f24)] (startN Try.f24.ntmps [U.hp 0 0] [HO.box [U.f (bytesF s), U.f (F.int .i64 p)]]) = T24 (fun rx0 ry0 rx1 ry1 q => some (.ret (F.tup [F.agg [F.int .i64 rx0, F.int .i64 ry0, F.int .i64 rx1, F.int .i64 ry1], F.agg [bytesF s, F.int .i64 q]]))) s p := by kernel_rfl
  rw [e]
  exact (good_sel h (fun _ h => (good_sel h (fun _ h => (good_sel h (fun _ h => (good_sel h (fun _ h => (good_sel h (fun _ h => (good_sel h (fun _ h => good_ret (by cases h; rfl)) (fun _ h => nomatch h))) (fun _ h => nomatch h))) (fun _ h => nomatch h))) (fun _ h => nomatch h))) (fun _ h => (good_sel h (fun _ h => (good_sel h (fun _ h => (good_sel h (fun _ h => (good_sel h (fun _ h => (good_sel h (fun _ h => good_ret (by cases h; rfl)) (fun _ h => nomatch h))) (fun _ h => nomatch h))) (fun _ h => nomatch h))) (fun _ h => nomatch h))) (fun _ h => (good_sel h (fun _ h => (good_sel h (fun _ h => (good_sel h (fun _ h => good_ret (by cases h; rfl)) (fun _ h => nomatch h))) (fun _ h => nomatch h))) (fun _ h => (good_sel h (fun _ h => (good_sel h (fun _ h => (good_sel h (fun _ h => good_ret (by cases h; rfl)) (fun _ h => good_ret (by cases h; rfl)))) (fun _ h => nomatch h))) (fun _ h => nomatch h))))))))) (fun _ h => nomatch h))
def segV (s : ByteArray) (p : Int) : Int × Int × Int × Int × Int := (G24 s p).getD (0, 0, 0, 0, 0)
theorem seg_ok {s : ByteArray} {p : Int} (h : rdOk s p = true) : G24 s p = some (segV s p) ∧ rdOk s (segV s p).2.2.2.2 = true := by
  obtain ⟨b1, b2, b3, b4⟩ := below_ok h 20
  have hab : -1099511627776 ≤ (-1000000 : Int) ∧ (-1000000 : Int) ≤ 1000000 ∧ (1000000 : Int) ≤ 1099511627776 := by omega
  obtain ⟨_, o1⟩ := off_ok b4 hab
  obtain ⟨_, o2⟩ := off_ok o1 hab
  obtain ⟨_, o3⟩ := off_ok o2 hab
  obtain ⟨_, o4⟩ := off_ok o3 hab
  obtain ⟨_, n1⟩ := near_ok b4 hab
  obtain ⟨_, n2⟩ := near_ok n1 hab
  obtain ⟨_, n3⟩ := near_ok n2 hab
  obtain ⟨_, n4⟩ := near_ok n3 hab
  obtain ⟨_, s1⟩ := spot_ok b4
  obtain ⟨_, s2⟩ := spot_ok s1
  unfold segV G24 T24
  simp only [resSpot, resOff, resNear, unBytes_bytesF, isBytes_bytesF, h, b4, o1, o2, o3, n1, n2, n3, s1, Bool.and_self, Bool.and_true, bsel_true]
  generalize ((belowV s p 20).1 == 0) = c1
  cases c1 with
  | true => simp only [bsel_true, Option.getD_some]; exact ⟨trivial, o4⟩
  | false =>
    simp only [bsel_false]
    generalize ((belowV s p 20).1 == 1) = c2
    cases c2 with
    | true => simp only [bsel_true, Option.getD_some]; exact ⟨trivial, n4⟩
    | false =>
      simp only [bsel_false]
      generalize ((belowV s p 20).1 == 2) = c3
      cases c3 with
      | true => simp only [bsel_true, Option.getD_some]; exact ⟨trivial, s2⟩
      | false =>
        simp only [bsel_false]
        cases (spotV s (belowV s p 20).2).1 == (spotV s (spotV s (belowV s p 20).2).2.2).1 <;> cases (spotV s (belowV s p 20).2).2.1 == (spotV s (spotV s (belowV s p 20).2).2.2).2.1 <;>
          (simp only [Bool.and_self, Bool.and_true, Bool.and_false, Bool.false_and, Bool.true_and, bsel_true, bsel_false, Option.getD_some]; exact ⟨trivial, s2⟩)
def resSeg : List F → ByteArray → Int → F × Int := fun _ s p => (.agg [.int .i64 (segV s p).1, .int .i64 (segV s p).2.1, .int .i64 (segV s p).2.2.1, .int .i64 (segV s p).2.2.2.1], (segV s p).2.2.2.2)
theorem okSeg : SpOK Try.prog 24 (rdSp isNone resSeg) :=
  ok_rd (c := bodyOf Try.f24) Try.func24 (by kernel_rfl) (by kernel_rfl) fun xs s p hx hr => match xs, hx with
  | [], hx => ⟨_, .refl _, t24 s p _ _ _ _ _ (seg_ok hr).1⟩
def envD11 : Env := envD10.add 24 (rdSp isNone resSeg)
theorem envD11_ok : EnvOK Try.prog envD11 := (Env.add_ok envD10_ok okSeg)
end Go.Proofs.Ytbnainbjcaekjaa.R
namespace Go.Proofs.Ytbnainbjcaekjaa.R
open Go
noncomputable section
def Env.or (C D : Env) : Env := fun f => match C f with
  | .none => D f
  | s => s
theorem Env.or_ok {P : Program} {C D : Env} (h : EnvOK P C) (k : EnvOK P D) : EnvOK P (C.or D) := by
  intro f
  have h1 := h f
  have k1 := k f
  unfold Env.or
  cases hc : C f <;> rw [hc] at h1 <;> first | exact k1 | exact h1
def envB0 : Env := envD11.or envQ9
theorem envB0_ok : EnvOK Try.prog envB0 := Env.or_ok envD11_ok envQ9_ok
end
end Go.Proofs.Ytbnainbjcaekjaa.R
namespace Go.Proofs.Ytbnainbjcaekjaa.R
open Go
noncomputable section
/-! A rising list with a number in it. -/
def withS (n : Int) (s : List Int × Bool) (x : Int) : List Int × Bool :=
  bif !s.2 && decide (x ≥ n) then (bif x != n then (s.1 ++ [n] ++ [x], true) else (s.1 ++ [n], true)) else (bif x != n then (s.1 ++ [x], s.2) else s)
def withGo (n : Int) (l : List Int) (s : List Int × Bool) : List Int × Bool := l.foldl (withS n) s
def withEnd (n : Int) (s : List Int × Bool) : List Int := bif s.2 then s.1 else s.1 ++ [n]
def withV (l : List Int) (n : Int) : List Int := withEnd n (withGo n l ([], false))
theorem withS_len (n : Int) (s : List Int × Bool) (x : Int) : (withEnd n (withS n s x)).length ≤ (withEnd n s).length + 1 := by
  obtain ⟨o, b⟩ := s
  unfold withEnd withS
  cases b <;> cases decide (x ≥ n) <;> cases (x != n) <;> simp
theorem withGo_len (n : Int) : ∀ (l : List Int) (s : List Int × Bool), (withEnd n (withGo n l s)).length ≤ (withEnd n s).length + l.length
  | [], s => Nat.le_refl _
  | x :: l, s => by
    have h1 := withGo_len n l (withS n s x)
    have h2 := withS_len n s x
    have h3 : withGo n (x :: l) s = withGo n l (withS n s x) := rfl
    rw [h3, List.length_cons]
    omega
theorem withV_len (l : List Int) (n : Int) : (withV l n).length ≤ l.length + 1 := by
  have := withGo_len n l ([], false)
  have h : (withEnd n ([], false)).length = 1 := rfl
  unfold withV
  omega
/-! An item's segment. -/
def segAt : List It → Int → Sg
  | [], _ => .zero
  | t :: l, id => bif t.id == id then t.sg else segAt l id
/-! Into each leaf that it meets. -/
def kidX (x s j : Int) : Int := IntKind.i64.wrap (x + IntKind.i64.wrap ((j.tmod 2) * halfV s))
def kidY (y s j : Int) : Int := IntKind.i64.wrap (y + IntKind.i64.wrap (IntKind.i64.wrap (j.tdiv 2) * halfV s))
def kidMeets (l : List It) (x y s i : Int) : Bool := meetsV (segAt l i).x0 (segAt l i).y0 (segAt l i).x1 (segAt l i).y1 x y (IntKind.i64.wrap (x + s)) (IntKind.i64.wrap (y + s))
def kidIds (l : List It) (x y s : Int) (ids : List Int) : List Int := ids.filter (kidMeets l x y s)
def putKid (l : List It) (x y s : Int) (ids : List Int) (j : Int) : Tr := .leaf (kidX x s j) (kidY y s j) (halfV s) (kidIds l (kidX x s j) (kidY y s j) (halfV s) ids)
def putV (l : List It) (id : Int) (g : Sg) (most : Int) : Tr → Int → Tr
  | .leaf x y s ids, deep =>
    bif !trMeetsV (.leaf x y s ids) g.x0 g.y0 g.x1 g.y1 then .leaf x y s ids else
    bif decide (((withV ids id).length : Int) ≤ most) || decide (deep < 1) then .leaf x y s (withV ids id) else
    .node x y s (putKid l x y s (withV ids id) 0) (putKid l x y s (withV ids id) 1) (putKid l x y s (withV ids id) 2) (putKid l x y s (withV ids id) 3)
  | .node x y s a b c d, deep =>
    bif !trMeetsV (.node x y s a b c d) g.x0 g.y0 g.x1 g.y1 then .node x y s a b c d else
    .node x y s (putV l id g most a (IntKind.i64.wrap (deep - 1))) (putV l id g most b (IntKind.i64.wrap (deep - 1))) (putV l id g most c (IntKind.i64.wrap (deep - 1))) (putV l id g most d (IntKind.i64.wrap (deep - 1)))
/-! Without one. -/
def allOf (a b c d : Tr) : List Int := (a.ids ++ (b.ids ++ (c.ids ++ d.ids))).foldl withV []
def noKids (t : Tr) : Bool := (t.kn : Int) == 0
def cutV (id most : Int) : Tr → Tr
  | .leaf x y s ids => .leaf x y s (ids.filter fun i => i != id)
  | .node x y s a b c d =>
    bif noKids (cutV id most a) && noKids (cutV id most b) && noKids (cutV id most c) && noKids (cutV id most d) && decide (((allOf (cutV id most a) (cutV id most b) (cutV id most c) (cutV id most d)).length : Int) ≤ most) then .leaf x y s (allOf (cutV id most a) (cutV id most b) (cutV id most c) (cutV id most d))
    else .node x y s (cutV id most a) (cutV id most b) (cutV id most c) (cutV id most d)
/-! The blocks of a tree. -/
def writeV : Tr → List Bk
  | .leaf x y s ids => [⟨x, y, s, false, ids⟩]
  | .node x y s a b c d => ⟨x, y, s, true, []⟩ :: (writeV a ++ (writeV b ++ (writeV c ++ writeV d)))
/-! Bounds. -/
def idsLe (m : Nat) : Tr → Bool
  | .leaf _ _ _ l => decide (l.length ≤ m)
  | .node _ _ _ a b c d => idsLe m a && idsLe m b && idsLe m c && idsLe m d
theorem idsLe_ids {m : Nat} : ∀ {t : Tr}, idsLe m t = true → t.ids.length ≤ m
  | .leaf _ _ _ l, h => of_decide_eq_true h
  | .node _ _ _ _ _ _ _, _ => Nat.zero_le _
theorem idsLe_mono {m n : Nat} (hmn : m ≤ n) : ∀ {t : Tr}, idsLe m t = true → idsLe n t = true
  | .leaf _ _ _ l, h => decide_eq_true (Nat.le_trans (of_decide_eq_true h) hmn)
  | .node _ _ _ a b c d, h => by
    simp only [idsLe, Bool.and_eq_true] at h ⊢
    exact ⟨⟨⟨idsLe_mono hmn h.1.1.1, idsLe_mono hmn h.1.1.2⟩, idsLe_mono hmn h.1.2⟩, idsLe_mono hmn h.2⟩
theorem putV_ids (l : List It) (id : Int) (g : Sg) (most : Int) {m : Nat} : ∀ (t : Tr) (deep : Int), idsLe m t = true → idsLe (m + 1) (putV l id g most t deep) = true
  | .leaf x y s ids, deep, h => by
    have h1 : ids.length ≤ m := of_decide_eq_true h
    have h2 := withV_len ids id
    rw [putV]
    cases trMeetsV (.leaf x y s ids) g.x0 g.y0 g.x1 g.y1 with
    | false => exact idsLe_mono (Nat.le_succ m) h
    | true =>
      simp only [Bool.not_true, cond_false]
      cases (decide (((withV ids id).length : Int) ≤ most) || decide (deep < 1)) with
      | true => exact decide_eq_true (by omega)
      | false =>
        have k : ∀ j, idsLe (m + 1) (putKid l x y s (withV ids id) j) = true := fun j => decide_eq_true (by
          have := List.length_filter_le (kidMeets l (kidX x s j) (kidY y s j) (halfV s)) (withV ids id)
          unfold kidIds
          omega)
        simp only [cond_false, idsLe, k, Bool.and_self]
  | .node x y s a b c d, deep, h => by
    rw [putV]
    cases trMeetsV (.node x y s a b c d) g.x0 g.y0 g.x1 g.y1 with
    | false => exact idsLe_mono (Nat.le_succ m) h
    | true =>
      simp only [idsLe, Bool.and_eq_true] at h
      simp only [Bool.not_true, cond_false, idsLe, putV_ids l id g most a _ h.1.1.1, putV_ids l id g most b _ h.1.1.2, putV_ids l id g most c _ h.1.2, putV_ids l id g most d _ h.2, Bool.and_self]
theorem max4_le {a b c d a' b' c' d' k : Nat} (h1 : a' ≤ a + k) (h2 : b' ≤ b + k) (h3 : c' ≤ c + k) (h4 : d' ≤ d + k) : max (max a' b') (max c' d') + 1 ≤ max (max a b) (max c d) + 1 + k := by omega
theorem putV_depth (l : List It) (id : Int) (g : Sg) (most : Int) : ∀ (t : Tr) (deep : Int), trDepth (putV l id g most t deep) ≤ trDepth t + 1
  | .leaf x y s ids, deep => by
    rw [putV]
    cases trMeetsV (.leaf x y s ids) g.x0 g.y0 g.x1 g.y1 with
    | false => exact Nat.le_succ _
    | true =>
      simp only [Bool.not_true, cond_false]
      cases (decide (((withV ids id).length : Int) ≤ most) || decide (deep < 1)) with
      | true => exact Nat.le_succ _
      | false => exact Nat.le_refl 1
  | .node x y s a b c d, deep => by
    rw [putV]
    cases trMeetsV (.node x y s a b c d) g.x0 g.y0 g.x1 g.y1 with
    | false => exact Nat.le_succ _
    | true =>
      simp only [Bool.not_true, cond_false, trDepth]
      exact max4_le (putV_depth l id g most a _) (putV_depth l id g most b _) (putV_depth l id g most c _) (putV_depth l id g most d _)
theorem cutV_depth (id most : Int) : ∀ t : Tr, trDepth (cutV id most t) ≤ trDepth t
  | .leaf x y s ids => Nat.le_refl _
  | .node x y s a b c d => by
    rw [cutV]
    cases (noKids (cutV id most a) && noKids (cutV id most b) && noKids (cutV id most c) && noKids (cutV id most d) && decide (((allOf (cutV id most a) (cutV id most b) (cutV id most c) (cutV id most d)).length : Int) ≤ most)) with
    | true => exact Nat.zero_le _
    | false =>
      simp only [cond_false, trDepth]
      exact max4_le (k := 0) (cutV_depth id most a) (cutV_depth id most b) (cutV_depth id most c) (cutV_depth id most d)
theorem cutV_ids (id most : Int) {m : Nat} (hm : most ≤ m) : ∀ t : Tr, idsLe m t = true → idsLe m (cutV id most t) = true
  | .leaf x y s ids, h => by
    have h1 : ids.length ≤ m := of_decide_eq_true h
    exact decide_eq_true (Nat.le_trans (List.length_filter_le _ _) h1)
  | .node x y s a b c d, h => by
    simp only [idsLe, Bool.and_eq_true] at h
    rw [cutV]
    cases hc : (noKids (cutV id most a) && noKids (cutV id most b) && noKids (cutV id most c) && noKids (cutV id most d) && decide (((allOf (cutV id most a) (cutV id most b) (cutV id most c) (cutV id most d)).length : Int) ≤ most)) with
    | true =>
      simp only [Bool.and_eq_true, decide_eq_true_eq] at hc
      exact decide_eq_true (by omega)
    | false => simp only [cond_false, idsLe, cutV_ids id most hm a h.1.1.1, cutV_ids id most hm b h.1.1.2, cutV_ids id most hm c h.1.2, cutV_ids id most hm d h.2, Bool.and_self]
theorem writeV_len : ∀ t : Tr, 3 * (writeV t).length + 1 ≤ 4 ^ (trDepth t + 1)
  | .leaf _ _ _ _ => by show 3 * 1 + 1 ≤ 4 ^ (0 + 1); decide
  | .node _ _ _ a b c d => by
    have ha := writeV_len a
    have hb := writeV_len b
    have hc := writeV_len c
    have hd := writeV_len d
    simp only [writeV, trDepth, List.length_cons, List.length_append]
    generalize hm : max (max (trDepth a) (trDepth b)) (max (trDepth c) (trDepth d)) = m
    have m1 : trDepth a + 1 ≤ m + 1 := by omega
    have m2 : trDepth b + 1 ≤ m + 1 := by omega
    have m3 : trDepth c + 1 ≤ m + 1 := by omega
    have m4 : trDepth d + 1 ≤ m + 1 := by omega
    have p1 := Nat.pow_le_pow_right (show 0 < 4 by omega) m1
    have p2 := Nat.pow_le_pow_right (show 0 < 4 by omega) m2
    have p3 := Nat.pow_le_pow_right (show 0 < 4 by omega) m3
    have p4 := Nat.pow_le_pow_right (show 0 < 4 by omega) m4
    rw [Nat.pow_succ 4 (m + 1)]
    omega
theorem writeV_small {t : Tr} (h : trDepth t ≤ 10) : (writeV t).length ≤ 1398101 := by
  have h1 := writeV_len t
  have h2 : 4 ^ (trDepth t + 1) ≤ 4 ^ 11 := Nat.pow_le_pow_right (by omega) (by omega)
  have h3 : 4 ^ 11 = 4194304 := by decide
  omega
theorem writeV_ids {m : Nat} : ∀ (t : Tr), idsLe m t = true → ∀ b ∈ writeV t, b.ids.length ≤ m
  | .leaf _ _ _ l, h, b, hb => by
    simp only [writeV, List.mem_singleton] at hb
    subst hb
    exact of_decide_eq_true h
  | .node _ _ _ a b c d, h, k, hk => by
    simp only [idsLe, Bool.and_eq_true] at h
    simp only [writeV, List.mem_cons, List.mem_append] at hk
    rcases hk with rfl | hk | hk | hk | hk
    · exact Nat.zero_le _
    · exact writeV_ids a h.1.1.1 k hk
    · exact writeV_ids b h.1.1.2 k hk
    · exact writeV_ids c h.1.2 k hk
    · exact writeV_ids d h.2 k hk
theorem metFrom_len (l : List It) (x y s : Int) (i : Nat) : (metFrom l x y s i).length ≤ l.length := by
  unfold metFrom
  rw [List.length_map]
  exact Nat.le_trans (List.length_filter_le _ _) (by rw [List.length_drop]; omega)
theorem right_ids (l : List It) : ∀ t : Tr, rightV l t = true → idsLe l.length t = true
  | .leaf x y s ids, h => by
    rw [rightV] at h
    rw [eq_of_beq h]
    exact decide_eq_true (metFrom_len l x y s 0)
  | .node x y s a b c d, h => by
    simp only [rightV, Bool.and_eq_true] at h
    simp only [idsLe, right_ids l a h.1.1.1, right_ids l b h.1.1.2, right_ids l c h.1.2, right_ids l d h.2, Bool.and_self]
theorem tree_ids {q : Qd} (h : (treeV q).2 = true) : idsLe 40 (treeV q).1 = true ∧ q.items.length ≤ 40 ∧ q.most ≤ 8 := by
  unfold treeV at h ⊢
  cases hc : (limitsV q.most q.deep && !decide ((q.items.length : Int) > 40) && !decide ((q.blocks.length : Int) > 2000) && itsOk q.items none && (readV 9 q.blocks 0 (-1048576) (-1048576) 2097152 q.deep).2.2 &&
    (readV 9 q.blocks 0 (-1048576) (-1048576) 2097152 q.deep).2.1 == (q.blocks.length : Int) && rightV q.items (readV 9 q.blocks 0 (-1048576) (-1048576) 2097152 q.deep).1) with
  | false => rw [hc] at h; cases h
  | true =>
    simp only [cond_true]
    simp only [Bool.and_eq_true, Bool.not_eq_true', decide_eq_false_iff_not, limitsV, inV, decide_eq_true_eq] at hc
    obtain ⟨⟨⟨⟨⟨⟨h1, h2⟩, _⟩, _⟩, _⟩, _⟩, h7⟩ := hc
    exact ⟨idsLe_mono (by omega) (right_ids _ _ h7), by omega, h1.1.2⟩
end
end Go.Proofs.Ytbnainbjcaekjaa.R
namespace Go.Proofs.Ytbnainbjcaekjaa.R
open Go
noncomputable section
/-! ### function 45 -/
def T45m {ρ : Type} (ret : (Bool) → Option ρ) (x : Int) (y : Int) (s : Int) (kn : Nat) (kg : Nat → F) (en : Nat) (eg : Nat → F) (g : Sg) : Option ρ :=
 (ret (meetsV g.x0 g.y0 g.x1 g.y1 x y (IntKind.i64.wrap (x + s)) (IntKind.i64.wrap (y + s))))
def G45m (x : Int) (y : Int) (s : Int) (kn : Nat) (kg : Nat → F) (en : Nat) (eg : Nat → F) (g : Sg) : Option (Bool) := T45m some x y s kn kg en eg g
theorem t45m (x : Int) (y : Int) (s : Int) (kn : Nat) (kg : Nat → F) (en : Nat) (eg : Nat → F) (g : Sg) (r : Bool) (h : G45m x y s kn kg en eg g = some r) : Ends Try.prog Try.f45.results.toList [.code (bodyOf Try.f45)] (start Try.f45.ntmps ([F.agg [F.int .i64 x, F.int .i64 y, F.int .i64 s, F.sl kn kg, F.sl en eg], sgF g].map .f)) (F.bool r) := by
  refine Ends.of_run tyOK envB0_ok (T := []) (n := 200) ?_
  have e : run Try.prog (tiOf Try.prog) envB0 [] 0 Try.f45.results.toList some 200 [.code (bodyOf Try.f45)] (start Try.f45.ntmps ([F.agg [F.int .i64 x, F.int .i64 y, F.int .i64 s, F.sl kn kg, F.sl en eg], sgF g].map .f)) = T45m (fun r => some (.ret (F.bool r))) x y s kn kg en eg g := by kernel_rfl
  rw [e]
  exact good_ret (by cases h; rfl)
/-! ### function 47 -/
def S47_4 (l : List Int) (n : Int) (m : Nat) (g : Nat → F) (b : Bool) (i : Int) : St := ⟨[(U.f (intsF l)), (U.f (F.int .i64 n)), .bad, .bad, .bad, (U.hs 0 m 0 m), (U.f (F.bool b)), (U.f (F.int .i64 i)), .bad, .bad, .bad, .bad, .bad, .bad, .bad, .bad, .bad, .bad, .bad, .bad, .bad, .bad, .bad, .bad, .bad, .bad, .bad, .bad, .bad, .bad, .bad, .bad, .bad, .bad, .bad, .bad, .bad, .bad, .bad, .bad, .bad, .bad, .bad, .bad, .bad, .bad, .bad, .bad, .bad], [HO.arr 1 m g]⟩
abbrev KJ54 (ρ : Type) := (Nat) → (Nat → F) → Option ρ
def T47_4 {ρ : Type} (ret : KJ54 ρ) (c4 : (List Int) → (Int) → (Nat) → (Nat → F) → (Bool) → (Int) → Option ρ) (l : List Int) (n : Int) (m : Nat) (g : Nat → F) (b : Bool) (i : Int) : Option ρ :=
 (bsel (decide (i < (↑l.length : Int)))
 (bsel ((!b) == true)
 (bsel (decide (0 ≤ i))
 (bsel (decide (i < (↑l.length : Int)))
 (bsel (decide (l.getD i.toNat 0 ≥ n))
 (bsel (decide (m = m))
 (bsel (decide (m = m))
 (bsel (decide ((↑(m + 1) : Int) * (((8 : Nat) : Int) + 1) ≤ (↑limit : Int)))
 (bsel (decide (0 ≤ i))
 (bsel (decide (i < (↑l.length : Int)))
 (bsel (l.getD i.toNat 0 != n)
 (bsel (decide (0 ≤ i))
 (bsel (decide (i < (↑l.length : Int)))
 (bsel (decide (m + 1 = m + 1))
 (bsel (decide (m + 1 = m + 1))
 (bsel (decide ((↑(m + 1 + 1) : Int) * (((8 : Nat) : Int) + 1) ≤ (↑limit : Int)))
 (c4 (l) (n) (m + 1 + 1) (fun j ↦ if j < m + 1 then if j < m then g j else F.int .i64 n else F.int .i64 (l.getD i.toNat 0)) (true) (IntKind.i64.wrap (i + 1)))
 none)
 none)
 none)
 none)
 none)
 (c4 (l) (n) (m + 1) (fun j ↦ if j < m then g j else F.int .i64 n) (true) (IntKind.i64.wrap (i + 1))))
 none)
 none)
 none)
 none)
 none)
 (bsel (decide (0 ≤ i))
 (bsel (decide (i < (↑l.length : Int)))
 (bsel (l.getD i.toNat 0 != n)
 (bsel (decide (0 ≤ i))
 (bsel (decide (i < (↑l.length : Int)))
 (bsel (decide (m = m))
 (bsel (decide (m = m))
 (bsel (decide ((↑(m + 1) : Int) * (((8 : Nat) : Int) + 1) ≤ (↑limit : Int)))
 (c4 (l) (n) (m + 1) (fun j ↦ if j < m then g j else F.int .i64 (l.getD i.toNat 0)) (b) (IntKind.i64.wrap (i + 1)))
 none)
 none)
 none)
 none)
 none)
 (c4 (l) (n) (m) (g) (b) (IntKind.i64.wrap (i + 1))))
 none)
 none))
 none)
 none)
 (bsel (decide (0 ≤ i))
 (bsel (decide (i < (↑l.length : Int)))
 (bsel (l.getD i.toNat 0 != n)
 (bsel (decide (0 ≤ i))
 (bsel (decide (i < (↑l.length : Int)))
 (bsel (decide (m = m))
 (bsel (decide (m = m))
 (bsel (decide ((↑(m + 1) : Int) * (((8 : Nat) : Int) + 1) ≤ (↑limit : Int)))
 (c4 (l) (n) (m + 1) (fun j ↦ if j < m then g j else F.int .i64 (l.getD i.toNat 0)) (b) (IntKind.i64.wrap (i + 1)))
 none)
 none)
 none)
 none)
 none)
 (c4 (l) (n) (m) (g) (b) (IntKind.i64.wrap (i + 1))))
 none)
 none))
 (bsel (!b)
 (bsel (decide (m = m))
 (bsel (decide (m = m))
 (bsel (decide ((↑(m + 1) : Int) * (((8 : Nat) : Int) + 1) ≤ (↑limit : Int)))
 (bsel (decide (m + 1 = m + 1))
 (ret (m + 1) (fun j ↦ if j < m then g j else F.int .i64 n))
 none)
 none)
 none)
 none)
 (bsel (decide (m = m))
 (ret (m) (g))
 none)))
def L47_4 : Nat → (List Int) → (Int) → (Nat) → (Nat → F) → (Bool) → (Int) → Option ((Nat) × (Nat → F))
  | 0, _, _, _, _, _, _ => none
  | k + 1, l, n, m, g, b, i => T47_4 (fun rn rg => some (rn, rg)) (L47_4 k) l n m g b i
def T47 {ρ : Type} (ret : KJ54 ρ) (c4 : (List Int) → (Int) → (Nat) → (Nat → F) → (Bool) → (Int) → Option ρ) (l : List Int) (n : Int) : Option ρ :=
 (c4 (l) (n) (0) (lget []) (false) (0))
def G47 (k : Nat) (l : List Int) (n : Int) : Option ((Nat) × (Nat → F)) := T47 (fun rn rg => some (rn, rg)) (L47_4 k) l n
theorem t47_4 : ∀ (k : Nat) (l : List Int) (n : Int) (m : Nat) (g : Nat → F) (b : Bool) (i : Int) (rn : Nat) (rg : Nat → F), L47_4 k l n m g b i = some (rn, rg) → Ends Try.prog Try.f47.results.toList (at_ Try.f47 4) (S47_4 l n m g b i) (F.sl rn rg)
  | 0, _, _, _, _, _, _, _, _, h => nomatch h
  | k + 1, l, n, m, g, b, i, rn, rg, h => by
    refine Ends.of_cut tyOK envB0_ok (T := [(4, [0, 1, 5, 6, 7], 1000)]) (n := 200) ?_
    have e : runCut Try.prog (tiOf Try.prog) envB0 [(4, [0, 1, 5, 6, 7], 1000)] 0 Try.f47.results.toList some 200 (at_ Try.f47 4) (S47_4 l n m g b i) = T47_4 (fun rn rg => some (.ret (F.sl rn rg))) (fun l n m g b i => some (.cut (at_ Try.f47 4) (S47_4 l n m g b i))) l n m g b i := by kernel_rfl
    rw [e]
    exact (good_sel h (fun _ h => (good_sel h (fun _ h => (good_sel h (fun _ h => (good_sel h (fun _ h => (good_sel h (fun _ h => (good_sel h (fun _ h => (good_sel h (fun _ h => (good_sel h (fun _ h => (good_sel h (fun _ h => (good_sel h (fun _ h => (good_sel h (fun _ h => (good_sel h (fun _ h => (good_sel h (fun _ h => (good_sel h (fun _ h => (good_sel h (fun _ h => (good_sel h (fun _ h => good_cut (t47_4 k _ _ _ _ _ _ rn rg h)) (fun _ h => nomatch h))) (fun _ h => nomatch h))) (fun _ h => nomatch h))) (fun _ h => nomatch h))) (fun _ h => nomatch h))) (fun _ h => good_cut (t47_4 k _ _ _ _ _ _ rn rg h)))) (fun _ h => nomatch h))) (fun _ h => nomatch h))) (fun _ h => nomatch h))) (fun _ h => nomatch h))) (fun _ h => nomatch h))) (fun _ h => (good_sel h (fun _ h => (good_sel h (fun _ h => (good_sel h (fun _ h => (good_sel h (fun _ h => (good_sel h (fun _ h => (good_sel h (fun _ h => (good_sel h (fun _ h => (good_sel h (fun _ h => good_cut (t47_4 k _ _ _ _ _ _ rn rg h)) (fun _ h => nomatch h))) (fun _ h => nomatch h))) (fun _ h => nomatch h))) (fun _ h => nomatch h))) (fun _ h => nomatch h))) (fun _ h => good_cut (t47_4 k _ _ _ _ _ _ rn rg h)))) (fun _ h => nomatch h))) (fun _ h => nomatch h))))) (fun _ h => nomatch h))) (fun _ h => nomatch h))) (fun _ h => (good_sel h (fun _ h => (good_sel h (fun _ h => (good_sel h (fun _ h => (good_sel h (fun _ h => (good_sel h (fun _ h => (good_sel h (fun _ h => (good_sel h (fun _ h => (good_sel h (fun _ h => good_cut (t47_4 k _ _ _ _ _ _ rn rg h)) (fun _ h => nomatch h))) (fun _ h => nomatch h))) (fun _ h => nomatch h))) (fun _ h => nomatch h))) (fun _ h => nomatch h))) (fun _ h => good_cut (t47_4 k _ _ _ _ _ _ rn rg h)))) (fun _ h => nomatch h))) (fun _ h => nomatch h))))) (fun _ h => (good_sel h (fun _ h => (good_sel h (fun _ h => (good_sel h (fun _ h => (good_sel h (fun _ h => (good_sel h (fun _ h => good_ret (by cases h; rfl)) (fun _ h => nomatch h))) (fun _ h => nomatch h))) (fun _ h => nomatch h))) (fun _ h => nomatch h))) (fun _ h => (good_sel h (fun _ h => good_ret (by cases h; rfl)) (fun _ h => nomatch h))))))
theorem t47 (k : Nat) (l : List Int) (n : Int) (rn : Nat) (rg : Nat → F) (h : G47 k l n = some (rn, rg)) : Ends Try.prog Try.f47.results.toList [.code (bodyOf Try.f47)] (start Try.f47.ntmps ([intsF l, F.int .i64 n].map .f)) (F.sl rn rg) := by
  refine Ends.of_run tyOK envB0_ok (T := [(4, [0, 1, 5, 6, 7], 1000)]) (n := 200) ?_
  have e : run Try.prog (tiOf Try.prog) envB0 [(4, [0, 1, 5, 6, 7], 1000)] 0 Try.f47.results.toList some 200 [.code (bodyOf Try.f47)] (start Try.f47.ntmps ([intsF l, F.int .i64 n].map .f)) = T47 (fun rn rg => some (.ret (F.sl rn rg))) (fun l n m g b i => some (.cut (at_ Try.f47 4) (S47_4 l n m g b i))) l n := by kernel_rfl
  rw [e]
  exact good_cut (t47_4 k _ _ _ _ _ _ rn rg h)
/-! ### function 48 -/
def S48_2 (l : List It) (id : Int) (i : Int) : St := ⟨[(U.f (itemsF l)), (U.f (F.int .i64 id)), .bad, .bad, (U.hp 0 0), (U.f (F.int .i64 i)), .bad, .bad, .bad, .bad, .bad, .bad, .bad, .bad, .bad, .bad, .bad, .bad, .bad, .bad, .bad, .bad, .bad, .bad, .bad], [HO.box [(U.f (F.int .i64 0)), (U.f (F.int .i64 0)), (U.f (F.int .i64 0)), (U.f (F.int .i64 0))]]⟩
def T48_2 {ρ : Type} (ret : (Int) → (Int) → (Int) → (Int) → Option ρ) (c2 : (List It) → (Int) → (Int) → Option ρ) (l : List It) (id : Int) (i : Int) : Option ρ :=
 (bsel (decide (i < (↑l.length : Int)))
 (bsel (decide (0 ≤ i))
 (bsel (decide (i < (↑l.length : Int)))
 (bsel ((l.getD i.toNat It.zero).id == id)
 (bsel (decide (0 ≤ i))
 (bsel (decide (i < (↑l.length : Int)))
 (ret ((l.getD i.toNat It.zero).x0) ((l.getD i.toNat It.zero).y0) ((l.getD i.toNat It.zero).x1) ((l.getD i.toNat It.zero).y1))
 none)
 none)
 (c2 (l) (id) (IntKind.i64.wrap (i + 1))))
 none)
 none)
 (ret (0) (0) (0) (0)))
def L48_2 : Nat → (List It) → (Int) → (Int) → Option ((Int) × (Int) × (Int) × (Int))
  | 0, _, _, _ => none
  | k + 1, l, id, i => T48_2 (fun x0 y0 x1 y1 => some (x0, y0, x1, y1)) (L48_2 k) l id i
def T48 {ρ : Type} (ret : (Int) → (Int) → (Int) → (Int) → Option ρ) (c2 : (List It) → (Int) → (Int) → Option ρ) (l : List It) (id : Int) : Option ρ :=
 (c2 (l) (id) (0))
def G48 (k : Nat) (l : List It) (id : Int) : Option ((Int) × (Int) × (Int) × (Int)) := T48 (fun x0 y0 x1 y1 => some (x0, y0, x1, y1)) (L48_2 k) l id
theorem t48_2 : ∀ (k : Nat) (l : List It) (id : Int) (i : Int) (x0 : Int) (y0 : Int) (x1 : Int) (y1 : Int), L48_2 k l id i = some (x0, y0, x1, y1) → Ends Try.prog Try.f48.results.toList (at_ Try.f48 2) (S48_2 l id i) (F.agg [F.int .i64 x0, F.int .i64 y0, F.int .i64 x1, F.int .i64 y1])
  | 0, _, _, _, _, _, _, _, h => nomatch h
  | k + 1, l, id, i, x0, y0, x1, y1, h => by
    refine Ends.of_cut tyOK envB0_ok (T := [(2, [0, 1, 4, 5], 1000)]) (n := 200) ?_
    have e : runCut Try.prog (tiOf Try.prog) envB0 [(2, [0, 1, 4, 5], 1000)] 0 Try.f48.results.toList some 200 (at_ Try.f48 2) (S48_2 l id i) = T48_2 (fun x0 y0 x1 y1 => some (.ret (F.agg [F.int .i64 x0, F.int .i64 y0, F.int .i64 x1, F.int .i64 y1]))) (fun l id i => some (.cut (at_ Try.f48 2) (S48_2 l id i))) l id i := by kernel_rfl
    rw [e]
    exact (good_sel h (fun _ h => (good_sel h (fun _ h => (good_sel h (fun _ h => (good_sel h (fun _ h => (good_sel h (fun _ h => (good_sel h (fun _ h => good_ret (by cases h; rfl)) (fun _ h => nomatch h))) (fun _ h => nomatch h))) (fun _ h => good_cut (t48_2 k _ _ _ x0 y0 x1 y1 h)))) (fun _ h => nomatch h))) (fun _ h => nomatch h))) (fun _ h => good_ret (by cases h; rfl)))
theorem t48 (k : Nat) (l : List It) (id : Int) (x0 : Int) (y0 : Int) (x1 : Int) (y1 : Int) (h : G48 k l id = some (x0, y0, x1, y1)) : Ends Try.prog Try.f48.results.toList [.code (bodyOf Try.f48)] (start Try.f48.ntmps ([itemsF l, F.int .i64 id].map .f)) (F.agg [F.int .i64 x0, F.int .i64 y0, F.int .i64 x1, F.int .i64 y1]) := by
  refine Ends.of_run tyOK envB0_ok (T := [(2, [0, 1, 4, 5], 1000)]) (n := 200) ?_
  have e : run Try.prog (tiOf Try.prog) envB0 [(2, [0, 1, 4, 5], 1000)] 0 Try.f48.results.toList some 200 [.code (bodyOf Try.f48)] (start Try.f48.ntmps ([itemsF l, F.int .i64 id].map .f)) = T48 (fun x0 y0 x1 y1 => some (.ret (F.agg [F.int .i64 x0, F.int .i64 y0, F.int .i64 x1, F.int .i64 y1]))) (fun l id i => some (.cut (at_ Try.f48 2) (S48_2 l id i))) l id := by kernel_rfl
  rw [e]
  exact good_cut (t48_2 k _ _ _ x0 y0 x1 y1 h)
/-! ### function 18 -/
def T18 {ρ : Type} (ret : (F) → Option ρ) (a : Int) (b : Int) : Option ρ :=
 (bsel (!limitsV a b)
 (ret (F.tup [F.agg [F.int .i64 0, F.int .i64 0, F.tup [], F.tup []], F.bool false]))
 (ret (F.tup [F.agg [F.int .i64 a, F.int .i64 b, F.tup [], F.tup [F.int .i64 ((5 : Nat) : Int), F.sl 1 (lget [F.agg [F.int .i64 (-1048576), F.int .i64 (-1048576), F.int .i64 2097152, F.bool false, F.sl 0 fun x ↦ F.bool false]])]], F.bool true])))
def G18 (a : Int) (b : Int) : Option (F) := T18 some a b
theorem t18 (a : Int) (b : Int) (r : F) (h : G18 a b = some r) : Ends Try.prog (ResultVar.tmp 1000000 :: Go.Proofs.Try.f18.results.toList) [.code (bodyOf Try.f18)] (start Try.f18.ntmps ([F.int .i64 a, F.int .i64 b].map .f)) (r) := by
  refine Ends.of_run tyOK envB0_ok (T := []) (n := 200) ?_
  have e : run Try.prog (tiOf Try.prog) envB0 [] 0 (ResultVar.tmp 1000000 :: Go.Proofs.Try.f18.results.toList) some 200 [.code (bodyOf Try.f18)] (start Try.f18.ntmps ([F.int .i64 a, F.int .i64 b].map .f)) = T18 (fun r => some (.ret (r))) a b := by kernel_rfl
  rw [e]
  exact (good_sel h (fun _ h => good_ret (by cases h; rfl)) (fun _ h => good_ret (by cases h; rfl)))
/-! ### function 21 -/
def T21 {ρ : Type} (ret : (Int) → (Int) → (Int) → (Int) → (Int) → Option ρ) (s : ByteArray) (p : Int) : Option ρ :=
 (bsel (isBytes (bytesF s) && rdOk (unBytes (bytesF s)) p)
 (bsel ((onceV (unBytes (bytesF s)) p 3).fst)
 (bsel (isBytes (bytesF s) && rdOk (unBytes (bytesF s)) (onceV (unBytes (bytesF s)) p 3).snd && true)
 (ret ((segV (unBytes (bytesF s)) (onceV (unBytes (bytesF s)) p 3).snd).fst) ((segV (unBytes (bytesF s)) (onceV (unBytes (bytesF s)) p 3).snd).snd.fst) ((segV (unBytes (bytesF s)) (onceV (unBytes (bytesF s)) p 3).snd).snd.snd.fst) ((segV (unBytes (bytesF s)) (onceV (unBytes (bytesF s)) p 3).snd).snd.snd.snd.fst) ((resSeg [] (unBytes (bytesF s)) (onceV (unBytes (bytesF s)) p 3).snd).snd))
 none)
 (bsel (isBytes (bytesF s) && rdOk (unBytes (bytesF s)) (onceV (unBytes (bytesF s)) p 3).snd)
 (bsel (decide (0 ≤ (belowV (unBytes (bytesF s)) (onceV (unBytes (bytesF s)) p 3).snd 4).fst))
 (bsel (decide ((belowV (unBytes (bytesF s)) (onceV (unBytes (bytesF s)) p 3).snd 4).fst < ((4 : Nat) : Int)))
 (bsel (decide (0 + (belowV (unBytes (bytesF s)) (onceV (unBytes (bytesF s)) p 3).snd 4).fst.toNat < 4))
 (bsel (decide ((lget [F.int .i64 1, F.int .i64 1000, F.int .i64 50000, F.int .i64 160000] (0 + (belowV (unBytes (bytesF s)) (onceV (unBytes (bytesF s)) p 3).snd 4).fst.toNat)).cells.length = 1))
 (bsel (okV (Value.int IntKind.i64 0) ((List.drop 0 (lget [F.int .i64 1, F.int .i64 1000, F.int .i64 50000, F.int .i64 160000] (0 + (belowV (unBytes (bytesF s)) (onceV (unBytes (bytesF s)) p 3).snd 4).fst.toNat)).cells).headD F.dflt) && true)
 (bsel (isBytes (bytesF s) && rdOk (unBytes (bytesF s)) (belowV (unBytes (bytesF s)) (onceV (unBytes (bytesF s)) p 3).snd 4).snd && true)
 (bsel (isBytes (bytesF s) && rdOk (unBytes (bytesF s)) (resSpot [] (unBytes (bytesF s)) (belowV (unBytes (bytesF s)) (onceV (unBytes (bytesF s)) p 3).snd 4).snd).snd && true)
 (bsel ((spotV (unBytes (bytesF s)) (belowV (unBytes (bytesF s)) (onceV (unBytes (bytesF s)) p 3).snd 4).snd).fst == (spotV (unBytes (bytesF s)) (resSpot [] (unBytes (bytesF s)) (belowV (unBytes (bytesF s)) (onceV (unBytes (bytesF s)) p 3).snd 4).snd).snd).fst && ((spotV (unBytes (bytesF s)) (belowV (unBytes (bytesF s)) (onceV (unBytes (bytesF s)) p 3).snd 4).snd).snd.fst == (spotV (unBytes (bytesF s)) (resSpot [] (unBytes (bytesF s)) (belowV (unBytes (bytesF s)) (onceV (unBytes (bytesF s)) p 3).snd 4).snd).snd).snd.fst && true))
 (ret ((segOfV (IntKind.i64.wrap (intOf ((List.drop 0 (lget [F.int .i64 1, F.int .i64 1000, F.int .i64 50000, F.int .i64 160000] (0 + (belowV (unBytes (bytesF s)) (onceV (unBytes (bytesF s)) p 3).snd 4).fst.toNat)).cells).headD F.dflt) * (spotV (unBytes (bytesF s)) (belowV (unBytes (bytesF s)) (onceV (unBytes (bytesF s)) p 3).snd 4).snd).fst)) (IntKind.i64.wrap (intOf ((List.drop 0 (lget [F.int .i64 1, F.int .i64 1000, F.int .i64 50000, F.int .i64 160000] (0 + (belowV (unBytes (bytesF s)) (onceV (unBytes (bytesF s)) p 3).snd 4).fst.toNat)).cells).headD F.dflt) * (spotV (unBytes (bytesF s)) (belowV (unBytes (bytesF s)) (onceV (unBytes (bytesF s)) p 3).snd 4).snd).snd.fst)) (IntKind.i64.wrap (intOf ((List.drop 0 (lget [F.int .i64 1, F.int .i64 1000, F.int .i64 50000, F.int .i64 160000] (0 + (belowV (unBytes (bytesF s)) (onceV (unBytes (bytesF s)) p 3).snd 4).fst.toNat)).cells).headD F.dflt) * IntKind.i64.wrap ((spotV (unBytes (bytesF s)) (resSpot [] (unBytes (bytesF s)) (belowV (unBytes (bytesF s)) (onceV (unBytes (bytesF s)) p 3).snd 4).snd).snd).fst + 1))) (IntKind.i64.wrap (intOf ((List.drop 0 (lget [F.int .i64 1, F.int .i64 1000, F.int .i64 50000, F.int .i64 160000] (0 + (belowV (unBytes (bytesF s)) (onceV (unBytes (bytesF s)) p 3).snd 4).fst.toNat)).cells).headD F.dflt) * (spotV (unBytes (bytesF s)) (resSpot [] (unBytes (bytesF s)) (belowV (unBytes (bytesF s)) (onceV (unBytes (bytesF s)) p 3).snd 4).snd).snd).snd.fst))).fst.x0) ((segOfV (IntKind.i64.wrap (intOf ((List.drop 0 (lget [F.int .i64 1, F.int .i64 1000, F.int .i64 50000, F.int .i64 160000] (0 + (belowV (unBytes (bytesF s)) (onceV (unBytes (bytesF s)) p 3).snd 4).fst.toNat)).cells).headD F.dflt) * (spotV (unBytes (bytesF s)) (belowV (unBytes (bytesF s)) (onceV (unBytes (bytesF s)) p 3).snd 4).snd).fst)) (IntKind.i64.wrap (intOf ((List.drop 0 (lget [F.int .i64 1, F.int .i64 1000, F.int .i64 50000, F.int .i64 160000] (0 + (belowV (unBytes (bytesF s)) (onceV (unBytes (bytesF s)) p 3).snd 4).fst.toNat)).cells).headD F.dflt) * (spotV (unBytes (bytesF s)) (belowV (unBytes (bytesF s)) (onceV (unBytes (bytesF s)) p 3).snd 4).snd).snd.fst)) (IntKind.i64.wrap (intOf ((List.drop 0 (lget [F.int .i64 1, F.int .i64 1000, F.int .i64 50000, F.int .i64 160000] (0 + (belowV (unBytes (bytesF s)) (onceV (unBytes (bytesF s)) p 3).snd 4).fst.toNat)).cells).headD F.dflt) * IntKind.i64.wrap ((spotV (unBytes (bytesF s)) (resSpot [] (unBytes (bytesF s)) (belowV (unBytes (bytesF s)) (onceV (unBytes (bytesF s)) p 3).snd 4).snd).snd).fst + 1))) (IntKind.i64.wrap (intOf ((List.drop 0 (lget [F.int .i64 1, F.int .i64 1000, F.int .i64 50000, F.int .i64 160000] (0 + (belowV (unBytes (bytesF s)) (onceV (unBytes (bytesF s)) p 3).snd 4).fst.toNat)).cells).headD F.dflt) * (spotV (unBytes (bytesF s)) (resSpot [] (unBytes (bytesF s)) (belowV (unBytes (bytesF s)) (onceV (unBytes (bytesF s)) p 3).snd 4).snd).snd).snd.fst))).fst.y0) ((segOfV (IntKind.i64.wrap (intOf ((List.drop 0 (lget [F.int .i64 1, F.int .i64 1000, F.int .i64 50000, F.int .i64 160000] (0 + (belowV (unBytes (bytesF s)) (onceV (unBytes (bytesF s)) p 3).snd 4).fst.toNat)).cells).headD F.dflt) * (spotV (unBytes (bytesF s)) (belowV (unBytes (bytesF s)) (onceV (unBytes (bytesF s)) p 3).snd 4).snd).fst)) (IntKind.i64.wrap (intOf ((List.drop 0 (lget [F.int .i64 1, F.int .i64 1000, F.int .i64 50000, F.int .i64 160000] (0 + (belowV (unBytes (bytesF s)) (onceV (unBytes (bytesF s)) p 3).snd 4).fst.toNat)).cells).headD F.dflt) * (spotV (unBytes (bytesF s)) (belowV (unBytes (bytesF s)) (onceV (unBytes (bytesF s)) p 3).snd 4).snd).snd.fst)) (IntKind.i64.wrap (intOf ((List.drop 0 (lget [F.int .i64 1, F.int .i64 1000, F.int .i64 50000, F.int .i64 160000] (0 + (belowV (unBytes (bytesF s)) (onceV (unBytes (bytesF s)) p 3).snd 4).fst.toNat)).cells).headD F.dflt) * IntKind.i64.wrap ((spotV (unBytes (bytesF s)) (resSpot [] (unBytes (bytesF s)) (belowV (unBytes (bytesF s)) (onceV (unBytes (bytesF s)) p 3).snd 4).snd).snd).fst + 1))) (IntKind.i64.wrap (intOf ((List.drop 0 (lget [F.int .i64 1, F.int .i64 1000, F.int .i64 50000, F.int .i64 160000] (0 + (belowV (unBytes (bytesF s)) (onceV (unBytes (bytesF s)) p 3).snd 4).fst.toNat)).cells).headD F.dflt) * (spotV (unBytes (bytesF s)) (resSpot [] (unBytes (bytesF s)) (belowV (unBytes (bytesF s)) (onceV (unBytes (bytesF s)) p 3).snd 4).snd).snd).snd.fst))).fst.x1) ((segOfV (IntKind.i64.wrap (intOf ((List.drop 0 (lget [F.int .i64 1, F.int .i64 1000, F.int .i64 50000, F.int .i64 160000] (0 + (belowV (unBytes (bytesF s)) (onceV (unBytes (bytesF s)) p 3).snd 4).fst.toNat)).cells).headD F.dflt) * (spotV (unBytes (bytesF s)) (belowV (unBytes (bytesF s)) (onceV (unBytes (bytesF s)) p 3).snd 4).snd).fst)) (IntKind.i64.wrap (intOf ((List.drop 0 (lget [F.int .i64 1, F.int .i64 1000, F.int .i64 50000, F.int .i64 160000] (0 + (belowV (unBytes (bytesF s)) (onceV (unBytes (bytesF s)) p 3).snd 4).fst.toNat)).cells).headD F.dflt) * (spotV (unBytes (bytesF s)) (belowV (unBytes (bytesF s)) (onceV (unBytes (bytesF s)) p 3).snd 4).snd).snd.fst)) (IntKind.i64.wrap (intOf ((List.drop 0 (lget [F.int .i64 1, F.int .i64 1000, F.int .i64 50000, F.int .i64 160000] (0 + (belowV (unBytes (bytesF s)) (onceV (unBytes (bytesF s)) p 3).snd 4).fst.toNat)).cells).headD F.dflt) * IntKind.i64.wrap ((spotV (unBytes (bytesF s)) (resSpot [] (unBytes (bytesF s)) (belowV (unBytes (bytesF s)) (onceV (unBytes (bytesF s)) p 3).snd 4).snd).snd).fst + 1))) (IntKind.i64.wrap (intOf ((List.drop 0 (lget [F.int .i64 1, F.int .i64 1000, F.int .i64 50000, F.int .i64 160000] (0 + (belowV (unBytes (bytesF s)) (onceV (unBytes (bytesF s)) p 3).snd 4).fst.toNat)).cells).headD F.dflt) * (spotV (unBytes (bytesF s)) (resSpot [] (unBytes (bytesF s)) (belowV (unBytes (bytesF s)) (onceV (unBytes (bytesF s)) p 3).snd 4).snd).snd).snd.fst))).fst.y1) ((resSpot [] (unBytes (bytesF s)) (resSpot [] (unBytes (bytesF s)) (belowV (unBytes (bytesF s)) (onceV (unBytes (bytesF s)) p 3).snd 4).snd).snd).snd))
 (ret ((segOfV (IntKind.i64.wrap (intOf ((List.drop 0 (lget [F.int .i64 1, F.int .i64 1000, F.int .i64 50000, F.int .i64 160000] (0 + (belowV (unBytes (bytesF s)) (onceV (unBytes (bytesF s)) p 3).snd 4).fst.toNat)).cells).headD F.dflt) * (spotV (unBytes (bytesF s)) (belowV (unBytes (bytesF s)) (onceV (unBytes (bytesF s)) p 3).snd 4).snd).fst)) (IntKind.i64.wrap (intOf ((List.drop 0 (lget [F.int .i64 1, F.int .i64 1000, F.int .i64 50000, F.int .i64 160000] (0 + (belowV (unBytes (bytesF s)) (onceV (unBytes (bytesF s)) p 3).snd 4).fst.toNat)).cells).headD F.dflt) * (spotV (unBytes (bytesF s)) (belowV (unBytes (bytesF s)) (onceV (unBytes (bytesF s)) p 3).snd 4).snd).snd.fst)) (IntKind.i64.wrap (intOf ((List.drop 0 (lget [F.int .i64 1, F.int .i64 1000, F.int .i64 50000, F.int .i64 160000] (0 + (belowV (unBytes (bytesF s)) (onceV (unBytes (bytesF s)) p 3).snd 4).fst.toNat)).cells).headD F.dflt) * (spotV (unBytes (bytesF s)) (resSpot [] (unBytes (bytesF s)) (belowV (unBytes (bytesF s)) (onceV (unBytes (bytesF s)) p 3).snd 4).snd).snd).fst)) (IntKind.i64.wrap (intOf ((List.drop 0 (lget [F.int .i64 1, F.int .i64 1000, F.int .i64 50000, F.int .i64 160000] (0 + (belowV (unBytes (bytesF s)) (onceV (unBytes (bytesF s)) p 3).snd 4).fst.toNat)).cells).headD F.dflt) * (spotV (unBytes (bytesF s)) (resSpot [] (unBytes (bytesF s)) (belowV (unBytes (bytesF s)) (onceV (unBytes (bytesF s)) p 3).snd 4).snd).snd).snd.fst))).fst.x0) ((segOfV (IntKind.i64.wrap (intOf ((List.drop 0 (lget [F.int .i64 1, F.int .i64 1000, F.int .i64 50000, F.int .i64 160000] (0 + (belowV (unBytes (bytesF s)) (onceV (unBytes (bytesF s)) p 3).snd 4).fst.toNat)).cells).headD F.dflt) * (spotV (unBytes (bytesF s)) (belowV (unBytes (bytesF s)) (onceV (unBytes (bytesF s)) p 3).snd 4).snd).fst)) (IntKind.i64.wrap (intOf ((List.drop 0 (lget [F.int .i64 1, F.int .i64 1000, F.int .i64 50000, F.int .i64 160000] (0 + (belowV (unBytes (bytesF s)) (onceV (unBytes (bytesF s)) p 3).snd 4).fst.toNat)).cells).headD F.dflt) * (spotV (unBytes (bytesF s)) (belowV (unBytes (bytesF s)) (onceV (unBytes (bytesF s)) p 3).snd 4).snd).snd.fst)) (IntKind.i64.wrap (intOf ((List.drop 0 (lget [F.int .i64 1, F.int .i64 1000, F.int .i64 50000, F.int .i64 160000] (0 + (belowV (unBytes (bytesF s)) (onceV (unBytes (bytesF s)) p 3).snd 4).fst.toNat)).cells).headD F.dflt) * (spotV (unBytes (bytesF s)) (resSpot [] (unBytes (bytesF s)) (belowV (unBytes (bytesF s)) (onceV (unBytes (bytesF s)) p 3).snd 4).snd).snd).fst)) (IntKind.i64.wrap (intOf ((List.drop 0 (lget [F.int .i64 1, F.int .i64 1000, F.int .i64 50000, F.int .i64 160000] (0 + (belowV (unBytes (bytesF s)) (onceV (unBytes (bytesF s)) p 3).snd 4).fst.toNat)).cells).headD F.dflt) * (spotV (unBytes (bytesF s)) (resSpot [] (unBytes (bytesF s)) (belowV (unBytes (bytesF s)) (onceV (unBytes (bytesF s)) p 3).snd 4).snd).snd).snd.fst))).fst.y0) ((segOfV (IntKind.i64.wrap (intOf ((List.drop 0 (lget [F.int .i64 1, F.int .i64 1000, F.int .i64 50000, F.int .i64 160000] (0 + (belowV (unBytes (bytesF s)) (onceV (unBytes (bytesF s)) p 3).snd 4).fst.toNat)).cells).headD F.dflt) * (spotV (unBytes (bytesF s)) (belowV (unBytes (bytesF s)) (onceV (unBytes (bytesF s)) p 3).snd 4).snd).fst)) (IntKind.i64.wrap (intOf ((List.drop 0 (lget [F.int .i64 1, F.int .i64 1000, F.int .i64 50000, F.int .i64 160000] (0 + (belowV (unBytes (bytesF s)) (onceV (unBytes (bytesF s)) p 3).snd 4).fst.toNat)).cells).headD F.dflt) * (spotV (unBytes (bytesF s)) (belowV (unBytes (bytesF s)) (onceV (unBytes (bytesF s)) p 3).snd 4).snd).snd.fst)) (IntKind.i64.wrap (intOf ((List.drop 0 (lget [F.int .i64 1, F.int .i64 1000, F.int .i64 50000, F.int .i64 160000] (0 + (belowV (unBytes (bytesF s)) (onceV (unBytes (bytesF s)) p 3).snd 4).fst.toNat)).cells).headD F.dflt) * (spotV (unBytes (bytesF s)) (resSpot [] (unBytes (bytesF s)) (belowV (unBytes (bytesF s)) (onceV (unBytes (bytesF s)) p 3).snd 4).snd).snd).fst)) (IntKind.i64.wrap (intOf ((List.drop 0 (lget [F.int .i64 1, F.int .i64 1000, F.int .i64 50000, F.int .i64 160000] (0 + (belowV (unBytes (bytesF s)) (onceV (unBytes (bytesF s)) p 3).snd 4).fst.toNat)).cells).headD F.dflt) * (spotV (unBytes (bytesF s)) (resSpot [] (unBytes (bytesF s)) (belowV (unBytes (bytesF s)) (onceV (unBytes (bytesF s)) p 3).snd 4).snd).snd).snd.fst))).fst.x1) ((segOfV (IntKind.i64.wrap (intOf ((List.drop 0 (lget [F.int .i64 1, F.int .i64 1000, F.int .i64 50000, F.int .i64 160000] (0 + (belowV (unBytes (bytesF s)) (onceV (unBytes (bytesF s)) p 3).snd 4).fst.toNat)).cells).headD F.dflt) * (spotV (unBytes (bytesF s)) (belowV (unBytes (bytesF s)) (onceV (unBytes (bytesF s)) p 3).snd 4).snd).fst)) (IntKind.i64.wrap (intOf ((List.drop 0 (lget [F.int .i64 1, F.int .i64 1000, F.int .i64 50000, F.int .i64 160000] (0 + (belowV (unBytes (bytesF s)) (onceV (unBytes (bytesF s)) p 3).snd 4).fst.toNat)).cells).headD F.dflt) * (spotV (unBytes (bytesF s)) (belowV (unBytes (bytesF s)) (onceV (unBytes (bytesF s)) p 3).snd 4).snd).snd.fst)) (IntKind.i64.wrap (intOf ((List.drop 0 (lget [F.int .i64 1, F.int .i64 1000, F.int .i64 50000, F.int .i64 160000] (0 + (belowV (unBytes (bytesF s)) (onceV (unBytes (bytesF s)) p 3).snd 4).fst.toNat)).cells).headD F.dflt) * (spotV (unBytes (bytesF s)) (resSpot [] (unBytes (bytesF s)) (belowV (unBytes (bytesF s)) (onceV (unBytes (bytesF s)) p 3).snd 4).snd).snd).fst)) (IntKind.i64.wrap (intOf ((List.drop 0 (lget [F.int .i64 1, F.int .i64 1000, F.int .i64 50000, F.int .i64 160000] (0 + (belowV (unBytes (bytesF s)) (onceV (unBytes (bytesF s)) p 3).snd 4).fst.toNat)).cells).headD F.dflt) * (spotV (unBytes (bytesF s)) (resSpot [] (unBytes (bytesF s)) (belowV (unBytes (bytesF s)) (onceV (unBytes (bytesF s)) p 3).snd 4).snd).snd).snd.fst))).fst.y1) ((resSpot [] (unBytes (bytesF s)) (resSpot [] (unBytes (bytesF s)) (belowV (unBytes (bytesF s)) (onceV (unBytes (bytesF s)) p 3).snd 4).snd).snd).snd)))
 none)
 none)
 none)
 none)
 none)
 none)
 none)
 none))
 none)
def G21 (s : ByteArray) (p : Int) : Option ((Int) × (Int) × (Int) × (Int) × (Int)) := T21 (fun x0 y0 x1 y1 q => some (x0, y0, x1, y1, q)) s p
theorem t21 (s : ByteArray) (p : Int) (x0 : Int) (y0 : Int) (x1 : Int) (y1 : Int) (q : Int) (h : G21 s p = some (x0, y0, x1, y1, q)) : EndsN Try.prog 1 Try.f21.results.toList [.code (bodyOf Try.f21)] (startN Try.f21.ntmps [U.hp 0 0] [HO.box [U.f (bytesF s), U.f (F.int .i64 p)]]) (F.tup [F.agg [F.int .i64 x0, F.int .i64 y0, F.int .i64 x1, F.int .i64 y1], F.agg [bytesF s, F.int .i64 q]]) := by
  refine Ends.of_run tyOK envB0_ok (T := []) (n := 200) ?_
  have e : run Try.prog (tiOf Try.prog) envB0 [] 1 Try.f21.results.toList some 200 [.code (bodyOf Try.f21)] (startN Try.f21.ntmps [U.hp 0 0] [HO.box [U.f (bytesF s), U.f (F.int .i64 p)]]) = T21 (fun x0 y0 x1 y1 q => some (.ret (F.tup [F.agg [F.int .i64 x0, F.int .i64 y0, F.int .i64 x1, F.int .i64 y1], F.agg [bytesF s, F.int .i64 q]]))) s p := by kernel_rfl
  rw [e]
  exact (good_sel h (fun _ h => (good_sel h (fun _ h => (good_sel h (fun _ h => good_ret (by cases h; rfl)) (fun _ h => nomatch h))) (fun _ h => (good_sel h (fun _ h => (good_sel h (fun _ h => (good_sel h (fun _ h => (good_sel h (fun _ h => (good_sel h (fun _ h => (good_sel h (fun _ h => (good_sel h (fun _ h => (good_sel h (fun _ h => (good_sel h (fun _ h => good_ret (by cases h; rfl)) (fun _ h => good_ret (by cases h; rfl)))) (fun _ h => nomatch h))) (fun _ h => nomatch h))) (fun _ h => nomatch h))) (fun _ h => nomatch h))) (fun _ h => nomatch h))) (fun _ h => nomatch h))) (fun _ h => nomatch h))) (fun _ h => nomatch h))))) (fun _ h => nomatch h))
def preTrL : List F → Bool
  | [.agg [.int .i64 _, .int .i64 _, .int .i64 _, .sl _ _, .sl _ _], .agg [.int .i64 _, .int .i64 _, .int .i64 _, .int .i64 _]] => true
  | [.agg [.int .i64 _, .int .i64 _, .int .i64 _, .cl _ _, .sl _ _], .agg [.int .i64 _, .int .i64 _, .int .i64 _, .int .i64 _]] => true
  | _ => false
def resTrL : List F → F
  | [.agg [.int .i64 x, .int .i64 y, .int .i64 s, .sl _ _, .sl _ _], .agg [.int .i64 a, .int .i64 b, .int .i64 c, .int .i64 d]] => .bool (meetsV a b c d x y (IntKind.i64.wrap (x + s)) (IntKind.i64.wrap (y + s)))
  | [.agg [.int .i64 x, .int .i64 y, .int .i64 s, .cl _ _, .sl _ _], .agg [.int .i64 a, .int .i64 b, .int .i64 c, .int .i64 d]] => .bool (meetsV a b c d x y (IntKind.i64.wrap (x + s)) (IntKind.i64.wrap (y + s)))
  | _ => .dflt
theorem okTrL : PureOK Try.prog 45 preTrL resTrL :=
  fn_pure_at (c := bodyOf Try.f45) Try.func45 (by kernel_rfl) (by kernel_rfl) fun xs hp => match xs, hp with
  | [.agg [.int .i64 x, .int .i64 y, .int .i64 s, .sl kn kg, .sl en eg], .agg [.int .i64 a, .int .i64 b, .int .i64 c, .int .i64 d]], hp => ⟨_, _, FsLe.refl _, t45m x y s kn kg en eg ⟨a, b, c, d⟩ _ rfl, .refl _⟩
  | [.agg [.int .i64 x, .int .i64 y, .int .i64 s, .cl kn kg, .sl en eg], .agg [.int .i64 a, .int .i64 b, .int .i64 c, .int .i64 d]], hp =>
    ⟨[.agg [.int .i64 x, .int .i64 y, .int .i64 s, .sl kn kg, .sl en eg], .agg [.int .i64 a, .int .i64 b, .int .i64 c, .int .i64 d]], _, ⟨FLe.agg ⟨.refl _, .refl _, .refl _, FLe.unCl fun _ _ => rfl, .refl _, trivial⟩, .refl _, trivial⟩, t45m x y s kn kg en eg ⟨a, b, c, d⟩ _ rfl, .refl _⟩
theorem withS_eq (n x : Int) (o : List Int) (b : Bool) : withS n (o, b) x = (bif !b && decide (x ≥ n) then (bif x != n then (o ++ [n] ++ [x], true) else (o ++ [n], true)) else (bif x != n then (o ++ [x], b) else (o, b))) := rfl
theorem with_loop (l : List Int) (n : Int) (hl : l.length ≤ 100000) : ∀ (d i m : Nat) (g : Nat → F) (b : Bool) (o : List Int), i + d = l.length → Lists i64F 0 m g o → m ≤ 2 * i →
    ∃ rn rg, L47_4 (d + 1) l n m g b i = some (rn, rg) ∧ Lists i64F 0 rn rg (withEnd n (withGo n (l.drop i) (o, b)))
  | 0, i, m, g, b, o, h, hg, hm => by
    have c1 : decide ((i : Int) < (l.length : Int)) = false := decide_eq_false (by omega)
    have c3 : decide (((m + 1 : Nat) : Int) * (((8 : Nat) : Int) + 1) ≤ (limit : Int)) = true := by rw [limit_eq]; exact decide_eq_true (by omega)
    rw [L47_4, List.drop_eq_nil_of_le (by omega)]
    simp only [T47_4, c1, c3, bsel_false, bsel_true, decide_true]
    cases b with
    | false => exact ⟨_, _, rfl, hg.push n⟩
    | true => exact ⟨_, _, rfl, hg⟩
  | d + 1, i, m, g, b, o, h, hg, hm => by
    have hi : i < l.length := by omega
    have c1 : decide ((i : Int) < (l.length : Int)) = true := decide_eq_true (by omega)
    have c2 : decide (0 ≤ (i : Int)) = true := decide_eq_true (by omega)
    have c3 : decide (((m + 1 : Nat) : Int) * (((8 : Nat) : Int) + 1) ≤ (limit : Int)) = true := by rw [limit_eq]; exact decide_eq_true (by omega)
    have c4 : decide (((m + 1 + 1 : Nat) : Int) * (((8 : Nat) : Int) + 1) ≤ (limit : Int)) = true := by rw [limit_eq]; exact decide_eq_true (by omega)
    have hw : IntKind.i64.wrap ((i : Int) + 1) = ((i + 1 : Nat) : Int) := by rw [wrapi (by omega) (by omega)]; omega
    have h1 : l.getD i 0 = l[i] := by simp [List.getD, List.getElem?_eq_getElem hi]
    have hgo : withGo n (l[i] :: l.drop (i + 1)) (o, b) = withGo n (l.drop (i + 1)) (withS n (o, b) l[i]) := rfl
    rw [List.drop_eq_getElem_cons hi, hgo, withS_eq, L47_4]
    simp only [T47_4, c1, c2, c3, c4, hw, bsel_true, decide_true, Int.toNat_natCast, h1]
    generalize l[i] = x
    cases b with
    | true =>
      cases hne : (x != n) with
      | true => exact with_loop l n hl d (i + 1) (m + 1) _ true (o ++ [x]) (by omega) (hg.push x) (by omega)
      | false => exact with_loop l n hl d (i + 1) m g true o (by omega) hg (by omega)
    | false =>
      cases hge : decide (x ≥ n) with
      | true =>
        cases hne : (x != n) with
        | true => exact with_loop l n hl d (i + 1) (m + 1 + 1) _ true (o ++ [n] ++ [x]) (by omega) ((hg.push n).push x) (by omega)
        | false => exact with_loop l n hl d (i + 1) (m + 1) _ true (o ++ [n]) (by omega) (hg.push n) (by omega)
      | false =>
        cases hne : (x != n) with
        | true => exact with_loop l n hl d (i + 1) (m + 1) _ false (o ++ [x]) (by omega) (hg.push x) (by omega)
        | false => exact with_loop l n hl d (i + 1) m g false o (by omega) hg (by omega)
def fewIntsV (l : List Int) : Bool := decide (l.length ≤ 100000)
def preWith : List F → Bool | [a, .int .i64 _] => isInts a && fewIntsV (unInts a) | _ => false
def resWith : List F → F | [a, .int .i64 n] => intsF (withV (unInts a) n) | _ => .dflt
theorem okWith : PureOK Try.prog 47 preWith resWith :=
  fn_pure_at (c := bodyOf Try.f47) Try.func47 (by kernel_rfl) (by kernel_rfl) fun xs hp => match xs, hp with
  | [a, .int .i64 n], hp => by
    simp only [preWith, Bool.and_eq_true] at hp
    obtain ⟨rn, rg, e1, e2⟩ := with_loop (unInts a) n (of_decide_eq_true hp.2) (unInts a).length 0 0 (lget []) false [] (by omega) Lists.nil (by omega)
    rw [List.drop_zero] at e2
    exact ⟨[intsF (unInts a), .int .i64 n], _, ⟨(ints_eqv hp.1).1, .refl _, trivial⟩, t47 ((unInts a).length + 1) _ _ _ _ e1, e2.le⟩
theorem segAt_loop (l : List It) (id : Int) (hl : l.length ≤ 100000) : ∀ (d i : Nat), i + d = l.length → L48_2 (d + 1) l id i = some ((segAt (l.drop i) id).x0, (segAt (l.drop i) id).y0, (segAt (l.drop i) id).x1, (segAt (l.drop i) id).y1)
  | 0, i, h => by
    have c1 : decide ((i : Int) < (l.length : Int)) = false := decide_eq_false (by omega)
    rw [L48_2, List.drop_eq_nil_of_le (by omega)]
    simp only [T48_2, c1, bsel_false]
    rfl
  | d + 1, i, h => by
    have hi : i < l.length := by omega
    have c1 : decide ((i : Int) < (l.length : Int)) = true := decide_eq_true (by omega)
    have c2 : decide (0 ≤ (i : Int)) = true := decide_eq_true (by omega)
    have hw : IntKind.i64.wrap ((i : Int) + 1) = ((i + 1 : Nat) : Int) := by rw [wrapi (by omega) (by omega)]; omega
    have h1 : l.getD i .zero = l[i] := by simp [List.getD, List.getElem?_eq_getElem hi]
    rw [List.drop_eq_getElem_cons hi, segAt, L48_2]
    simp only [T48_2, c1, c2, hw, bsel_true, Int.toNat_natCast, h1]
    cases (l[i].id == id) with
    | true => rfl
    | false => exact segAt_loop l id hl d (i + 1) (by omega)
def fewItsV (l : List It) : Bool := decide (l.length ≤ 100000)
def preSegAt : List F → Bool | [a, .int .i64 _] => isItems a && fewItsV (unItems a) | _ => false
def resSegAt : List F → F | [a, .int .i64 n] => .agg [.int .i64 (segAt (unItems a) n).x0, .int .i64 (segAt (unItems a) n).y0, .int .i64 (segAt (unItems a) n).x1, .int .i64 (segAt (unItems a) n).y1] | _ => .dflt
theorem okSegAt : PureOK Try.prog 48 preSegAt resSegAt :=
  fn_pure_at (c := bodyOf Try.f48) Try.func48 (by kernel_rfl) (by kernel_rfl) fun xs hp => match xs, hp with
  | [a, .int .i64 n], hp => by
    simp only [preSegAt, Bool.and_eq_true] at hp
    exact ⟨[itemsF (unItems a), .int .i64 n], _, ⟨(items_eqv hp.1).1, .refl _, trivial⟩, t48 ((unItems a).length + 1) _ _ _ _ _ _ (segAt_loop (unItems a) n (of_decide_eq_true hp.2) _ 0 (by omega)), .refl _⟩
def bkE : F := .agg [.int .i64 (-1048576), .int .i64 (-1048576), .int .i64 2097152, .bool false, .sl 0 fun _ => .bool false]
def newC : List F → Bool | [.int .i64 a, .int .i64 b] => limitsV a b | _ => false
def ownNew1 : List F → F | [.int .i64 a, .int .i64 b] => .tup [.agg [.int .i64 a, .int .i64 b, .tup [], .tup [.int .i64 5, .sl 1 fun _ => bkE]], .bool true] | _ => .dflt
def ownNew2 : List F → F := fun _ => .tup [.agg [.int .i64 0, .int .i64 0, .tup [], .tup []], .bool false]
theorem okNewO : SpOK Try.prog 18 (.own pre2i newC ownNew1 ownNew2) :=
  fn_own (c := bodyOf Try.f18) Try.func18 (by kernel_rfl) (by kernel_rfl) fun xs hp => match xs, hp with
  | [.int .i64 a, .int .i64 b], hp => by
    have hc : newC [.int .i64 a, .int .i64 b] = limitsV a b := rfl
    have h1 : ownNew1 [.int .i64 a, .int .i64 b] = .tup [.agg [.int .i64 a, .int .i64 b, .tup [], .tup [.int .i64 5, .sl 1 fun _ => bkE]], .bool true] := rfl
    rw [hc, h1]
    have hg : ∀ r, G18 a b = some r → Ends Try.prog (.tmp 1000000 :: Try.f18.results.toList) [.code (bodyOf Try.f18)] (start Try.f18.ntmps ([F.int .i64 a, F.int .i64 b].map .f)) r := fun r h => t18 a b r h
    unfold G18 T18 at hg
    have fail : OwnsLe [F.int .i64 0, F.int .i64 0, F.tup [], F.tup []] [F.int .i64 0, F.int .i64 0, F.tup [], F.tup []] := ⟨.dat _ rfl, .dat _ rfl, .nil, .nil, trivial⟩
    cases hl : limitsV a b with
    | false =>
      rw [hl] at hg
      exact ⟨[.int .i64 a, .int .i64 b], _, [.agg [.int .i64 0, .int .i64 0, .tup [], .tup []], .bool false], ⟨.refl _, .refl _, trivial⟩, hg _ rfl, ⟨.agg fail, .of (.dat _ rfl), trivial⟩, rfl⟩
    | true =>
      rw [hl] at hg
      exact ⟨[.int .i64 a, .int .i64 b], _, [.agg [.int .i64 a, .int .i64 b, .tup [], .tup [.int .i64 5, .sl 1 fun _ => bkE]], .bool true], ⟨.refl _, .refl _, trivial⟩, hg _ rfl,
        ⟨.agg ⟨.dat _ rfl, .dat _ rfl, .nil, .obj _ _ _ _ _ (fun j hj => by
          have : j = 0 := by omega
          subst this
          rfl), trivial⟩, .of (.dat _ rfl), trivial⟩, rfl⟩
def farV (s : ByteArray) (p : Int) : Int × Int × Int × Int × Int := (G21 s p).getD (0, 0, 0, 0, 0)
theorem far_ok {s : ByteArray} {p : Int} (h : rdOk s p = true) : G21 s p = some (farV s p) ∧ rdOk s (farV s p).2.2.2.2 = true := by
  obtain ⟨_, o1⟩ := once_ok h 3
  obtain ⟨b1, b2, b3, b4⟩ := below_ok o1 4
  obtain ⟨_, s1⟩ := spot_ok b4
  obtain ⟨_, s2⟩ := spot_ok s1
  obtain ⟨_, g1⟩ := seg_ok o1
  unfold farV G21 T21
  simp only [resSpot, resSeg, unBytes_bytesF, isBytes_bytesF, h, o1, b4, s1, Bool.and_self, Bool.and_true, bsel_true]
  cases (onceV s p 3).1 with
  | true => simp only [bsel_true, Option.getD_some]; exact ⟨trivial, g1⟩
  | false =>
    simp only [bsel_false]
    have hk : (belowV s (onceV s p 3).2 4).1 = 0 ∨ (belowV s (onceV s p 3).2 4).1 = 1 ∨ (belowV s (onceV s p 3).2 4).1 = 2 ∨ (belowV s (onceV s p 3).2 4).1 = 3 := by omega
    generalize (belowV s (onceV s p 3).2 4).1 = k at hk b2
    cases (spotV s (belowV s (onceV s p 3).2 4).2).1 == (spotV s (spotV s (belowV s (onceV s p 3).2 4).2).2.2).1 <;> cases (spotV s (belowV s (onceV s p 3).2 4).2).2.1 == (spotV s (spotV s (belowV s (onceV s p 3).2 4).2).2.2).2.1 <;>
      rcases hk with rfl | rfl | rfl | rfl <;> exact ⟨rfl, s2⟩
def resFar : List F → ByteArray → Int → F × Int := fun _ s p => (.agg [.int .i64 (farV s p).1, .int .i64 (farV s p).2.1, .int .i64 (farV s p).2.2.1, .int .i64 (farV s p).2.2.2.1], (farV s p).2.2.2.2)
theorem okFar : SpOK Try.prog 21 (rdSp isNone resFar) :=
  ok_rd (c := bodyOf Try.f21) Try.func21 (by kernel_rfl) (by kernel_rfl) fun xs s p hx hr => match xs, hx with
  | [], hx => ⟨_, .refl _, t21 s p _ _ _ _ _ (far_ok hr).1⟩
def envB1 : Env := ((((envB0.add 45 (.pure preTrL resTrL)).add 47 (.pure preWith resWith)).add 48 (.pure preSegAt resSegAt)).add 18 (.own pre2i newC ownNew1 ownNew2)).add 21 (rdSp isNone resFar)
theorem envB1_ok : EnvOK Try.prog envB1 := (Env.add_ok (Env.add_ok (Env.add_ok (Env.add_ok (Env.add_ok envB0_ok okTrL.sp) okWith.sp) okSegAt.sp) okNewO) okFar)
end
end Go.Proofs.Ytbnainbjcaekjaa.R
namespace Go.Proofs.Ytbnainbjcaekjaa.R
open Go
noncomputable section
/-! Trees of which nothing is known of the room of their rows of kids. -/
def kidL : Tr → Nat → F
  | .leaf _ _ _ _ => fun _ => .dflt
  | .node _ _ _ a b c d => lget [.agg [.int .i64 a.x, .int .i64 a.y, .int .i64 a.size, .sl a.kn (kidL a), intsF a.ids], .agg [.int .i64 b.x, .int .i64 b.y, .int .i64 b.size, .sl b.kn (kidL b), intsF b.ids],
      .agg [.int .i64 c.x, .int .i64 c.y, .int .i64 c.size, .sl c.kn (kidL c), intsF c.ids], .agg [.int .i64 d.x, .int .i64 d.y, .int .i64 d.size, .sl d.kn (kidL d), intsF d.ids]]
def trL (t : Tr) : F := .agg [.int .i64 t.x, .int .i64 t.y, .int .i64 t.size, .sl t.kn (kidL t), intsF t.ids]
theorem trL_inj : ∀ (t t' : Tr), trL t = trL t' → t = t'
  | .leaf _ _ _ _, .leaf _ _ _ _, h => by
    simp only [trL, F.agg.injEq, List.cons.injEq, F.int.injEq, true_and, and_true, Tr.x, Tr.y, Tr.size, Tr.ids] at h
    obtain ⟨rfl, rfl, rfl, _, h⟩ := h
    rw [intsF_inj h]
  | .leaf _ _ _ _, .node _ _ _ _ _ _ _, h => by
    simp only [trL, F.agg.injEq, List.cons.injEq, F.sl.injEq, Tr.kn] at h
    omega
  | .node _ _ _ _ _ _ _, .leaf _ _ _ _, h => by
    simp only [trL, F.agg.injEq, List.cons.injEq, F.sl.injEq, Tr.kn] at h
    omega
  | .node _ _ _ a b c d, .node _ _ _ a' b' c' d', h => by
    simp only [trL, F.agg.injEq, List.cons.injEq, F.sl.injEq, F.int.injEq, true_and, and_true, Tr.x, Tr.y, Tr.size] at h
    obtain ⟨rfl, rfl, rfl, ⟨_, h⟩, _⟩ := h
    rw [trL_inj a a' (congrFun h 0), trL_inj b b' (congrFun h 1), trL_inj c c' (congrFun h 2), trL_inj d d' (congrFun h 3)]
theorem kids_le : ∀ t : Tr, FLe (.cl t.kn (kidG t)) (.sl t.kn (kidL t))
  | .leaf _ _ _ _ => FLe.unCl fun j hj => absurd hj (Nat.not_lt_zero _)
  | .node _ _ _ a b c d => by
    have el : ∀ t : Tr, FLe (.cl t.kn (kidG t)) (.sl t.kn (kidL t)) → ElLe (trF t) (trL t) := fun t h => ElLe.agg ⟨.refl _, .refl _, .refl _, h, .refl _, trivial⟩ fun _ u hu => by
      simp only [List.mem_cons, List.not_mem_nil, or_false] at hu
      rcases hu with rfl | rfl | rfl | rfl | rfl <;> rfl
    have ha := el a (kids_le a)
    have hb := el b (kids_le b)
    have hc := el c (kids_le c)
    have hd := el d (kids_le d)
    intro w Z v hv
    refine FLe.slEl (n := 4) (g := kidG (.node 0 0 0 a b c d)) (fun j hj => ?_) w Z v (FLe.unCl (n := 4) (fun _ _ => rfl) w Z v hv)
    have : j = 0 ∨ j = 1 ∨ j = 2 ∨ j = 3 := by omega
    rcases this with rfl | rfl | rfl | rfl
    · exact ha
    · exact hb
    · exact hc
    · exact hd
theorem trFL (t : Tr) : FLe (trF t) (trL t) := FLe.agg ⟨.refl _, .refl _, .refl _, kids_le t, .refl _, trivial⟩
def isTrL (x : F) : Bool := @decide (∃ t, x = trL t) (Classical.propDecidable _)
def isTrA (x : F) : Bool := isTr x || isTrL x
theorem unTrA_ex (x : F) : ∃ t : Tr, isTrA x = true → FLe x (trL t) ∧ (x = trL t ∨ x = trF t) := by
  by_cases h : isTr x = true
  · exact ⟨unTr x, fun _ => ⟨by rw [tr_eq h, unTr_trF]; exact trFL _, .inr (tr_eq h)⟩⟩
  · by_cases h' : isTrL x = true
    · obtain ⟨t, ht⟩ := @of_decide_eq_true _ (Classical.propDecidable _) h'
      exact ⟨t, fun _ => ⟨by rw [ht]; exact .refl _, .inl ht⟩⟩
    · refine ⟨.zero, fun h2 => ?_⟩
      simp only [isTrA, Bool.or_eq_true] at h2
      rcases h2 with h2 | h2
      · exact absurd h2 h
      · exact absurd h2 h'
def unTrA (x : F) : Tr := Classical.choose (unTrA_ex x)
theorem isTrA_trL (t : Tr) : isTrA (trL t) = true := by
  have : isTrL (trL t) = true := @decide_eq_true _ (Classical.propDecidable _) ⟨t, rfl⟩
  simp only [isTrA, this, Bool.or_true]
theorem isTrA_trF (t : Tr) : isTrA (trF t) = true := by simp only [isTrA, isTr_trF, Bool.true_or]
theorem trA_le {x : F} (h : isTrA x = true) : FLe x (trL (unTrA x)) := (Classical.choose_spec (unTrA_ex x) h).1
theorem unTrA_trL (t : Tr) : unTrA (trL t) = t := by
  rcases (Classical.choose_spec (unTrA_ex (trL t)) (isTrA_trL t)).2 with h | h
  · exact (trL_inj _ _ h).symm
  · simp [trL, trF] at h
theorem unTrA_trF (t : Tr) : unTrA (trF t) = t := by
  rcases (Classical.choose_spec (unTrA_ex (trF t)) (isTrA_trF t)).2 with h | h
  · simp [trL, trF] at h
  · exact (trF_inj _ _ h).symm
def wrOk (D : Nat) (t : Tr) : Bool := decide (trDepth t < D) && decide (D ≤ 11)
def preWr (D : Nat) : List F → Bool | [t] => isTrA t && wrOk D (unTrA t) | _ => false
def resWr : List F → F | [t] => blocksF (writeV (unTrA t)) | _ => .dflt
def envWr (D : Nat) : Env := envB1.add 36 (.pure (preWr D) resWr)
def ptOk (D : Nat) (t : Tr) (l : List It) : Bool := decide (trDepth t < D) && decide (l.length ≤ 1000) && idsLe 1000 t
def prePt (D : Nat) : List F → Nat → (Nat → F) → Bool
  | [t, .int .i64 _, .agg [.int .i64 _, .int .i64 _, .int .i64 _, .int .i64 _], .int .i64 _, .int .i64 _], n, g => isTr t && isItems (.sl n g) && ptOk D (unTr t) (unItems (.sl n g))
  | _, _, _ => false
def resPt : List F → Nat → (Nat → F) → F
  | [t, .int .i64 id, .agg [.int .i64 a, .int .i64 b, .int .i64 c, .int .i64 d], .int .i64 most, .int .i64 deep], n, g => trL (putV (unItems (.sl n g)) id ⟨a, b, c, d⟩ most (unTr t) deep)
  | _, _, _ => .dflt
def envPt (D : Nat) : Env := envB1.add 37 (.lentd 5 (prePt D) resPt)
def ctOk (D : Nat) (most : Int) (t : Tr) : Bool := decide (trDepth t < D) && decide (most ≤ 1000) && idsLe 1000 t
def preCt (D : Nat) : List F → Bool | [t, .int .i64 _, .int .i64 most] => isTrA t && ctOk D most (unTrA t) | _ => false
def resCt : List F → F | [t, .int .i64 id, .int .i64 most] => trL (cutV id most (unTrA t)) | _ => .dflt
def envCt (D : Nat) : Env := envB1.add 40 (.pure (preCt D) resCt)
end
end Go.Proofs.Ytbnainbjcaekjaa.R
namespace Go.Proofs.Ytbnainbjcaekjaa.R
open Go
noncomputable section
/-! ### function 36 -/
def S36l_5  : St := ⟨[.bad, .bad, .bad, .bad, .bad, .bad, .bad, .bad, .bad, .bad, .bad, .bad, .bad, .bad, .bad, .bad, .bad, .bad, .bad, .bad, .bad, .bad, .bad, .bad, .bad, .bad, .bad, .bad, .bad, .bad, .bad, .bad, .bad, .bad, .bad, .bad, .bad, .bad, .bad, .bad, .bad, .bad, .bad], []⟩
def T36l_5 {ρ : Type} (D : Nat) (ret : KJ54 ρ) (c5 : Option ρ)  : Option ρ :=
 none
def L36l_5 (D : Nat) : Nat → Option ((Nat) × (Nat → F))
  | 0 => none
  | k + 1 => T36l_5 D (fun rn rg => some (rn, rg)) (L36l_5 D k) 
def T36l {ρ : Type} (D : Nat) (ret : KJ54 ρ) (c5 : Option ρ) (x : Int) (y : Int) (s : Int) (ids : List Int) : Option ρ :=
 (ret (1) (lget [F.agg [F.int .i64 (Tr.leaf x y s ids).x, F.int .i64 (Tr.leaf x y s ids).y, F.int .i64 (Tr.leaf x y s ids).size, F.bool false, intsF (Tr.leaf x y s ids).ids]]))
def G36l (D : Nat) (k : Nat) (x : Int) (y : Int) (s : Int) (ids : List Int) : Option ((Nat) × (Nat → F)) := T36l D (fun rn rg => some (rn, rg)) (L36l_5 D k) x y s ids
theorem t36l (D : Nat) (hE : EnvOK Try.prog (envWr D)) (k : Nat) (x : Int) (y : Int) (s : Int) (ids : List Int) (rn : Nat) (rg : Nat → F) (h : G36l D k x y s ids = some (rn, rg)) : Ends Try.prog Try.f36.results.toList [.code (bodyOf Try.f36)] (start Try.f36.ntmps ([trL (Tr.leaf x y s ids)].map .f)) (F.sl rn rg) := by
  refine Ends.of_run tyOK hE (T := [(5, [1, 3, 4], 1000)]) (n := 200) ?_
  have e : run Try.prog (tiOf Try.prog) (envWr D) [(5, [1, 3, 4], 1000)] 0 Try.f36.results.toList some 200 [.code (bodyOf Try.f36)] (start Try.f36.ntmps ([trL (Tr.leaf x y s ids)].map .f)) = T36l D (fun rn rg => some (.ret (F.sl rn rg))) (some (.cut (at_ Try.f36 5) (S36l_5 ))) x y s ids := by kernel_rfl
  rw [e]
  exact good_ret (by cases h; rfl)
/-! ### function 36 -/
def S36n_5n0 (x : Int) (y : Int) (s : Int) (a : Tr) (b : Tr) (c : Tr) (d : Tr) (m : Nat) (kg : Nat → F) : St := ⟨[.bad, (U.hp 0 0), .bad, (U.hs 1 m 0 m), (U.f (F.int .i64 0)), .bad, .bad, .bad, .bad, .bad, .bad, .bad, .bad, .bad, .bad, .bad, .bad, .bad, .bad, .bad, .bad, .bad, .bad, .bad, .bad, .bad, .bad, .bad, .bad, .bad, .bad, .bad, .bad, .bad, .bad, .bad, .bad, .bad, .bad, .bad, .bad, .bad, .bad], [HO.box [(U.f (F.int .i64 x)), (U.f (F.int .i64 y)), (U.f (F.int .i64 s)), (U.f (F.sl 4 (kidL (Tr.node x y s a b c d)))), (U.f (intsF []))], HO.arr 5 m kg]⟩
def S36n_5n1 (x : Int) (y : Int) (s : Int) (a : Tr) (b : Tr) (c : Tr) (d : Tr) (m : Nat) (kg : Nat → F) : St := ⟨[.bad, (U.hp 0 0), .bad, (U.hs 1 m 0 m), (U.f (F.int .i64 1)), .bad, .bad, .bad, .bad, .bad, .bad, .bad, .bad, .bad, .bad, .bad, .bad, .bad, .bad, .bad, .bad, .bad, .bad, .bad, .bad, .bad, .bad, .bad, .bad, .bad, .bad, .bad, .bad, .bad, .bad, .bad, .bad, .bad, .bad, .bad, .bad, .bad, .bad], [HO.box [(U.f (F.int .i64 x)), (U.f (F.int .i64 y)), (U.f (F.int .i64 s)), (U.f (F.sl 4 (kidL (Tr.node x y s a b c d)))), (U.f (intsF []))], HO.arr 5 m kg]⟩
def S36n_5n2 (x : Int) (y : Int) (s : Int) (a : Tr) (b : Tr) (c : Tr) (d : Tr) (m : Nat) (kg : Nat → F) : St := ⟨[.bad, (U.hp 0 0), .bad, (U.hs 1 m 0 m), (U.f (F.int .i64 2)), .bad, .bad, .bad, .bad, .bad, .bad, .bad, .bad, .bad, .bad, .bad, .bad, .bad, .bad, .bad, .bad, .bad, .bad, .bad, .bad, .bad, .bad, .bad, .bad, .bad, .bad, .bad, .bad, .bad, .bad, .bad, .bad, .bad, .bad, .bad, .bad, .bad, .bad], [HO.box [(U.f (F.int .i64 x)), (U.f (F.int .i64 y)), (U.f (F.int .i64 s)), (U.f (F.sl 4 (kidL (Tr.node x y s a b c d)))), (U.f (intsF []))], HO.arr 5 m kg]⟩
def S36n_5n3 (x : Int) (y : Int) (s : Int) (a : Tr) (b : Tr) (c : Tr) (d : Tr) (m : Nat) (kg : Nat → F) : St := ⟨[.bad, (U.hp 0 0), .bad, (U.hs 1 m 0 m), (U.f (F.int .i64 3)), .bad, .bad, .bad, .bad, .bad, .bad, .bad, .bad, .bad, .bad, .bad, .bad, .bad, .bad, .bad, .bad, .bad, .bad, .bad, .bad, .bad, .bad, .bad, .bad, .bad, .bad, .bad, .bad, .bad, .bad, .bad, .bad, .bad, .bad, .bad, .bad, .bad, .bad], [HO.box [(U.f (F.int .i64 x)), (U.f (F.int .i64 y)), (U.f (F.int .i64 s)), (U.f (F.sl 4 (kidL (Tr.node x y s a b c d)))), (U.f (intsF []))], HO.arr 5 m kg]⟩
def S36n_5n4 (x : Int) (y : Int) (s : Int) (a : Tr) (b : Tr) (c : Tr) (d : Tr) (m : Nat) (kg : Nat → F) : St := ⟨[.bad, (U.hp 0 0), .bad, (U.hs 1 m 0 m), (U.f (F.int .i64 4)), .bad, .bad, .bad, .bad, .bad, .bad, .bad, .bad, .bad, .bad, .bad, .bad, .bad, .bad, .bad, .bad, .bad, .bad, .bad, .bad, .bad, .bad, .bad, .bad, .bad, .bad, .bad, .bad, .bad, .bad, .bad, .bad, .bad, .bad, .bad, .bad, .bad, .bad], [HO.box [(U.f (F.int .i64 x)), (U.f (F.int .i64 y)), (U.f (F.int .i64 s)), (U.f (F.sl 4 (kidL (Tr.node x y s a b c d)))), (U.f (intsF []))], HO.arr 5 m kg]⟩
abbrev KJ51 (ρ : Type) := (Int) → (Int) → (Int) → (Tr) → (Tr) → (Tr) → (Tr) → (Nat) → (Nat → F) → Option ρ
def T36n_5n0 {ρ : Type} (D : Nat) (ret : KJ54 ρ) (c5n0 : KJ51 ρ) (c5n1 : KJ51 ρ) (c5n2 : KJ51 ρ) (c5n3 : KJ51 ρ) (c5n4 : KJ51 ρ) (x : Int) (y : Int) (s : Int) (a : Tr) (b : Tr) (c : Tr) (d : Tr) (m : Nat) (kg : Nat → F) : Option ρ :=
 (bsel (isTrA (trL a) && wrOk D (unTrA (trL a)))
 (bsel (decide (m = m))
 (bsel (decide (m = m))
 (bsel (decide ((↑(m + (writeV (unTrA (trL a))).length) : Int) * (((56 : Nat) : Int) + 1) ≤ (↑limit : Int)))
 (c5n1 (x) (y) (s) (a) (b) (c) (d) (m + (writeV (unTrA (trL a))).length) (fun j ↦ if j < m then kg j else one (writeV (unTrA (trL a))).length (fun i ↦ bkF ((writeV (unTrA (trL a))).getD i Bk.zero)) (j - m)))
 none)
 none)
 none)
 none)
def T36n_5n1 {ρ : Type} (D : Nat) (ret : KJ54 ρ) (c5n0 : KJ51 ρ) (c5n1 : KJ51 ρ) (c5n2 : KJ51 ρ) (c5n3 : KJ51 ρ) (c5n4 : KJ51 ρ) (x : Int) (y : Int) (s : Int) (a : Tr) (b : Tr) (c : Tr) (d : Tr) (m : Nat) (kg : Nat → F) : Option ρ :=
 (bsel (isTrA (trL b) && wrOk D (unTrA (trL b)))
 (bsel (decide (m = m))
 (bsel (decide (m = m))
 (bsel (decide ((↑(m + (writeV (unTrA (trL b))).length) : Int) * (((56 : Nat) : Int) + 1) ≤ (↑limit : Int)))
 (c5n2 (x) (y) (s) (a) (b) (c) (d) (m + (writeV (unTrA (trL b))).length) (fun j ↦ if j < m then kg j else one (writeV (unTrA (trL b))).length (fun i ↦ bkF ((writeV (unTrA (trL b))).getD i Bk.zero)) (j - m)))
 none)
 none)
 none)
 none)
def T36n_5n2 {ρ : Type} (D : Nat) (ret : KJ54 ρ) (c5n0 : KJ51 ρ) (c5n1 : KJ51 ρ) (c5n2 : KJ51 ρ) (c5n3 : KJ51 ρ) (c5n4 : KJ51 ρ) (x : Int) (y : Int) (s : Int) (a : Tr) (b : Tr) (c : Tr) (d : Tr) (m : Nat) (kg : Nat → F) : Option ρ :=
 (bsel (isTrA (trL c) && wrOk D (unTrA (trL c)))
 (bsel (decide (m = m))
 (bsel (decide (m = m))
 (bsel (decide ((↑(m + (writeV (unTrA (trL c))).length) : Int) * (((56 : Nat) : Int) + 1) ≤ (↑limit : Int)))
 (c5n3 (x) (y) (s) (a) (b) (c) (d) (m + (writeV (unTrA (trL c))).length) (fun j ↦ if j < m then kg j else one (writeV (unTrA (trL c))).length (fun i ↦ bkF ((writeV (unTrA (trL c))).getD i Bk.zero)) (j - m)))
 none)
 none)
 none)
 none)
def T36n_5n3 {ρ : Type} (D : Nat) (ret : KJ54 ρ) (c5n0 : KJ51 ρ) (c5n1 : KJ51 ρ) (c5n2 : KJ51 ρ) (c5n3 : KJ51 ρ) (c5n4 : KJ51 ρ) (x : Int) (y : Int) (s : Int) (a : Tr) (b : Tr) (c : Tr) (d : Tr) (m : Nat) (kg : Nat → F) : Option ρ :=
 (bsel (isTrA (trL d) && wrOk D (unTrA (trL d)))
 (bsel (decide (m = m))
 (bsel (decide (m = m))
 (bsel (decide ((↑(m + (writeV (unTrA (trL d))).length) : Int) * (((56 : Nat) : Int) + 1) ≤ (↑limit : Int)))
 (c5n4 (x) (y) (s) (a) (b) (c) (d) (m + (writeV (unTrA (trL d))).length) (fun j ↦ if j < m then kg j else one (writeV (unTrA (trL d))).length (fun i ↦ bkF ((writeV (unTrA (trL d))).getD i Bk.zero)) (j - m)))
 none)
 none)
 none)
 none)
def T36n_5n4 {ρ : Type} (D : Nat) (ret : KJ54 ρ) (c5n0 : KJ51 ρ) (c5n1 : KJ51 ρ) (c5n2 : KJ51 ρ) (c5n3 : KJ51 ρ) (c5n4 : KJ51 ρ) (x : Int) (y : Int) (s : Int) (a : Tr) (b : Tr) (c : Tr) (d : Tr) (m : Nat) (kg : Nat → F) : Option ρ :=
 (bsel (decide (m = m))
 (ret (m) (kg))
 none)
mutual
def L36n_5n0 (D : Nat) : Nat → (Int) → (Int) → (Int) → (Tr) → (Tr) → (Tr) → (Tr) → (Nat) → (Nat → F) → Option ((Nat) × (Nat → F))
  | 0, _, _, _, _, _, _, _, _, _ => none
  | k + 1, x, y, s, a, b, c, d, m, kg => T36n_5n0 D (fun rn rg => some (rn, rg)) (L36n_5n0 D k) (L36n_5n1 D k) (L36n_5n2 D k) (L36n_5n3 D k) (L36n_5n4 D k) x y s a b c d m kg
  termination_by structural k => k
def L36n_5n1 (D : Nat) : Nat → (Int) → (Int) → (Int) → (Tr) → (Tr) → (Tr) → (Tr) → (Nat) → (Nat → F) → Option ((Nat) × (Nat → F))
  | 0, _, _, _, _, _, _, _, _, _ => none
  | k + 1, x, y, s, a, b, c, d, m, kg => T36n_5n1 D (fun rn rg => some (rn, rg)) (L36n_5n0 D k) (L36n_5n1 D k) (L36n_5n2 D k) (L36n_5n3 D k) (L36n_5n4 D k) x y s a b c d m kg
  termination_by structural k => k
def L36n_5n2 (D : Nat) : Nat → (Int) → (Int) → (Int) → (Tr) → (Tr) → (Tr) → (Tr) → (Nat) → (Nat → F) → Option ((Nat) × (Nat → F))
  | 0, _, _, _, _, _, _, _, _, _ => none
  | k + 1, x, y, s, a, b, c, d, m, kg => T36n_5n2 D (fun rn rg => some (rn, rg)) (L36n_5n0 D k) (L36n_5n1 D k) (L36n_5n2 D k) (L36n_5n3 D k) (L36n_5n4 D k) x y s a b c d m kg
  termination_by structural k => k
def L36n_5n3 (D : Nat) : Nat → (Int) → (Int) → (Int) → (Tr) → (Tr) → (Tr) → (Tr) → (Nat) → (Nat → F) → Option ((Nat) × (Nat → F))
  | 0, _, _, _, _, _, _, _, _, _ => none
  | k + 1, x, y, s, a, b, c, d, m, kg => T36n_5n3 D (fun rn rg => some (rn, rg)) (L36n_5n0 D k) (L36n_5n1 D k) (L36n_5n2 D k) (L36n_5n3 D k) (L36n_5n4 D k) x y s a b c d m kg
  termination_by structural k => k
def L36n_5n4 (D : Nat) : Nat → (Int) → (Int) → (Int) → (Tr) → (Tr) → (Tr) → (Tr) → (Nat) → (Nat → F) → Option ((Nat) × (Nat → F))
  | 0, _, _, _, _, _, _, _, _, _ => none
  | k + 1, x, y, s, a, b, c, d, m, kg => T36n_5n4 D (fun rn rg => some (rn, rg)) (L36n_5n0 D k) (L36n_5n1 D k) (L36n_5n2 D k) (L36n_5n3 D k) (L36n_5n4 D k) x y s a b c d m kg
  termination_by structural k => k
end
def T36n {ρ : Type} (D : Nat) (ret : KJ54 ρ) (c5n0 : KJ51 ρ) (c5n1 : KJ51 ρ) (c5n2 : KJ51 ρ) (c5n3 : KJ51 ρ) (c5n4 : KJ51 ρ) (x : Int) (y : Int) (s : Int) (a : Tr) (b : Tr) (c : Tr) (d : Tr) : Option ρ :=
 (c5n0 ((Tr.node x y s a b c d).x) ((Tr.node x y s a b c d).y) ((Tr.node x y s a b c d).size) (a) (b) (c) (d) (1) (lget [F.agg [F.int .i64 (Tr.node x y s a b c d).x, F.int .i64 (Tr.node x y s a b c d).y, F.int .i64 (Tr.node x y s a b c d).size, F.bool true, F.sl 0 fun x ↦ F.bool false]]))
def G36n (D : Nat) (k : Nat) (x : Int) (y : Int) (s : Int) (a : Tr) (b : Tr) (c : Tr) (d : Tr) : Option ((Nat) × (Nat → F)) := T36n D (fun rn rg => some (rn, rg)) (L36n_5n0 D k) (L36n_5n1 D k) (L36n_5n2 D k) (L36n_5n3 D k) (L36n_5n4 D k) x y s a b c d
mutual
theorem t36n_5n0 (D : Nat) (hE : EnvOK Try.prog (envWr D)) : ∀ (k : Nat) (x : Int) (y : Int) (s : Int) (a : Tr) (b : Tr) (c : Tr) (d : Tr) (m : Nat) (kg : Nat → F) (rn : Nat) (rg : Nat → F), L36n_5n0 D k x y s a b c d m kg = some (rn, rg) → Ends Try.prog Try.f36.results.toList (at_ Try.f36 5) (S36n_5n0 x y s a b c d m kg) (F.sl rn rg)
  | 0, _, _, _, _, _, _, _, _, _, _, _, h => nomatch h
  | k + 1, x, y, s, a, b, c, d, m, kg, rn, rg, h => by
    refine Ends.of_cut tyOK hE (T := [(5, [1, 3, 4], 1000)]) (n := 200) ?_
    have e : runCut Try.prog (tiOf Try.prog) (envWr D) [(5, [1, 3, 4], 1000)] 0 Try.f36.results.toList some 200 (at_ Try.f36 5) (S36n_5n0 x y s a b c d m kg) = T36n_5n0 D (fun rn rg => some (.ret (F.sl rn rg))) (fun x y s a b c d m kg => some (.cut (at_ Try.f36 5) (S36n_5n0 x y s a b c d m kg))) (fun x y s a b c d m kg => some (.cut (at_ Try.f36 5) (S36n_5n1 x y s a b c d m kg))) (fun x y s a b c d m kg => some (.cut (at_ Try.f36 5) (S36n_5n2 x y s a b c d m kg))) (fun x y s a b c d m kg => some (.cut (at_ Try.f36 5) (S36n_5n3 x y s a b c d m kg))) (fun x y s a b c d m kg => some (.cut (at_ Try.f36 5) (S36n_5n4 x y s a b c d m kg))) x y s a b c d m kg := by kernel_rfl
    rw [e]
    exact (good_sel h (fun _ h => (good_sel h (fun _ h => (good_sel h (fun _ h => (good_sel h (fun _ h => good_cut (t36n_5n1 D hE k _ _ _ _ _ _ _ _ _ rn rg h)) (fun _ h => nomatch h))) (fun _ h => nomatch h))) (fun _ h => nomatch h))) (fun _ h => nomatch h))
theorem t36n_5n1 (D : Nat) (hE : EnvOK Try.prog (envWr D)) : ∀ (k : Nat) (x : Int) (y : Int) (s : Int) (a : Tr) (b : Tr) (c : Tr) (d : Tr) (m : Nat) (kg : Nat → F) (rn : Nat) (rg : Nat → F), L36n_5n1 D k x y s a b c d m kg = some (rn, rg) → Ends Try.prog Try.f36.results.toList (at_ Try.f36 5) (S36n_5n1 x y s a b c d m kg) (F.sl rn rg)
  | 0, _, _, _, _, _, _, _, _, _, _, _, h => nomatch h
  | k + 1, x, y, s, a, b, c, d, m, kg, rn, rg, h => by
    refine Ends.of_cut tyOK hE (T := [(5, [1, 3, 4], 1000)]) (n := 200) ?_
    have e : runCut Try.prog (tiOf Try.prog) (envWr D) [(5, [1, 3, 4], 1000)] 0 Try.f36.results.toList some 200 (at_ Try.f36 5) (S36n_5n1 x y s a b c d m kg) = T36n_5n1 D (fun rn rg => some (.ret (F.sl rn rg))) (fun x y s a b c d m kg => some (.cut (at_ Try.f36 5) (S36n_5n0 x y s a b c d m kg))) (fun x y s a b c d m kg => some (.cut (at_ Try.f36 5) (S36n_5n1 x y s a b c d m kg))) (fun x y s a b c d m kg => some (.cut (at_ Try.f36 5) (S36n_5n2 x y s a b c d m kg))) (fun x y s a b c d m kg => some (.cut (at_ Try.f36 5) (S36n_5n3 x y s a b c d m kg))) (fun x y s a b c d m kg => some (.cut (at_ Try.f36 5) (S36n_5n4 x y s a b c d m kg))) x y s a b c d m kg := by kernel_rfl
    rw [e]
    exact (good_sel h (fun _ h => (good_sel h (fun _ h => (good_sel h (fun _ h => (good_sel h (fun _ h => good_cut (t36n_5n2 D hE k _ _ _ _ _ _ _ _ _ rn rg h)) (fun _ h => nomatch h))) (fun _ h => nomatch h))) (fun _ h => nomatch h))) (fun _ h => nomatch h))
theorem t36n_5n2 (D : Nat) (hE : EnvOK Try.prog (envWr D)) : ∀ (k : Nat) (x : Int) (y : Int) (s : Int) (a : Tr) (b : Tr) (c : Tr) (d : Tr) (m : Nat) (kg : Nat → F) (rn : Nat) (rg : Nat → F), L36n_5n2 D k x y s a b c d m kg = some (rn, rg) → Ends Try.prog Try.f36.results.toList (at_ Try.f36 5) (S36n_5n2 x y s a b c d m kg) (F.sl rn rg)
  | 0, _, _, _, _, _, _, _, _, _, _, _, h => nomatch h
  | k + 1, x, y, s, a, b, c, d, m, kg, rn, rg, h => by
    refine Ends.of_cut tyOK hE (T := [(5, [1, 3, 4], 1000)]) (n := 200) ?_
    have e : runCut Try.prog (tiOf Try.prog) (envWr D) [(5, [1, 3, 4], 1000)] 0 Try.f36.results.toList some 200 (at_ Try.f36 5) (S36n_5n2 x y s a b c d m kg) = T36n_5n2 D (fun rn rg => some (.ret (F.sl rn rg))) (fun x y s a b c d m kg => some (.cut (at_ Try.f36 5) (S36n_5n0 x y s a b c d m kg))) (fun x y s a b c d m kg => some (.cut (at_ Try.f36 5) (S36n_5n1 x y s a b c d m kg))) (fun x y s a b c d m kg => some (.cut (at_ Try.f36 5) (S36n_5n2 x y s a b c d m kg))) (fun x y s a b c d m kg => some (.cut (at_ Try.f36 5) (S36n_5n3 x y s a b c d m kg))) (fun x y s a b c d m kg => some (.cut (at_ Try.f36 5) (S36n_5n4 x y s a b c d m kg))) x y s a b c d m kg := by kernel_rfl
    rw [e]
    exact (good_sel h (fun _ h => (good_sel h (fun _ h => (good_sel h (fun _ h => (good_sel h (fun _ h => good_cut (t36n_5n3 D hE k _ _ _ _ _ _ _ _ _ rn rg h)) (fun _ h => nomatch h))) (fun _ h => nomatch h))) (fun _ h => nomatch h))) (fun _ h => nomatch h))
theorem t36n_5n3 (D : Nat) (hE : EnvOK Try.prog (envWr D)) : ∀ (k : Nat) (x : Int) (y : Int) (s : Int) (a : Tr) (b : Tr) (c : Tr) (d : Tr) (m : Nat) (kg : Nat → F) (rn : Nat) (rg : Nat → F), L36n_5n3 D k x y s a b c d m kg = some (rn, rg) → Ends Try.prog Try.f36.results.toList (at_ Try.f36 5) (S36n_5n3 x y s a b c d m kg) (F.sl rn rg)
  | 0, _, _, _, _, _, _, _, _, _, _, _, h => nomatch h
  | k + 1, x, y, s, a, b, c, d, m, kg, rn, rg, h => by
    refine Ends.of_cut tyOK hE (T := [(5, [1, 3, 4], 1000)]) (n := 200) ?_
    have e : runCut Try.prog (tiOf Try.prog) (envWr D) [(5, [1, 3, 4], 1000)] 0 Try.f36.results.toList some 200 (at_ Try.f36 5) (S36n_5n3 x y s a b c d m kg) = T36n_5n3 D (fun rn rg => some (.ret (F.sl rn rg))) (fun x y s a b c d m kg => some (.cut (at_ Try.f36 5) (S36n_5n0 x y s a b c d m kg))) (fun x y s a b c d m kg => some (.cut (at_ Try.f36 5) (S36n_5n1 x y s a b c d m kg))) (fun x y s a b c d m kg => some (.cut (at_ Try.f36 5) (S36n_5n2 x y s a b c d m kg))) (fun x y s a b c d m kg => some (.cut (at_ Try.f36 5) (S36n_5n3 x y s a b c d m kg))) (fun x y s a b c d m kg => some (.cut (at_ Try.f36 5) (S36n_5n4 x y s a b c d m kg))) x y s a b c d m kg := by kernel_rfl
    rw [e]
    exact (good_sel h (fun _ h => (good_sel h (fun _ h => (good_sel h (fun _ h => (good_sel h (fun _ h => good_cut (t36n_5n4 D hE k _ _ _ _ _ _ _ _ _ rn rg h)) (fun _ h => nomatch h))) (fun _ h => nomatch h))) (fun _ h => nomatch h))) (fun _ h => nomatch h))
theorem t36n_5n4 (D : Nat) (hE : EnvOK Try.prog (envWr D)) : ∀ (k : Nat) (x : Int) (y : Int) (s : Int) (a : Tr) (b : Tr) (c : Tr) (d : Tr) (m : Nat) (kg : Nat → F) (rn : Nat) (rg : Nat → F), L36n_5n4 D k x y s a b c d m kg = some (rn, rg) → Ends Try.prog Try.f36.results.toList (at_ Try.f36 5) (S36n_5n4 x y s a b c d m kg) (F.sl rn rg)
  | 0, _, _, _, _, _, _, _, _, _, _, _, h => nomatch h
  | k + 1, x, y, s, a, b, c, d, m, kg, rn, rg, h => by
    refine Ends.of_cut tyOK hE (T := [(5, [1, 3, 4], 1000)]) (n := 200) ?_
    have e : runCut Try.prog (tiOf Try.prog) (envWr D) [(5, [1, 3, 4], 1000)] 0 Try.f36.results.toList some 200 (at_ Try.f36 5) (S36n_5n4 x y s a b c d m kg) = T36n_5n4 D (fun rn rg => some (.ret (F.sl rn rg))) (fun x y s a b c d m kg => some (.cut (at_ Try.f36 5) (S36n_5n0 x y s a b c d m kg))) (fun x y s a b c d m kg => some (.cut (at_ Try.f36 5) (S36n_5n1 x y s a b c d m kg))) (fun x y s a b c d m kg => some (.cut (at_ Try.f36 5) (S36n_5n2 x y s a b c d m kg))) (fun x y s a b c d m kg => some (.cut (at_ Try.f36 5) (S36n_5n3 x y s a b c d m kg))) (fun x y s a b c d m kg => some (.cut (at_ Try.f36 5) (S36n_5n4 x y s a b c d m kg))) x y s a b c d m kg := by kernel_rfl
    rw [e]
    exact (good_sel h (fun _ h => good_ret (by cases h; rfl)) (fun _ h => nomatch h))
end
theorem t36n (D : Nat) (hE : EnvOK Try.prog (envWr D)) (k : Nat) (x : Int) (y : Int) (s : Int) (a : Tr) (b : Tr) (c : Tr) (d : Tr) (rn : Nat) (rg : Nat → F) (h : G36n D k x y s a b c d = some (rn, rg)) : Ends Try.prog Try.f36.results.toList [.code (bodyOf Try.f36)] (start Try.f36.ntmps ([trL (Tr.node x y s a b c d)].map .f)) (F.sl rn rg) := by
  refine Ends.of_run tyOK hE (T := [(5, [1, 3, 4], 1000)]) (n := 200) ?_
  have e : run Try.prog (tiOf Try.prog) (envWr D) [(5, [1, 3, 4], 1000)] 0 Try.f36.results.toList some 200 [.code (bodyOf Try.f36)] (start Try.f36.ntmps ([trL (Tr.node x y s a b c d)].map .f)) = T36n D (fun rn rg => some (.ret (F.sl rn rg))) (fun x y s a b c d m kg => some (.cut (at_ Try.f36 5) (S36n_5n0 x y s a b c d m kg))) (fun x y s a b c d m kg => some (.cut (at_ Try.f36 5) (S36n_5n1 x y s a b c d m kg))) (fun x y s a b c d m kg => some (.cut (at_ Try.f36 5) (S36n_5n2 x y s a b c d m kg))) (fun x y s a b c d m kg => some (.cut (at_ Try.f36 5) (S36n_5n3 x y s a b c d m kg))) (fun x y s a b c d m kg => some (.cut (at_ Try.f36 5) (S36n_5n4 x y s a b c d m kg))) x y s a b c d := by kernel_rfl
  rw [e]
  exact good_cut (t36n_5n0 D hE k _ _ _ _ _ _ _ _ _ rn rg h)
def ListsE {α : Type} (enc : α → F) (d : α) (n : Nat) (g : Nat → F) (o : List α) : Prop := n = o.length ∧ ∀ j, j < n → ElLe (g j) (enc (o.getD j d))
theorem ListsE.le {α : Type} {enc : α → F} {d : α} {n : Nat} {g : Nat → F} {o : List α} (h : ListsE enc d n g o) : FLe (.sl n g) (slF enc d o) := by
  obtain ⟨rfl, h2⟩ := h
  exact FLe.slEl h2
theorem ListsE.app {α : Type} {enc : α → F} {d : α} {n : Nat} {g : Nat → F} {o : List α} (h : ListsE enc d n g o) (l : List α) : ListsE enc d (n + l.length) (fun j => if j < n then g j else one l.length (fun i => enc (l.getD i d)) (j - n)) (o ++ l) := by
  obtain ⟨rfl, h2⟩ := h
  refine ⟨by simp, fun j hj => ?_⟩
  by_cases hjn : j < o.length
  · simp only [if_pos hjn, List.getD]
    rw [List.getElem?_append_left hjn]
    exact h2 j hjn
  · simp only [if_neg hjn, List.getD]
    rw [List.getElem?_append_right (by omega), one_app (by omega)]
    exact ElLe.refl _
theorem write_node (D : Nat) (x y s : Int) (a b c d : Tr) (ho : wrOk (D + 1) (.node x y s a b c d) = true) : ∃ rn rg, G36n D 5 x y s a b c d = some (rn, rg) ∧ ListsE bkF .zero rn rg (writeV (.node x y s a b c d)) := by
  simp only [wrOk, Bool.and_eq_true, decide_eq_true_eq, trDepth] at ho
  obtain ⟨ho, hD⟩ := ho
  have hm := Nat.max_lt.1 (Nat.lt_of_succ_lt_succ (of_decide_eq_true ho))
  have hm1 := Nat.max_lt.1 hm.1
  have hm2 := Nat.max_lt.1 hm.2
  have ok : ∀ t, trDepth t < D → wrOk D t = true := fun t ht => by simp only [wrOk, Bool.and_eq_true, decide_eq_true_eq]; exact ⟨ht, by omega⟩
  have la := writeV_small (t := a) (by omega)
  have lb := writeV_small (t := b) (by omega)
  have lc := writeV_small (t := c) (by omega)
  have ld := writeV_small (t := d) (by omega)
  have lim : ∀ n : Nat, n ≤ 6000000 → decide ((n : Int) * (((56 : Nat) : Int) + 1) ≤ (limit : Int)) = true := fun n hn => by rw [limit_eq]; exact decide_eq_true (by omega)
  have c1 := lim (1 + (writeV a).length) (by omega)
  have c2 := lim (1 + (writeV a).length + (writeV b).length) (by omega)
  have c3 := lim (1 + (writeV a).length + (writeV b).length + (writeV c).length) (by omega)
  have c4 := lim (1 + (writeV a).length + (writeV b).length + (writeV c).length + (writeV d).length) (by omega)
  have h0 : ListsE bkF .zero 1 (lget [F.agg [F.int .i64 x, F.int .i64 y, F.int .i64 s, F.bool true, F.sl 0 fun x => F.bool false]]) [⟨x, y, s, true, []⟩] := by
    refine ⟨rfl, fun j hj => ?_⟩
    obtain rfl : j = 0 := by omega
    exact ElLe.agg ⟨.refl _, .refl _, .refl _, .refl _, FLe.sl fun j hj => absurd hj (Nat.not_lt_zero _), trivial⟩ fun _ u hu => by
      simp only [List.mem_cons, List.not_mem_nil, or_false] at hu
      rcases hu with rfl | rfl | rfl | rfl | rfl <;> rfl
  have h4 := (((h0.app (writeV a)).app (writeV b)).app (writeV c)).app (writeV d)
  unfold G36n T36n
  simp only [L36n_5n0, T36n_5n0, L36n_5n1, T36n_5n1, L36n_5n2, T36n_5n2, L36n_5n3, T36n_5n3, L36n_5n4, T36n_5n4, isTrA_trL, unTrA_trL, ok a hm1.1, ok b hm1.2, ok c hm2.1, ok d hm2.2, c1, c2, c3, c4, Bool.and_true, Bool.and_self, bsel_true, if_true, decide_true]
  refine ⟨_, _, rfl, ?_⟩
  have e : writeV (.node x y s a b c d) = [⟨x, y, s, true, []⟩] ++ writeV a ++ writeV b ++ writeV c ++ writeV d := by simp [writeV]
  rw [e]
  exact h4
theorem okWrite : ∀ D, PureOK Try.prog 36 (preWr D) resWr
  | 0 => by
    intro xs hp
    exfalso
    unfold preWr at hp
    split at hp
    · simp only [wrOk, Bool.and_eq_true, decide_eq_true_eq] at hp
      omega
    · cases hp
  | D + 1 => fn_pure_at (c := bodyOf Try.f36) Try.func36 (by kernel_rfl) (by kernel_rfl) fun xs hp => match xs, hp with
    | [t], hp => by
      simp only [preWr, Bool.and_eq_true] at hp
      obtain ⟨h1, h3⟩ := hp
      have ht := trA_le h1
      have hr : resWr [t] = blocksF (writeV (unTrA t)) := rfl
      rw [hr]
      generalize unTrA t = t' at ht h3 ⊢
      cases t' with
      | leaf x y s ids =>
        refine ⟨[trL (.leaf x y s ids)], _, ⟨ht, trivial⟩, t36l D (Env.add_ok envB1_ok (okWrite D).sp) 5 x y s ids _ _ rfl, ?_⟩
        have : ListsE bkF .zero 1 (lget [F.agg [F.int .i64 x, F.int .i64 y, F.int .i64 s, F.bool false, intsF ids]]) [⟨x, y, s, false, ids⟩] := ⟨rfl, fun j hj => by
          obtain rfl : j = 0 := by omega
          exact ElLe.refl _⟩
        exact this.le
      | node x y s a b c d =>
        obtain ⟨rn, rg, e1, e2⟩ := write_node D x y s a b c d h3
        exact ⟨[trL (.node x y s a b c d)], _, ⟨ht, trivial⟩, t36n D (Env.add_ok envB1_ok (okWrite D).sp) 5 x y s a b c d _ _ e1, e2.le⟩
def envB3 : Env := envB1.add 36 (.pure (preWr 11) resWr)
theorem envB3_ok : EnvOK Try.prog envB3 := (Env.add_ok envB1_ok (okWrite 11).sp)
end
end Go.Proofs.Ytbnainbjcaekjaa.R
