/-
  The walk of trees, the first functions.
-/
import Derived.Test.YtjbilidfnfnpfaaQ0
namespace Go.Proofs.Ytjbilidfnfnpfaa.R
open Go
noncomputable section
set_option linter.unusedVariables false
set_option linter.unusedSimpArgs false
set_option maxRecDepth 100000
/-! ### function 86 -/
def S86_3a (l : List It) (x : Int) (y : Int) (sz : Int) (i : Int) : St := ⟨[.bad, (U.f (F.int .i64 x)), (U.f (F.int .i64 y)), (U.f (F.int .i64 sz)), .bad, .bad, .bad, .bad, (U.hp 0 0), (U.hp 1 0), .bad, .bad, .bad, .bad, .bad, .bad, .bad, (U.f (itemsF l)), (U.f (F.int .i64 l.length)), (U.f (F.int .i64 i)), .bad, .bad, .bad, .bad, .bad, .bad, .bad, .bad, .bad, .bad, .bad, .bad, .bad, .bad, .bad, .bad, .bad, .bad, .bad, .bad, .bad, .bad, .bad, .bad, .bad], [HO.box [(U.f (F.int .i64 0)), (U.f (F.int .i64 0)), (U.f (F.int .i64 0)), (U.f (F.bool false)), U.nils], HO.box [(U.f (F.int .i64 x)), (U.f (F.int .i64 y)), (U.f (F.int .i64 sz)), (U.f (F.bool false)), U.nils]]⟩
def S86_3b (l : List It) (x : Int) (y : Int) (sz : Int) (i : Int) (n : Nat) (g : Nat → F) : St := ⟨[.bad, (U.f (F.int .i64 x)), (U.f (F.int .i64 y)), (U.f (F.int .i64 sz)), .bad, .bad, .bad, .bad, (U.hp 0 0), (U.hp 1 0), .bad, .bad, .bad, .bad, .bad, .bad, .bad, (U.f (itemsF l)), (U.f (F.int .i64 l.length)), (U.f (F.int .i64 i)), .bad, .bad, .bad, .bad, .bad, .bad, .bad, .bad, .bad, .bad, .bad, .bad, .bad, .bad, .bad, .bad, .bad, .bad, .bad, .bad, .bad, .bad, .bad, .bad, .bad], [HO.box [(U.f (F.int .i64 0)), (U.f (F.int .i64 0)), (U.f (F.int .i64 0)), (U.f (F.bool false)), U.nils], HO.box [(U.f (F.int .i64 x)), (U.f (F.int .i64 y)), (U.f (F.int .i64 sz)), (U.f (F.bool false)), (U.hs 2 n 0 n)], HO.arr 1 n g]⟩
def T86_3a {ρ : Type} (ret : (Nat) → (Nat → F) → Option ρ) (c3a : (List It) → (Int) → (Int) → (Int) → (Int) → Option ρ) (c3b : (List It) → (Int) → (Int) → (Int) → (Int) → (Nat) → (Nat → F) → Option ρ) (l : List It) (x : Int) (y : Int) (sz : Int) (i : Int) : Option ρ :=
  (bsel (decide (i < (↑l.length : Int)))
   (bsel (decide (0 ≤ i))
    (bsel (decide (i < (↑l.length : Int)))
     (bsel (meetsV (l.getD i.toNat It.zero).x0 (l.getD i.toNat It.zero).y0 (l.getD i.toNat It.zero).x1 (l.getD i.toNat It.zero).y1 x y (IntKind.i64.wrap (x + sz)) (IntKind.i64.wrap (y + sz)))
      (bsel (decide (((1 : Nat) : Int) * (((8 : Nat) : Int) + 1) ≤ (↑limit : Int)))
       (c3b (l) (x) (y) (sz) (IntKind.i64.wrap (i + 1)) (1) (fun x ↦ F.int IntKind.i64 (l.getD i.toNat It.zero).id))
       none)
      (c3a (l) (x) (y) (sz) (IntKind.i64.wrap (i + 1))))
     none)
    none)
   (ret (0) (fun x ↦ F.bool false)))
def T86_3b {ρ : Type} (ret : (Nat) → (Nat → F) → Option ρ) (c3a : (List It) → (Int) → (Int) → (Int) → (Int) → Option ρ) (c3b : (List It) → (Int) → (Int) → (Int) → (Int) → (Nat) → (Nat → F) → Option ρ) (l : List It) (x : Int) (y : Int) (sz : Int) (i : Int) (n : Nat) (g : Nat → F) : Option ρ :=
  (bsel (decide (i < (↑l.length : Int)))
   (bsel (decide (0 ≤ i))
    (bsel (decide (i < (↑l.length : Int)))
     (bsel (meetsV (l.getD i.toNat It.zero).x0 (l.getD i.toNat It.zero).y0 (l.getD i.toNat It.zero).x1 (l.getD i.toNat It.zero).y1 x y (IntKind.i64.wrap (x + sz)) (IntKind.i64.wrap (y + sz)))
      (bsel (decide (n = n))
       (bsel (decide (n = n))
        (bsel (decide ((↑(n + 1) : Int) * (((8 : Nat) : Int) + 1) ≤ (↑limit : Int)))
         (c3b (l) (x) (y) (sz) (IntKind.i64.wrap (i + 1)) (n + 1) (fun j ↦ if j < n then g j else F.int IntKind.i64 (l.getD i.toNat It.zero).id))
         none)
        none)
       none)
      (c3b (l) (x) (y) (sz) (IntKind.i64.wrap (i + 1)) (n) (g)))
     none)
    none)
   (bsel (decide (n = n))
    (ret (n) (g))
    none))
mutual
def L86_3a : Nat → (List It) → (Int) → (Int) → (Int) → (Int) → Option ((Nat) × (Nat → F))
  | 0, _, _, _, _, _ => none
  | k + 1, l, x, y, sz, i => T86_3a (fun rn rg => some (rn, rg)) (L86_3a k) (L86_3b k) l x y sz i
def L86_3b : Nat → (List It) → (Int) → (Int) → (Int) → (Int) → (Nat) → (Nat → F) → Option ((Nat) × (Nat → F))
  | 0, _, _, _, _, _, _, _ => none
  | k + 1, l, x, y, sz, i, n, g => T86_3b (fun rn rg => some (rn, rg)) (L86_3a k) (L86_3b k) l x y sz i n g
end
def T86 {ρ : Type} (ret : (Nat) → (Nat → F) → Option ρ) (c3a : (List It) → (Int) → (Int) → (Int) → (Int) → Option ρ) (c3b : (List It) → (Int) → (Int) → (Int) → (Int) → (Nat) → (Nat → F) → Option ρ) (q : Qd) (x : Int) (y : Int) (sz : Int) : Option ρ :=
  (c3a (q.items) (x) (y) (sz) (0))
def G86 (k : Nat) (q : Qd) (x : Int) (y : Int) (sz : Int) : Option ((Nat) × (Nat → F)) := T86 (fun rn rg => some (rn, rg)) (L86_3a k) (L86_3b k) q x y sz
mutual
theorem t86_3a : ∀ (k : Nat) (l : List It) (x : Int) (y : Int) (sz : Int) (i : Int) (rn : Nat) (rg : Nat → F), L86_3a k l x y sz i = some (rn, rg) → Ends Try.prog Try.f86.results.toList (at_ Try.f86 3) (S86_3a l x y sz i) (F.agg [F.int .i64 x, F.int .i64 y, F.int .i64 sz, F.bool false, F.sl rn rg])
  | 0, _, _, _, _, _, _, _, h => nomatch h
  | k + 1, l, x, y, sz, i, rn, rg, h => by
    refine Ends.of_cut tyOK envW5_ok (T := [(3, [1, 2, 3, 8, 9, 17, 18, 19], 1000)]) (n := 200) ?_
    have e : runCut Try.prog (tiOf Try.prog) envW5 [(3, [1, 2, 3, 8, 9, 17, 18, 19], 1000)] 0 Try.f86.results.toList some 200 (at_ Try.f86 3) (S86_3a l x y sz i) = T86_3a (fun rn rg => some (.ret (F.agg [F.int .i64 x, F.int .i64 y, F.int .i64 sz, F.bool false, F.sl rn rg]))) (fun l x y sz i => some (.cut (at_ Try.f86 3) (S86_3a l x y sz i))) (fun l x y sz i n g => some (.cut (at_ Try.f86 3) (S86_3b l x y sz i n g))) l x y sz i := by kernel_rfl
    rw [e]
    exact (good_sel h (fun _ h => (good_sel h (fun _ h => (good_sel h (fun _ h => (good_sel h (fun _ h => (good_sel h (fun _ h => good_cut (t86_3b k _ _ _ _ _ _ _ rn rg h)) (fun _ h => nomatch h))) (fun _ h => good_cut (t86_3a k _ _ _ _ _ rn rg h)))) (fun _ h => nomatch h))) (fun _ h => nomatch h))) (fun _ h => good_ret (by cases h; rfl)))
theorem t86_3b : ∀ (k : Nat) (l : List It) (x : Int) (y : Int) (sz : Int) (i : Int) (n : Nat) (g : Nat → F) (rn : Nat) (rg : Nat → F), L86_3b k l x y sz i n g = some (rn, rg) → Ends Try.prog Try.f86.results.toList (at_ Try.f86 3) (S86_3b l x y sz i n g) (F.agg [F.int .i64 x, F.int .i64 y, F.int .i64 sz, F.bool false, F.sl rn rg])
  | 0, _, _, _, _, _, _, _, _, _, h => nomatch h
  | k + 1, l, x, y, sz, i, n, g, rn, rg, h => by
    refine Ends.of_cut tyOK envW5_ok (T := [(3, [1, 2, 3, 8, 9, 17, 18, 19], 1000)]) (n := 200) ?_
    have e : runCut Try.prog (tiOf Try.prog) envW5 [(3, [1, 2, 3, 8, 9, 17, 18, 19], 1000)] 0 Try.f86.results.toList some 200 (at_ Try.f86 3) (S86_3b l x y sz i n g) = T86_3b (fun rn rg => some (.ret (F.agg [F.int .i64 x, F.int .i64 y, F.int .i64 sz, F.bool false, F.sl rn rg]))) (fun l x y sz i => some (.cut (at_ Try.f86 3) (S86_3a l x y sz i))) (fun l x y sz i n g => some (.cut (at_ Try.f86 3) (S86_3b l x y sz i n g))) l x y sz i n g := by kernel_rfl
    rw [e]
    exact (good_sel h (fun _ h => (good_sel h (fun _ h => (good_sel h (fun _ h => (good_sel h (fun _ h => (good_sel h (fun _ h => (good_sel h (fun _ h => (good_sel h (fun _ h => good_cut (t86_3b k _ _ _ _ _ _ _ rn rg h)) (fun _ h => nomatch h))) (fun _ h => nomatch h))) (fun _ h => nomatch h))) (fun _ h => good_cut (t86_3b k _ _ _ _ _ _ _ rn rg h)))) (fun _ h => nomatch h))) (fun _ h => nomatch h))) (fun _ h => (good_sel h (fun _ h => good_ret (by cases h; rfl)) (fun _ h => nomatch h))))
end
theorem t86 (k : Nat) (q : Qd) (x : Int) (y : Int) (sz : Int) (rn : Nat) (rg : Nat → F) (h : G86 k q x y sz = some (rn, rg)) : Ends Try.prog Try.f86.results.toList [.code (bodyOf Try.f86)] (start Try.f86.ntmps ([qdF q, F.int .i64 x, F.int .i64 y, F.int .i64 sz].map .f)) (F.agg [F.int .i64 x, F.int .i64 y, F.int .i64 sz, F.bool false, F.sl rn rg]) := by
  refine Ends.of_run tyOK envW5_ok (T := [(3, [1, 2, 3, 8, 9, 17, 18, 19], 1000)]) (n := 200) ?_
  have e : run Try.prog (tiOf Try.prog) envW5 [(3, [1, 2, 3, 8, 9, 17, 18, 19], 1000)] 0 Try.f86.results.toList some 200 [.code (bodyOf Try.f86)] (start Try.f86.ntmps ([qdF q, F.int .i64 x, F.int .i64 y, F.int .i64 sz].map .f)) = T86 (fun rn rg => some (.ret (F.agg [F.int .i64 x, F.int .i64 y, F.int .i64 sz, F.bool false, F.sl rn rg]))) (fun l x y sz i => some (.cut (at_ Try.f86 3) (S86_3a l x y sz i))) (fun l x y sz i n g => some (.cut (at_ Try.f86 3) (S86_3b l x y sz i n g))) q x y sz := by kernel_rfl
  rw [e]
  exact good_cut (t86_3a k _ _ _ _ _ rn rg h)
/-! ### function 118 -/
def S118_4 (a : List Int) (b : List Int) (i : Int) : St := ⟨[(U.f (intsF a)), (U.f (intsF b)), .bad, .bad, .bad, .bad, .bad, .bad, .bad, .bad, .bad, .bad, (U.f (F.int .i64 a.length)), (U.f (F.int .i64 i)), .bad, .bad, .bad, .bad, .bad, .bad, .bad, .bad, .bad, .bad, .bad, .bad], []⟩
def T118_4 {ρ : Type} (ret : (Bool) → Option ρ) (c4 : (List Int) → (List Int) → (Int) → Option ρ) (a : List Int) (b : List Int) (i : Int) : Option ρ :=
  (bsel (decide (i < (↑a.length : Int)))
   (bsel (decide (0 ≤ i))
    (bsel (decide (i < (↑a.length : Int)))
     (bsel (decide (0 ≤ i))
      (bsel (decide (i < (↑b.length : Int)))
       (bsel (a.getD i.toNat 0 != b.getD i.toNat 0)
        (ret (false))
        (c4 (a) (b) (IntKind.i64.wrap (i + 1))))
       none)
      none)
     none)
    none)
   (ret (true)))
def L118_4 : Nat → (List Int) → (List Int) → (Int) → Option (Bool)
  | 0, _, _, _ => none
  | k + 1, a, b, i => T118_4 some (L118_4 k) a b i
def T118 {ρ : Type} (ret : (Bool) → Option ρ) (c4 : (List Int) → (List Int) → (Int) → Option ρ) (a : List Int) (b : List Int) : Option ρ :=
  (bsel ((↑a.length : Int) != (↑b.length : Int))
   (ret (false))
   (c4 (a) (b) (0)))
def G118 (k : Nat) (a : List Int) (b : List Int) : Option (Bool) := T118 some (L118_4 k) a b
theorem t118_4 : ∀ (k : Nat) (a : List Int) (b : List Int) (i : Int) (r : Bool), L118_4 k a b i = some r → Ends Try.prog Try.f118.results.toList (at_ Try.f118 4) (S118_4 a b i) (F.bool r)
  | 0, _, _, _, _, h => nomatch h
  | k + 1, a, b, i, r, h => by
    refine Ends.of_cut tyOK envW5_ok (T := [(4, [0, 1, 12, 13], 1000)]) (n := 200) ?_
    have e : runCut Try.prog (tiOf Try.prog) envW5 [(4, [0, 1, 12, 13], 1000)] 0 Try.f118.results.toList some 200 (at_ Try.f118 4) (S118_4 a b i) = T118_4 (fun r => some (.ret (F.bool r))) (fun a b i => some (.cut (at_ Try.f118 4) (S118_4 a b i))) a b i := by kernel_rfl
    rw [e]
    exact (good_sel h (fun _ h => (good_sel h (fun _ h => (good_sel h (fun _ h => (good_sel h (fun _ h => (good_sel h (fun _ h => (good_sel h (fun _ h => good_ret (by cases h; rfl)) (fun _ h => good_cut (t118_4 k _ _ _ r h)))) (fun _ h => nomatch h))) (fun _ h => nomatch h))) (fun _ h => nomatch h))) (fun _ h => nomatch h))) (fun _ h => good_ret (by cases h; rfl)))
theorem t118 (k : Nat) (a : List Int) (b : List Int) (r : Bool) (h : G118 k a b = some r) : Ends Try.prog Try.f118.results.toList [.code (bodyOf Try.f118)] (start Try.f118.ntmps ([intsF a, intsF b].map .f)) (F.bool r) := by
  refine Ends.of_run tyOK envW5_ok (T := [(4, [0, 1, 12, 13], 1000)]) (n := 200) ?_
  have e : run Try.prog (tiOf Try.prog) envW5 [(4, [0, 1, 12, 13], 1000)] 0 Try.f118.results.toList some 200 [.code (bodyOf Try.f118)] (start Try.f118.ntmps ([intsF a, intsF b].map .f)) = T118 (fun r => some (.ret (F.bool r))) (fun a b i => some (.cut (at_ Try.f118 4) (S118_4 a b i))) a b := by kernel_rfl
  rw [e]
  exact (good_sel h (fun _ h => good_ret (by cases h; rfl)) (fun _ h => good_cut (t118_4 k _ _ _ r h)))
/-! ### function 128 -/
def T128 {ρ : Type} (ret : (Bool) → Option ρ) (t : Tr) (s : Sg) : Option ρ :=
  (ret (meetsV s.x0 s.y0 s.x1 s.y1 t.x t.y (IntKind.i64.wrap (t.x + t.size)) (IntKind.i64.wrap (t.y + t.size))))
def G128 (t : Tr) (s : Sg) : Option (Bool) := T128 some t s
theorem t128 (t : Tr) (s : Sg) (r : Bool) (h : G128 t s = some r) : Ends Try.prog Try.f128.results.toList [.code (bodyOf Try.f128)] (start Try.f128.ntmps ([trF t, sgF s].map .f)) (F.bool r) := by
  refine Ends.of_run tyOK envW5_ok (T := []) (n := 200) ?_
  have e : run Try.prog (tiOf Try.prog) envW5 [] 0 Try.f128.results.toList some 200 [.code (bodyOf Try.f128)] (start Try.f128.ntmps ([trF t, sgF s].map .f)) = T128 (fun r => some (.ret (F.bool r))) t s := by kernel_rfl
  rw [e]
  exact good_ret (by cases h; rfl)
/-! ### function 58 -/
def T58 {ρ : Type} (ret : (Bool) → Option ρ) (a : Int) (b : Int) : Option ρ :=
  (bsel (inV a 1 8 == true)
   (ret (inV b 0 8))
   (ret (false)))
def G58 (a : Int) (b : Int) : Option (Bool) := T58 some a b
theorem t58 (a : Int) (b : Int) (r : Bool) (h : G58 a b = some r) : Ends Try.prog Try.f58.results.toList [.code (bodyOf Try.f58)] (start Try.f58.ntmps ([F.int .i64 a, F.int .i64 b].map .f)) (F.bool r) := by
  refine Ends.of_run tyOK envW5_ok (T := []) (n := 200) ?_
  have e : run Try.prog (tiOf Try.prog) envW5 [] 0 Try.f58.results.toList some 200 [.code (bodyOf Try.f58)] (start Try.f58.ntmps ([F.int .i64 a, F.int .i64 b].map .f)) = T58 (fun r => some (.ret (F.bool r))) a b := by kernel_rfl
  rw [e]
  exact (good_sel h (fun _ h => good_ret (by cases h; rfl)) (fun _ h => good_ret (by cases h; rfl)))
/-! ### function 106 -/
def T106 {ρ : Type} (ret : (Bool) → Option ρ) (a : Int) (b : Int) (c : Int) (d : Int) : Option ρ :=
  (bsel (a != c)
   (ret (false))
   (bsel (b != d)
    (ret (false))
    (ret (true))))
def G106 (a : Int) (b : Int) (c : Int) (d : Int) : Option (Bool) := T106 some a b c d
theorem t106 (a : Int) (b : Int) (c : Int) (d : Int) (r : Bool) (h : G106 a b c d = some r) : Ends Try.prog Try.f106.results.toList [.code (bodyOf Try.f106)] (start Try.f106.ntmps ([F.agg [F.int .i64 a, F.int .i64 b], F.agg [F.int .i64 c, F.int .i64 d]].map .f)) (F.bool r) := by
  refine Ends.of_run tyOK envW5_ok (T := []) (n := 200) ?_
  have e : run Try.prog (tiOf Try.prog) envW5 [] 0 Try.f106.results.toList some 200 [.code (bodyOf Try.f106)] (start Try.f106.ntmps ([F.agg [F.int .i64 a, F.int .i64 b], F.agg [F.int .i64 c, F.int .i64 d]].map .f)) = T106 (fun r => some (.ret (F.bool r))) a b c d := by kernel_rfl
  rw [e]
  exact (good_sel h (fun _ h => good_ret (by cases h; rfl)) (fun _ h => (good_sel h (fun _ h => good_ret (by cases h; rfl)) (fun _ h => good_ret (by cases h; rfl)))))
/-! ### function 19 -/
def S19_4 (a : List Int) (b : List Int) (i : Int) : St := ⟨[(U.f (intsF a)), (U.f (intsF b)), .bad, .bad, .bad, (U.f (F.int .i64 i)), .bad, .bad, .bad, .bad, .bad, .bad, .bad, .bad, .bad, .bad, .bad, .bad, .bad, .bad, .bad, .bad, .bad, .bad, .bad, .bad], []⟩
def T19_4 {ρ : Type} (ret : (Bool) → Option ρ) (c4 : (List Int) → (List Int) → (Int) → Option ρ) (a : List Int) (b : List Int) (i : Int) : Option ρ :=
  (bsel (decide (i < (↑a.length : Int)))
   (bsel (decide (0 ≤ i))
    (bsel (decide (i < (↑a.length : Int)))
     (bsel (decide (0 ≤ i))
      (bsel (decide (i < (↑b.length : Int)))
       (bsel (a.getD i.toNat 0 != b.getD i.toNat 0)
        (ret (false))
        (c4 (a) (b) (IntKind.i64.wrap (i + 1))))
       none)
      none)
     none)
    none)
   (ret (true)))
def L19_4 : Nat → (List Int) → (List Int) → (Int) → Option (Bool)
  | 0, _, _, _ => none
  | k + 1, a, b, i => T19_4 some (L19_4 k) a b i
def T19 {ρ : Type} (ret : (Bool) → Option ρ) (c4 : (List Int) → (List Int) → (Int) → Option ρ) (a : List Int) (b : List Int) : Option ρ :=
  (bsel ((↑a.length : Int) != (↑b.length : Int))
   (ret (false))
   (c4 (a) (b) (0)))
def G19 (k : Nat) (a : List Int) (b : List Int) : Option (Bool) := T19 some (L19_4 k) a b
theorem t19_4 : ∀ (k : Nat) (a : List Int) (b : List Int) (i : Int) (r : Bool), L19_4 k a b i = some r → Ends Try.prog Try.f19.results.toList (at_ Try.f19 4) (S19_4 a b i) (F.bool r)
  | 0, _, _, _, _, h => nomatch h
  | k + 1, a, b, i, r, h => by
    refine Ends.of_cut tyOK envW5_ok (T := [(4, [0, 1, 5], 1000)]) (n := 200) ?_
    have e : runCut Try.prog (tiOf Try.prog) envW5 [(4, [0, 1, 5], 1000)] 0 Try.f19.results.toList some 200 (at_ Try.f19 4) (S19_4 a b i) = T19_4 (fun r => some (.ret (F.bool r))) (fun a b i => some (.cut (at_ Try.f19 4) (S19_4 a b i))) a b i := by kernel_rfl
    rw [e]
    exact (good_sel h (fun _ h => (good_sel h (fun _ h => (good_sel h (fun _ h => (good_sel h (fun _ h => (good_sel h (fun _ h => (good_sel h (fun _ h => good_ret (by cases h; rfl)) (fun _ h => good_cut (t19_4 k _ _ _ r h)))) (fun _ h => nomatch h))) (fun _ h => nomatch h))) (fun _ h => nomatch h))) (fun _ h => nomatch h))) (fun _ h => good_ret (by cases h; rfl)))
theorem t19 (k : Nat) (a : List Int) (b : List Int) (r : Bool) (h : G19 k a b = some r) : Ends Try.prog Try.f19.results.toList [.code (bodyOf Try.f19)] (start Try.f19.ntmps ([intsF a, intsF b].map .f)) (F.bool r) := by
  refine Ends.of_run tyOK envW5_ok (T := [(4, [0, 1, 5], 1000)]) (n := 200) ?_
  have e : run Try.prog (tiOf Try.prog) envW5 [(4, [0, 1, 5], 1000)] 0 Try.f19.results.toList some 200 [.code (bodyOf Try.f19)] (start Try.f19.ntmps ([intsF a, intsF b].map .f)) = T19 (fun r => some (.ret (F.bool r))) (fun a b i => some (.cut (at_ Try.f19 4) (S19_4 a b i))) a b := by kernel_rfl
  rw [e]
  exact (good_sel h (fun _ h => good_ret (by cases h; rfl)) (fun _ h => good_cut (t19_4 k _ _ _ r h)))
/-! ### function 131 -/
def T131 {ρ : Type} (ret : (Int) → Option ρ) (a : List Int) (k : Int) : Option ρ :=
  (bsel (decide (IntKind.i64.wrap (k - (↑a.length : Int)) < 0))
   (ret (-1))
   (ret (IntKind.i64.wrap (k - (↑a.length : Int)))))
def G131 (a : List Int) (k : Int) : Option (Int) := T131 some a k
theorem t131 (a : List Int) (k : Int) (r : Int) (h : G131 a k = some r) : Ends Try.prog Try.f131.results.toList [.code (bodyOf Try.f131)] (start Try.f131.ntmps ([intsF a, F.int .i64 k].map .f)) (F.int .i64 r) := by
  refine Ends.of_run tyOK envW5_ok (T := []) (n := 200) ?_
  have e : run Try.prog (tiOf Try.prog) envW5 [] 0 Try.f131.results.toList some 200 [.code (bodyOf Try.f131)] (start Try.f131.ntmps ([intsF a, F.int .i64 k].map .f)) = T131 (fun r => some (.ret (F.int .i64 r))) a k := by kernel_rfl
  rw [e]
  exact (good_sel h (fun _ h => good_ret (by cases h; rfl)) (fun _ h => good_ret (by cases h; rfl)))
/-! ### function 71 -/
def T71 {ρ : Type} (ret : (Int) → Option ρ) (a : List It) (k : Int) : Option ρ :=
  (bsel (decide (IntKind.i64.wrap (k - (↑a.length : Int)) < 0))
   (ret (-1))
   (ret (IntKind.i64.wrap (k - (↑a.length : Int)))))
def G71 (a : List It) (k : Int) : Option (Int) := T71 some a k
theorem t71 (a : List It) (k : Int) (r : Int) (h : G71 a k = some r) : Ends Try.prog Try.f71.results.toList [.code (bodyOf Try.f71)] (start Try.f71.ntmps ([itemsF a, F.int .i64 k].map .f)) (F.int .i64 r) := by
  refine Ends.of_run tyOK envW5_ok (T := []) (n := 200) ?_
  have e : run Try.prog (tiOf Try.prog) envW5 [] 0 Try.f71.results.toList some 200 [.code (bodyOf Try.f71)] (start Try.f71.ntmps ([itemsF a, F.int .i64 k].map .f)) = T71 (fun r => some (.ret (F.int .i64 r))) a k := by kernel_rfl
  rw [e]
  exact (good_sel h (fun _ h => good_ret (by cases h; rfl)) (fun _ h => good_ret (by cases h; rfl)))
/-! ### function 17 -/
def T17 {ρ : Type} (ret : (F) → Option ρ) (a : Int) (b : Int) : Option ρ :=
  (ret (F.agg [F.int IntKind.i64 a, F.int IntKind.i64 b]))
def G17 (a : Int) (b : Int) : Option (F) := T17 some a b
theorem t17 (a : Int) (b : Int) (r : F) (h : G17 a b = some r) : Ends Try.prog Try.f17.results.toList [.code (bodyOf Try.f17)] (start Try.f17.ntmps ([F.agg [F.int .i64 a, F.int .i64 b]].map .f)) (r) := by
  refine Ends.of_run tyOK envW5_ok (T := []) (n := 200) ?_
  have e : run Try.prog (tiOf Try.prog) envW5 [] 0 Try.f17.results.toList some 200 [.code (bodyOf Try.f17)] (start Try.f17.ntmps ([F.agg [F.int .i64 a, F.int .i64 b]].map .f)) = T17 (fun r => some (.ret (r))) a b := by kernel_rfl
  rw [e]
  exact good_ret (by cases h; rfl)
/-! ### function 132 -/
def S132_3 (a : List Int) (n : Nat) (g : Nat → F) (i : Int) : St := ⟨[(U.f (intsF a)), .bad, .bad, (U.hs 0 n 0 n), (U.f (F.int .i64 i)), .bad, .bad, .bad, .bad, .bad, .bad, .bad, .bad, .bad, .bad, .bad, .bad, .bad, .bad, .bad, .bad, .bad], [HO.arr 1 n g]⟩
def T132_3 {ρ : Type} (ret : (Nat) → (Nat → F) → Option ρ) (c3 : (List Int) → (Nat) → (Nat → F) → (Int) → Option ρ) (a : List Int) (n : Nat) (g : Nat → F) (i : Int) : Option ρ :=
  (bsel (decide (i < (↑a.length : Int)))
   (bsel (decide (0 ≤ i))
    (bsel (decide (i < (↑a.length : Int)))
     (bsel (decide (n = n))
      (bsel (decide (0 ≤ i))
       (bsel (decide (i < (↑n : Int)))
        (bsel (decide (n = n))
         (bsel (decide (0 + i.toNat < n))
          (bsel (decide ((g (0 + i.toNat)).cells.length = 1))
           (bsel ((isAggF (g (0 + i.toNat)) || true) && true)
            (c3 (a) (n) (fun j ↦ if j = 0 + i.toNat then F.int IntKind.i64 (a.getD i.toNat 0) else g j) (IntKind.i64.wrap (i + 1)))
            none)
           none)
          none)
         none)
        none)
       none)
      none)
     none)
    none)
   (bsel (decide (n = n))
    (ret (n) (g))
    none))
def L132_3 : Nat → (List Int) → (Nat) → (Nat → F) → (Int) → Option ((Nat) × (Nat → F))
  | 0, _, _, _, _ => none
  | k + 1, a, n, g, i => T132_3 (fun rn rg => some (rn, rg)) (L132_3 k) a n g i
def T132 {ρ : Type} (ret : (Nat) → (Nat → F) → Option ρ) (c3 : (List Int) → (Nat) → (Nat → F) → (Int) → Option ρ) (a : List Int) : Option ρ :=
  (bsel (decide ((↑a.length : Int) ≤ (↑a.length : Int)))
   (bsel (decide ((↑a.length : Int) * (((8 : Nat) : Int) + 1) ≤ (↑limit : Int)))
    (c3 (a) ((↑a.length : Int).toNat) (fun x ↦ F.int IntKind.i64 0) (0))
    none)
   none)
def G132 (k : Nat) (a : List Int) : Option ((Nat) × (Nat → F)) := T132 (fun rn rg => some (rn, rg)) (L132_3 k) a
theorem t132_3 : ∀ (k : Nat) (a : List Int) (n : Nat) (g : Nat → F) (i : Int) (rn : Nat) (rg : Nat → F), L132_3 k a n g i = some (rn, rg) → Ends Try.prog Try.f132.results.toList (at_ Try.f132 3) (S132_3 a n g i) (F.sl rn rg)
  | 0, _, _, _, _, _, _, h => nomatch h
  | k + 1, a, n, g, i, rn, rg, h => by
    refine Ends.of_cut tyOK envW5_ok (T := [(3, [0, 3, 4], 1000)]) (n := 200) ?_
    have e : runCut Try.prog (tiOf Try.prog) envW5 [(3, [0, 3, 4], 1000)] 0 Try.f132.results.toList some 200 (at_ Try.f132 3) (S132_3 a n g i) = T132_3 (fun rn rg => some (.ret (F.sl rn rg))) (fun a n g i => some (.cut (at_ Try.f132 3) (S132_3 a n g i))) a n g i := by kernel_rfl
    rw [e]
    exact (good_sel h (fun _ h => (good_sel h (fun _ h => (good_sel h (fun _ h => (good_sel h (fun _ h => (good_sel h (fun _ h => (good_sel h (fun _ h => (good_sel h (fun _ h => (good_sel h (fun _ h => (good_sel h (fun _ h => (good_sel h (fun _ h => good_cut (t132_3 k _ _ _ _ rn rg h)) (fun _ h => nomatch h))) (fun _ h => nomatch h))) (fun _ h => nomatch h))) (fun _ h => nomatch h))) (fun _ h => nomatch h))) (fun _ h => nomatch h))) (fun _ h => nomatch h))) (fun _ h => nomatch h))) (fun _ h => nomatch h))) (fun _ h => (good_sel h (fun _ h => good_ret (by cases h; rfl)) (fun _ h => nomatch h))))
theorem t132 (k : Nat) (a : List Int) (rn : Nat) (rg : Nat → F) (h : G132 k a = some (rn, rg)) : Ends Try.prog Try.f132.results.toList [.code (bodyOf Try.f132)] (start Try.f132.ntmps ([intsF a].map .f)) (F.sl rn rg) := by
  refine Ends.of_run tyOK envW5_ok (T := [(3, [0, 3, 4], 1000)]) (n := 200) ?_
  have e : run Try.prog (tiOf Try.prog) envW5 [(3, [0, 3, 4], 1000)] 0 Try.f132.results.toList some 200 [.code (bodyOf Try.f132)] (start Try.f132.ntmps ([intsF a].map .f)) = T132 (fun rn rg => some (.ret (F.sl rn rg))) (fun a n g i => some (.cut (at_ Try.f132 3) (S132_3 a n g i))) a := by kernel_rfl
  rw [e]
  exact (good_sel h (fun _ h => (good_sel h (fun _ h => good_cut (t132_3 k _ _ _ _ rn rg h)) (fun _ h => nomatch h))) (fun _ h => nomatch h))
/-- A row that is being filled. -/
def Fills {α : Type} (enc : α → F) (d : α) (z : F) (l : List α) (i : Nat) (g : Nat → F) : Prop := ∀ j, (j < i → g j = enc (l.getD j d)) ∧ (i ≤ j → g j = z)
theorem Fills.zero {α : Type} {enc : α → F} {d : α} {z : F} {l : List α} : Fills enc d z l 0 (fun _ => z) := fun j => ⟨fun h => by omega, fun _ => rfl⟩
theorem Fills.set {α : Type} {enc : α → F} {d : α} {z : F} {l : List α} {i : Nat} {g : Nat → F} (h : Fills enc d z l i g) : Fills enc d z l (i + 1) (fun j => if j = i then enc (l.getD i d) else g j) := fun j => by
  by_cases e : j = i
  · subst e; exact ⟨fun _ => by simp, fun h => by omega⟩
  · simp only [if_neg e]; exact ⟨fun hj => (h j).1 (by omega), fun hj => (h j).2 (by omega)⟩
theorem Fills.lists {α : Type} {enc : α → F} {d : α} {z : F} {l : List α} {g : Nat → F} (h : Fills enc d z l l.length g) : Lists enc d l.length g l := ⟨rfl, fun j hj => (h j).1 hj⟩

theorem Lists.one {α : Type} {enc : α → F} {d : α} (x : α) : Lists enc d 1 (fun _ => enc x) [x] := ⟨rfl, fun j hj => by
  have : j = 0 := by omega
  subst this
  rfl⟩
def metFrom (l : List It) (x y sz : Int) (i : Nat) : List Int := ((l.drop i).filter fun t => meetsV t.x0 t.y0 t.x1 t.y1 x y (IntKind.i64.wrap (x + sz)) (IntKind.i64.wrap (y + sz))).map (·.id)
theorem met_end (l : List It) (x y sz : Int) : metFrom l x y sz l.length = [] := by
  unfold metFrom
  rw [List.drop_eq_nil_of_le (by simp)]
  rfl
theorem met_step (l : List It) (x y sz : Int) {i : Nat} (h : i < l.length) : metFrom l x y sz i = if meetsV (l.getD i .zero).x0 (l.getD i .zero).y0 (l.getD i .zero).x1 (l.getD i .zero).y1 x y (IntKind.i64.wrap (x + sz)) (IntKind.i64.wrap (y + sz)) then (l.getD i .zero).id :: metFrom l x y sz (i + 1) else metFrom l x y sz (i + 1) := by
  have hg : l.getD i It.zero = l[i] := by simp [List.getD, List.getElem?_eq_getElem h]
  rw [hg]
  unfold metFrom
  rw [List.drop_eq_getElem_cons h, List.filter_cons]
  split <;> rfl
theorem square_b (l : List It) (x y sz : Int) (hl : l.length ≤ 40) : ∀ (d i n : Nat) (g : Nat → F) (o : List Int), i + d = l.length → n ≤ i → Lists i64F 0 n g o →
    ∃ n1 g1, L86_3b (d + 1) l x y sz i n g = some (n1, g1) ∧ Lists i64F 0 n1 g1 (o ++ metFrom l x y sz i)
  | 0, i, n, g, o, h, hn, hg => by
    have c1 : decide ((i : Int) < (l.length : Int)) = false := decide_eq_false (by omega)
    refine ⟨n, g, ?_, ?_⟩
    · simp only [L86_3b, T86_3b, c1, bsel_false, decide_true, bsel_true]
    · obtain rfl : i = l.length := by omega
      rw [met_end, List.append_nil]
      exact hg
  | d + 1, i, n, g, o, h, hn, hg => by
    have hi : i < l.length := by omega
    have c1 : decide ((i : Int) < (l.length : Int)) = true := decide_eq_true (by omega)
    have c2 : decide (0 ≤ (i : Int)) = true := decide_eq_true (by omega)
    have hw : IntKind.i64.wrap ((i : Int) + 1) = ((i + 1 : Nat) : Int) := by rw [wrapi (by omega) (by omega)]; omega
    have c3 : decide (((n + 1 : Nat) : Int) * (((8 : Nat) : Int) + 1) ≤ (limit : Int)) = true := by rw [limit_eq]; exact decide_eq_true (by omega)
    rw [L86_3b]
    simp only [T86_3b, c1, c2, c3, hw, bsel_true, decide_true, Int.toNat_natCast]
    rw [met_step l x y sz hi]
    cases meetsV (l.getD i .zero).x0 (l.getD i .zero).y0 (l.getD i .zero).x1 (l.getD i .zero).y1 x y (IntKind.i64.wrap (x + sz)) (IntKind.i64.wrap (y + sz)) with
    | true =>
      obtain ⟨n1, g1, e1, e2⟩ := square_b l x y sz hl d (i + 1) (n + 1) _ (o ++ [(l.getD i .zero).id]) (by omega) (by omega) (hg.push (l.getD i .zero).id)
      refine ⟨n1, g1, e1, ?_⟩
      rw [if_pos rfl]
      rw [List.append_assoc] at e2
      exact e2
    | false =>
      obtain ⟨n1, g1, e1, e2⟩ := square_b l x y sz hl d (i + 1) n g o (by omega) (by omega) hg
      exact ⟨n1, g1, e1, by simpa using e2⟩
theorem square_a (l : List It) (x y sz : Int) (hl : l.length ≤ 40) : ∀ (d i : Nat), i + d = l.length →
    ∃ n1 g1, L86_3a (d + 1) l x y sz i = some (n1, g1) ∧ Lists i64F 0 n1 g1 (metFrom l x y sz i)
  | 0, i, h => by
    have c1 : decide ((i : Int) < (l.length : Int)) = false := decide_eq_false (by omega)
    refine ⟨0, fun _ => F.bool false, ?_, ?_⟩
    · simp only [L86_3a, T86_3a, c1, bsel_false]
    · obtain rfl : i = l.length := by omega
      rw [met_end]; exact Lists.nil
  | d + 1, i, h => by
    have hi : i < l.length := by omega
    have c1 : decide ((i : Int) < (l.length : Int)) = true := decide_eq_true (by omega)
    have c2 : decide (0 ≤ (i : Int)) = true := decide_eq_true (by omega)
    have hw : IntKind.i64.wrap ((i : Int) + 1) = ((i + 1 : Nat) : Int) := by rw [wrapi (by omega) (by omega)]; omega
    have c3 : decide (((1 : Nat) : Int) * (((8 : Nat) : Int) + 1) ≤ (limit : Int)) = true := by rw [limit_eq]; exact decide_eq_true (by omega)
    rw [L86_3a]
    simp only [T86_3a, c1, c2, c3, hw, bsel_true, decide_true, Int.toNat_natCast]
    rw [met_step l x y sz hi]
    cases meetsV (l.getD i .zero).x0 (l.getD i .zero).y0 (l.getD i .zero).x1 (l.getD i .zero).y1 x y (IntKind.i64.wrap (x + sz)) (IntKind.i64.wrap (y + sz)) with
    | true =>
      obtain ⟨n1, g1, e1, e2⟩ := square_b l x y sz hl d (i + 1) 1 _ _ (by omega) (by omega) (Lists.one (enc := i64F) (d := 0) (l.getD i .zero).id)
      exact ⟨n1, g1, e1, e2⟩
    | false => exact square_a l x y sz hl d (i + 1) (by omega)
/-- A block, not split, with the numbers of the items that meet it. -/
def squareV (q : Qd) (x y sz : Int) : Bk := ⟨x, y, sz, false, metFrom q.items x y sz 0⟩
def fewV (q : Qd) : Bool := decide (q.items.length ≤ 40)
def preSquare : List F → Bool | [q, .int .i64 _, .int .i64 _, .int .i64 _] => isQd q && fewV (unQd q) | _ => false
def resSquare : List F → F | [q, .int .i64 x, .int .i64 y, .int .i64 sz] => bkF (squareV (unQd q) x y sz) | _ => .dflt
theorem okSquare : PureOK Try.prog 86 preSquare resSquare :=
  fn_pure_at (c := bodyOf Try.f86) Try.func86 (by kernel_rfl) (by kernel_rfl) fun xs hp => match xs, hp with
  | [q, .int .i64 x, .int .i64 y, .int .i64 sz], hp => by
    simp only [preSquare, Bool.and_eq_true] at hp
    have h2 := of_decide_eq_true hp.2
    obtain ⟨n, g, e1, e2⟩ := square_a (unQd q).items x y sz h2 (unQd q).items.length 0 (by omega)
    exact ⟨[qdF (unQd q), .int .i64 x, .int .i64 y, .int .i64 sz], _, ⟨(qd_eqv hp.1).1, .refl _, .refl _, .refl _, trivial⟩, t86 ((unQd q).items.length + 1) _ _ _ _ _ _ e1, FLe.agg ⟨.refl _, .refl _, .refl _, .refl _, e2.le, trivial⟩⟩

/-! Whole numbers, compared and copied. -/
def sameV (a b : List Int) : Bool := a == b
theorem same_drop {a b : List Int} (h : a.length = b.length) {i : Nat} (hi : i < a.length) : (a.drop i == b.drop i) = (a.getD i 0 == b.getD i 0 && (a.drop (i + 1) == b.drop (i + 1))) := by
  have h1 : a.getD i 0 = a[i] := by simp [List.getD, List.getElem?_eq_getElem hi]
  have h2 : b.getD i 0 = b[i]'(by omega) := by simp [List.getD, List.getElem?_eq_getElem (show i < b.length by omega)]
  rw [h1, h2, List.drop_eq_getElem_cons hi, List.drop_eq_getElem_cons (show i < b.length by omega)]
  rfl
theorem equal_loop (a b : List Int) (hl : a.length = b.length) (hs : a.length ≤ 17592186044416) : ∀ (d i : Nat), i + d = a.length → L118_4 (d + 1) a b i = some (a.drop i == b.drop i)
  | 0, i, h => by
    have c1 : decide ((i : Int) < (a.length : Int)) = false := decide_eq_false (by omega)
    simp only [L118_4, T118_4, c1, bsel_false]
    rw [List.drop_eq_nil_of_le (by omega), List.drop_eq_nil_of_le (by omega)]
    rfl
  | d + 1, i, h => by
    have hi : i < a.length := by omega
    have c1 : decide ((i : Int) < (a.length : Int)) = true := decide_eq_true (by omega)
    have c3 : decide ((i : Int) < (b.length : Int)) = true := decide_eq_true (by omega)
    have c2 : decide (0 ≤ (i : Int)) = true := decide_eq_true (by omega)
    have hw : IntKind.i64.wrap ((i : Int) + 1) = ((i + 1 : Nat) : Int) := by rw [wrapi (by omega) (by omega)]; omega
    rw [L118_4]
    simp only [T118_4, c1, c2, c3, hw, equal_loop a b hl hs d (i + 1) (by omega), bsel_true, Int.toNat_natCast]
    rw [same_drop hl hi, bne]
    cases (a.getD i 0 == b.getD i 0) <;> rfl
theorem eqInts_same (a b : List Int) : ∀ (k : Nat) (x : Int), L19_4 k a b x = L118_4 k a b x
  | 0, _ => rfl
  | k + 1, x => by
    rw [L19_4, L118_4]
    simp only [T19_4, T118_4, eqInts_same a b k]
theorem equal_impl (a b : List Int) (hs : a.length ≤ 17592186044416) : G118 (a.length + 1) a b = some (sameV a b) := by
  unfold G118 T118 sameV
  rw [bne]
  cases h : ((a.length : Int) == (b.length : Int)) with
  | true => exact equal_loop a b (by have := eq_of_beq h; omega) hs a.length 0 (by omega)
  | false =>
    have : (a == b) = false := by
      rw [beq_eq_false_iff_ne]
      rintro rfl
      simp at h
    rw [this]; rfl
theorem eqInts_law (a b : List Int) (hs : a.length ≤ 17592186044416) : G19 (a.length + 1) a b = some (sameV a b) := by
  rw [← equal_impl a b hs]
  unfold G118 T118 G19 T19
  rw [eqInts_same]
def shortV (a : List Int) : Bool := decide (a.length ≤ 1048576)
def preEqInts : List F → Bool | [a, b] => isInts a && isInts b && shortV (unInts a) | _ => false
def resEqInts : List F → F | [a, b] => .bool (sameV (unInts a) (unInts b)) | _ => .dflt
theorem okEqual : PureOK Try.prog 118 preEqInts resEqInts :=
  fn_pure_at (c := bodyOf Try.f118) Try.func118 (by kernel_rfl) (by kernel_rfl) fun xs hp => match xs, hp with
  | [a, b], hp => by
    simp only [preEqInts, Bool.and_eq_true] at hp
    have h2 := of_decide_eq_true hp.2
    exact ⟨[intsF (unInts a), intsF (unInts b)], _, ⟨(ints_eqv hp.1.1).1, (ints_eqv hp.1.2).1, trivial⟩, t118 _ _ _ _ (equal_impl _ _ (by omega)), .refl _⟩
theorem okEqInts : PureOK Try.prog 19 preEqInts resEqInts :=
  fn_pure_at (c := bodyOf Try.f19) Try.func19 (by kernel_rfl) (by kernel_rfl) fun xs hp => match xs, hp with
  | [a, b], hp => by
    simp only [preEqInts, Bool.and_eq_true] at hp
    have h2 := of_decide_eq_true hp.2
    exact ⟨[intsF (unInts a), intsF (unInts b)], _, ⟨(ints_eqv hp.1.1).1, (ints_eqv hp.1.2).1, trivial⟩, t19 _ _ _ _ (eqInts_law _ _ (by omega)), .refl _⟩
theorem toInts_loop (a : List Int) (hs : a.length ≤ 1048576) : ∀ (d i : Nat) (g : Nat → F), i + d = a.length → Fills i64F 0 (.int .i64 0) a i g → ∃ g1, L132_3 (d + 1) a a.length g i = some (a.length, g1) ∧ Lists i64F 0 a.length g1 a
  | 0, i, g, h, hg => by
    have c1 : decide ((i : Int) < (a.length : Int)) = false := decide_eq_false (by omega)
    obtain rfl : i = a.length := by omega
    exact ⟨g, by simp only [L132_3, T132_3, c1, bsel_false, decide_true, bsel_true], hg.lists⟩
  | d + 1, i, g, h, hg => by
    have hi : i < a.length := by omega
    have c1 : decide ((i : Int) < (a.length : Int)) = true := decide_eq_true (by omega)
    have c2 : decide (0 ≤ (i : Int)) = true := decide_eq_true (by omega)
    have c3 : decide (i < a.length) = true := decide_eq_true hi
    have hw : IntKind.i64.wrap ((i : Int) + 1) = ((i + 1 : Nat) : Int) := by rw [wrapi (by omega) (by omega)]; omega
    have c4 : g i = .int .i64 0 := (hg i).2 (Nat.le_refl _)
    obtain ⟨g1, e1, e2⟩ := toInts_loop a hs d (i + 1) _ (by omega) hg.set
    refine ⟨g1, ?_, e2⟩
    rw [← e1, L132_3]
    simp only [T132_3, c1, c2, c3, hw, bsel_true, decide_true, Int.toNat_natCast, Nat.zero_add, c4, F.cells, List.length_singleton, Bool.or_true, Bool.and_true]
    rfl
def preInts : List F → Bool | [a] => isInts a && shortV (unInts a) | _ => false
def resInts : List F → F | [a] => intsF (unInts a) | _ => .dflt
theorem toInts_law (a : List Int) (hs : a.length ≤ 1048576) : ∃ g1, G132 (a.length + 1) a = some (a.length, g1) ∧ Lists i64F 0 a.length g1 a := by
  obtain ⟨g1, e1, e2⟩ := toInts_loop a hs a.length 0 _ (by omega) Fills.zero
  refine ⟨g1, ?_, e2⟩
  have c1 : decide (0 ≤ (a.length : Int)) = true := decide_eq_true (by omega)
  have c3 : decide (((a.length : Nat) : Int) * (((8 : Nat) : Int) + 1) ≤ (limit : Int)) = true := by rw [limit_eq]; exact decide_eq_true (by omega)
  unfold G132 T132
  simp only [c3, Int.le_refl, decide_true, bsel_true, Int.toNat_natCast]
  exact e1
theorem okToInts : PureOK Try.prog 132 preInts resInts :=
  fn_pure_at (c := bodyOf Try.f132) Try.func132 (by kernel_rfl) (by kernel_rfl) fun xs hp => match xs, hp with
  | [a], hp => by
    simp only [preInts, Bool.and_eq_true] at hp
    have h2 := of_decide_eq_true hp.2
    obtain ⟨g1, e1, e2⟩ := toInts_law (unInts a) h2
    exact ⟨[intsF (unInts a)], _, ⟨(ints_eqv hp.1).1, trivial⟩, t132 _ _ _ _ e1, e2.le⟩

/-! Sizes. -/
def leftV (n : Nat) (k : Int) : Int := bif decide (IntKind.i64.wrap (k - (n : Int)) < 0) then -1 else IntKind.i64.wrap (k - (n : Int))
def preSzInts : List F → Bool | [a, .int .i64 _] => isInts a | _ => false
def resSzInts : List F → F | [a, .int .i64 k] => .int .i64 (leftV (unInts a).length k) | _ => .dflt
theorem okSzInts : PureOK Try.prog 131 preSzInts resSzInts :=
  fn_pure_at (c := bodyOf Try.f131) Try.func131 (by kernel_rfl) (by kernel_rfl) fun xs hp => match xs, hp with
  | [a, .int .i64 k], hp => ⟨[intsF (unInts a), .int .i64 k], _, ⟨(ints_eqv hp).1, .refl _, trivial⟩, t131 _ _ (leftV (unInts a).length k) (by
      unfold G131 T131 leftV
      cases decide (IntKind.i64.wrap (k - ((unInts a).length : Int)) < 0) <;> rfl), .refl _⟩
def preSzItems : List F → Bool | [a, .int .i64 _] => isItems a | _ => false
def resSzItems : List F → F | [a, .int .i64 k] => .int .i64 (leftV (unItems a).length k) | _ => .dflt
theorem okSzItems : PureOK Try.prog 71 preSzItems resSzItems :=
  fn_pure_at (c := bodyOf Try.f71) Try.func71 (by kernel_rfl) (by kernel_rfl) fun xs hp => match xs, hp with
  | [a, .int .i64 k], hp => ⟨[itemsF (unItems a), .int .i64 k], _, ⟨(items_eqv hp).1, .refl _, trivial⟩, t71 _ _ (leftV (unItems a).length k) (by
      unfold G71 T71 leftV
      cases decide (IntKind.i64.wrap (k - ((unItems a).length : Int)) < 0) <;> rfl), .refl _⟩
/-! Spots, limits. -/
def sameSpotV (a b c d : Int) : Bool := a == c && b == d
def resSameSpot : List F → F | [.agg [.int .i64 a, .int .i64 b], .agg [.int .i64 c, .int .i64 d]] => .bool (sameSpotV a b c d) | _ => .dflt
theorem okEqSpot : PureOK Try.prog 106 pre2p resSameSpot :=
  fn_pure (c := bodyOf Try.f106) Try.func106 (by kernel_rfl) (by kernel_rfl) fun xs hp => match xs, hp with
  | [.agg [.int .i64 a, .int .i64 b], .agg [.int .i64 c, .int .i64 d]], hp => t106 a b c d (sameSpotV a b c d) (by
      unfold G106 T106 sameSpotV
      simp only [bne]
      cases (a == c) <;> cases (b == d) <;> rfl)
def resSpot : List F → F | [.agg [.int .i64 a, .int .i64 b]] => .agg [.int .i64 a, .int .i64 b] | _ => .dflt
theorem okToSpot : PureOK Try.prog 17 pre1p resSpot :=
  fn_pure (c := bodyOf Try.f17) Try.func17 (by kernel_rfl) (by kernel_rfl) fun xs hp => match xs, hp with
  | [.agg [.int .i64 a, .int .i64 b]], hp => t17 a b _ rfl
def limitsV (a b : Int) : Bool := inV a 1 8 && inV b 0 8
def pre2i : List F → Bool | [.int .i64 _, .int .i64 _] => true | _ => false
def resLimits : List F → F | [.int .i64 a, .int .i64 b] => .bool (limitsV a b) | _ => .dflt
theorem okLimits : PureOK Try.prog 58 pre2i resLimits :=
  fn_pure (c := bodyOf Try.f58) Try.func58 (by kernel_rfl) (by kernel_rfl) fun xs hp => match xs, hp with
  | [.int .i64 a, .int .i64 b], hp => t58 a b (limitsV a b) (by
      unfold G58 T58 limitsV
      cases inV a 1 8 <;> rfl)
def preTrSeg : List F → Bool | [t, .agg [.int .i64 _, .int .i64 _, .int .i64 _, .int .i64 _]] => isTr t | _ => false
def trMeetsV (t : Tr) (a b c d : Int) : Bool := meetsV a b c d t.x t.y (IntKind.i64.wrap (t.x + t.size)) (IntKind.i64.wrap (t.y + t.size))
def resTrMeets : List F → F | [t, .agg [.int .i64 a, .int .i64 b, .int .i64 c, .int .i64 d]] => .bool (trMeetsV (unTr t) a b c d) | _ => .dflt
theorem okTrMeets : PureOK Try.prog 128 preTrSeg resTrMeets :=
  fn_pure (c := bodyOf Try.f128) Try.func128 (by kernel_rfl) (by kernel_rfl) fun xs hp => match xs, hp with
  | [t, .agg [.int .i64 a, .int .i64 b, .int .i64 c, .int .i64 d]], hp => by
    have h := tr_eq hp
    generalize unTr t = t' at h
    subst h
    have := t128 t' ⟨a, b, c, d⟩ (trMeetsV t' a b c d) rfl
    simp only [resTrMeets, unTr_trF]
    exact this
def envQ1 : Env := (((((((((envW5.add 86 (.pure preSquare resSquare)).add 118 (.pure preEqInts resEqInts)).add 19 (.pure preEqInts resEqInts)).add 132 (.pure preInts resInts)).add 131 (.pure preSzInts resSzInts)).add 71 (.pure preSzItems resSzItems)).add 106 (.pure pre2p resSameSpot)).add 17 (.pure pre1p resSpot)).add 58 (.pure pre2i resLimits)).add 128 (.pure preTrSeg resTrMeets)
theorem envQ1_ok : EnvOK Try.prog envQ1 := Env.add_ok (Env.add_ok (Env.add_ok (Env.add_ok (Env.add_ok (Env.add_ok (Env.add_ok (Env.add_ok (Env.add_ok (Env.add_ok envW5_ok okSquare.sp) okEqual.sp) okEqInts.sp) okToInts.sp) okSzInts.sp) okSzItems.sp) okEqSpot.sp) okToSpot.sp) okLimits.sp) okTrMeets.sp
end
end Go.Proofs.Ytjbilidfnfnpfaa.R
