/-
  The walk of trees: how many leaves there are, and how deep the deepest lies.
-/
import Derived.Test.YtjbilidfnfnpfaaQ8a
namespace Go.Proofs.Ytjbilidfnfnpfaa.R
open Go
noncomputable section
set_option linter.unusedVariables false
set_option linter.unusedSimpArgs false
set_option maxRecDepth 100000
/-! ### function 77 -/
def S77n_6n0 (x : Int) (y : Int) (s : Int) (a : Tr) (b : Tr) (c : Tr) (d : Tr) (n : Int) (deep : Int) : St := ⟨[.bad, (U.hp 0 0), .bad, .bad, (U.f (F.int .i64 n)), (U.f (F.int .i64 deep)), (U.f (F.int .i64 0)), .bad, .bad, .bad, .bad, .bad, .bad, .bad, .bad, .bad, .bad, .bad, .bad, .bad, .bad, .bad, .bad, .bad, .bad, .bad, .bad, .bad, .bad, .bad, .bad, .bad, .bad, .bad, .bad], [HO.box [(U.f (F.int .i64 x)), (U.f (F.int .i64 y)), (U.f (F.int .i64 s)), (U.f (F.sl 4 (kidG (Tr.node x y s a b c d)))), (U.f (intsF []))]]⟩
def S77n_6n1 (x : Int) (y : Int) (s : Int) (a : Tr) (b : Tr) (c : Tr) (d : Tr) (n : Int) (deep : Int) : St := ⟨[.bad, (U.hp 0 0), .bad, .bad, (U.f (F.int .i64 n)), (U.f (F.int .i64 deep)), (U.f (F.int .i64 1)), .bad, .bad, .bad, .bad, .bad, .bad, .bad, .bad, .bad, .bad, .bad, .bad, .bad, .bad, .bad, .bad, .bad, .bad, .bad, .bad, .bad, .bad, .bad, .bad, .bad, .bad, .bad, .bad], [HO.box [(U.f (F.int .i64 x)), (U.f (F.int .i64 y)), (U.f (F.int .i64 s)), (U.f (F.sl 4 (kidG (Tr.node x y s a b c d)))), (U.f (intsF []))]]⟩
def S77n_6n2 (x : Int) (y : Int) (s : Int) (a : Tr) (b : Tr) (c : Tr) (d : Tr) (n : Int) (deep : Int) : St := ⟨[.bad, (U.hp 0 0), .bad, .bad, (U.f (F.int .i64 n)), (U.f (F.int .i64 deep)), (U.f (F.int .i64 2)), .bad, .bad, .bad, .bad, .bad, .bad, .bad, .bad, .bad, .bad, .bad, .bad, .bad, .bad, .bad, .bad, .bad, .bad, .bad, .bad, .bad, .bad, .bad, .bad, .bad, .bad, .bad, .bad], [HO.box [(U.f (F.int .i64 x)), (U.f (F.int .i64 y)), (U.f (F.int .i64 s)), (U.f (F.sl 4 (kidG (Tr.node x y s a b c d)))), (U.f (intsF []))]]⟩
def S77n_6n3 (x : Int) (y : Int) (s : Int) (a : Tr) (b : Tr) (c : Tr) (d : Tr) (n : Int) (deep : Int) : St := ⟨[.bad, (U.hp 0 0), .bad, .bad, (U.f (F.int .i64 n)), (U.f (F.int .i64 deep)), (U.f (F.int .i64 3)), .bad, .bad, .bad, .bad, .bad, .bad, .bad, .bad, .bad, .bad, .bad, .bad, .bad, .bad, .bad, .bad, .bad, .bad, .bad, .bad, .bad, .bad, .bad, .bad, .bad, .bad, .bad, .bad], [HO.box [(U.f (F.int .i64 x)), (U.f (F.int .i64 y)), (U.f (F.int .i64 s)), (U.f (F.sl 4 (kidG (Tr.node x y s a b c d)))), (U.f (intsF []))]]⟩
def S77n_6n4 (x : Int) (y : Int) (s : Int) (a : Tr) (b : Tr) (c : Tr) (d : Tr) (n : Int) (deep : Int) : St := ⟨[.bad, (U.hp 0 0), .bad, .bad, (U.f (F.int .i64 n)), (U.f (F.int .i64 deep)), (U.f (F.int .i64 4)), .bad, .bad, .bad, .bad, .bad, .bad, .bad, .bad, .bad, .bad, .bad, .bad, .bad, .bad, .bad, .bad, .bad, .bad, .bad, .bad, .bad, .bad, .bad, .bad, .bad, .bad, .bad, .bad], [HO.box [(U.f (F.int .i64 x)), (U.f (F.int .i64 y)), (U.f (F.int .i64 s)), (U.f (F.sl 4 (kidG (Tr.node x y s a b c d)))), (U.f (intsF []))]]⟩
def T77n_6n0 {ρ : Type} (D : Nat) (ret : (Int) → (Int) → Option ρ) (c6n0 : (Int) → (Int) → (Int) → (Tr) → (Tr) → (Tr) → (Tr) → (Int) → (Int) → Option ρ) (c6n1 : (Int) → (Int) → (Int) → (Tr) → (Tr) → (Tr) → (Tr) → (Int) → (Int) → Option ρ) (c6n2 : (Int) → (Int) → (Int) → (Tr) → (Tr) → (Tr) → (Tr) → (Int) → (Int) → Option ρ) (c6n3 : (Int) → (Int) → (Int) → (Tr) → (Tr) → (Tr) → (Tr) → (Int) → (Int) → Option ρ) (c6n4 : (Int) → (Int) → (Int) → (Tr) → (Tr) → (Tr) → (Tr) → (Int) → (Int) → Option ρ) (x : Int) (y : Int) (s : Int) (a : Tr) (b : Tr) (c : Tr) (d : Tr) (n : Int) (deep : Int) : Option ρ :=
  (bsel (isTr (trF a) && cntOk D (unTr (trF a)))
   (c6n1 (x) (y) (s) (a) (b) (c) (d) (IntKind.i64.wrap (n + lvsV (unTr (trF a)))) (if true = true then if IntKind.i64.wrap (dptV (unTr (trF a)) + 1) > deep then IntKind.i64.wrap (dptV (unTr (trF a)) + 1) else deep else if IntKind.i64.wrap (dptV (unTr (trF a)) + 1) < deep then IntKind.i64.wrap (dptV (unTr (trF a)) + 1) else deep))
   none)
def T77n_6n1 {ρ : Type} (D : Nat) (ret : (Int) → (Int) → Option ρ) (c6n0 : (Int) → (Int) → (Int) → (Tr) → (Tr) → (Tr) → (Tr) → (Int) → (Int) → Option ρ) (c6n1 : (Int) → (Int) → (Int) → (Tr) → (Tr) → (Tr) → (Tr) → (Int) → (Int) → Option ρ) (c6n2 : (Int) → (Int) → (Int) → (Tr) → (Tr) → (Tr) → (Tr) → (Int) → (Int) → Option ρ) (c6n3 : (Int) → (Int) → (Int) → (Tr) → (Tr) → (Tr) → (Tr) → (Int) → (Int) → Option ρ) (c6n4 : (Int) → (Int) → (Int) → (Tr) → (Tr) → (Tr) → (Tr) → (Int) → (Int) → Option ρ) (x : Int) (y : Int) (s : Int) (a : Tr) (b : Tr) (c : Tr) (d : Tr) (n : Int) (deep : Int) : Option ρ :=
  (bsel (isTr (trF b) && cntOk D (unTr (trF b)))
   (c6n2 (x) (y) (s) (a) (b) (c) (d) (IntKind.i64.wrap (n + lvsV (unTr (trF b)))) (if true = true then if IntKind.i64.wrap (dptV (unTr (trF b)) + 1) > deep then IntKind.i64.wrap (dptV (unTr (trF b)) + 1) else deep else if IntKind.i64.wrap (dptV (unTr (trF b)) + 1) < deep then IntKind.i64.wrap (dptV (unTr (trF b)) + 1) else deep))
   none)
def T77n_6n2 {ρ : Type} (D : Nat) (ret : (Int) → (Int) → Option ρ) (c6n0 : (Int) → (Int) → (Int) → (Tr) → (Tr) → (Tr) → (Tr) → (Int) → (Int) → Option ρ) (c6n1 : (Int) → (Int) → (Int) → (Tr) → (Tr) → (Tr) → (Tr) → (Int) → (Int) → Option ρ) (c6n2 : (Int) → (Int) → (Int) → (Tr) → (Tr) → (Tr) → (Tr) → (Int) → (Int) → Option ρ) (c6n3 : (Int) → (Int) → (Int) → (Tr) → (Tr) → (Tr) → (Tr) → (Int) → (Int) → Option ρ) (c6n4 : (Int) → (Int) → (Int) → (Tr) → (Tr) → (Tr) → (Tr) → (Int) → (Int) → Option ρ) (x : Int) (y : Int) (s : Int) (a : Tr) (b : Tr) (c : Tr) (d : Tr) (n : Int) (deep : Int) : Option ρ :=
  (bsel (isTr (trF c) && cntOk D (unTr (trF c)))
   (c6n3 (x) (y) (s) (a) (b) (c) (d) (IntKind.i64.wrap (n + lvsV (unTr (trF c)))) (if true = true then if IntKind.i64.wrap (dptV (unTr (trF c)) + 1) > deep then IntKind.i64.wrap (dptV (unTr (trF c)) + 1) else deep else if IntKind.i64.wrap (dptV (unTr (trF c)) + 1) < deep then IntKind.i64.wrap (dptV (unTr (trF c)) + 1) else deep))
   none)
def T77n_6n3 {ρ : Type} (D : Nat) (ret : (Int) → (Int) → Option ρ) (c6n0 : (Int) → (Int) → (Int) → (Tr) → (Tr) → (Tr) → (Tr) → (Int) → (Int) → Option ρ) (c6n1 : (Int) → (Int) → (Int) → (Tr) → (Tr) → (Tr) → (Tr) → (Int) → (Int) → Option ρ) (c6n2 : (Int) → (Int) → (Int) → (Tr) → (Tr) → (Tr) → (Tr) → (Int) → (Int) → Option ρ) (c6n3 : (Int) → (Int) → (Int) → (Tr) → (Tr) → (Tr) → (Tr) → (Int) → (Int) → Option ρ) (c6n4 : (Int) → (Int) → (Int) → (Tr) → (Tr) → (Tr) → (Tr) → (Int) → (Int) → Option ρ) (x : Int) (y : Int) (s : Int) (a : Tr) (b : Tr) (c : Tr) (d : Tr) (n : Int) (deep : Int) : Option ρ :=
  (bsel (isTr (trF d) && cntOk D (unTr (trF d)))
   (c6n4 (x) (y) (s) (a) (b) (c) (d) (IntKind.i64.wrap (n + lvsV (unTr (trF d)))) (if true = true then if IntKind.i64.wrap (dptV (unTr (trF d)) + 1) > deep then IntKind.i64.wrap (dptV (unTr (trF d)) + 1) else deep else if IntKind.i64.wrap (dptV (unTr (trF d)) + 1) < deep then IntKind.i64.wrap (dptV (unTr (trF d)) + 1) else deep))
   none)
def T77n_6n4 {ρ : Type} (D : Nat) (ret : (Int) → (Int) → Option ρ) (c6n0 : (Int) → (Int) → (Int) → (Tr) → (Tr) → (Tr) → (Tr) → (Int) → (Int) → Option ρ) (c6n1 : (Int) → (Int) → (Int) → (Tr) → (Tr) → (Tr) → (Tr) → (Int) → (Int) → Option ρ) (c6n2 : (Int) → (Int) → (Int) → (Tr) → (Tr) → (Tr) → (Tr) → (Int) → (Int) → Option ρ) (c6n3 : (Int) → (Int) → (Int) → (Tr) → (Tr) → (Tr) → (Tr) → (Int) → (Int) → Option ρ) (c6n4 : (Int) → (Int) → (Int) → (Tr) → (Tr) → (Tr) → (Tr) → (Int) → (Int) → Option ρ) (x : Int) (y : Int) (s : Int) (a : Tr) (b : Tr) (c : Tr) (d : Tr) (n : Int) (deep : Int) : Option ρ :=
  (ret (n) (deep))
mutual
def L77n_6n0 (D : Nat) : Nat → (Int) → (Int) → (Int) → (Tr) → (Tr) → (Tr) → (Tr) → (Int) → (Int) → Option ((Int) × (Int))
  | 0, _, _, _, _, _, _, _, _, _ => none
  | k + 1, x, y, s, a, b, c, d, n, deep => T77n_6n0 D (fun r r2 => some (r, r2)) (L77n_6n0 D k) (L77n_6n1 D k) (L77n_6n2 D k) (L77n_6n3 D k) (L77n_6n4 D k) x y s a b c d n deep
def L77n_6n1 (D : Nat) : Nat → (Int) → (Int) → (Int) → (Tr) → (Tr) → (Tr) → (Tr) → (Int) → (Int) → Option ((Int) × (Int))
  | 0, _, _, _, _, _, _, _, _, _ => none
  | k + 1, x, y, s, a, b, c, d, n, deep => T77n_6n1 D (fun r r2 => some (r, r2)) (L77n_6n0 D k) (L77n_6n1 D k) (L77n_6n2 D k) (L77n_6n3 D k) (L77n_6n4 D k) x y s a b c d n deep
def L77n_6n2 (D : Nat) : Nat → (Int) → (Int) → (Int) → (Tr) → (Tr) → (Tr) → (Tr) → (Int) → (Int) → Option ((Int) × (Int))
  | 0, _, _, _, _, _, _, _, _, _ => none
  | k + 1, x, y, s, a, b, c, d, n, deep => T77n_6n2 D (fun r r2 => some (r, r2)) (L77n_6n0 D k) (L77n_6n1 D k) (L77n_6n2 D k) (L77n_6n3 D k) (L77n_6n4 D k) x y s a b c d n deep
def L77n_6n3 (D : Nat) : Nat → (Int) → (Int) → (Int) → (Tr) → (Tr) → (Tr) → (Tr) → (Int) → (Int) → Option ((Int) × (Int))
  | 0, _, _, _, _, _, _, _, _, _ => none
  | k + 1, x, y, s, a, b, c, d, n, deep => T77n_6n3 D (fun r r2 => some (r, r2)) (L77n_6n0 D k) (L77n_6n1 D k) (L77n_6n2 D k) (L77n_6n3 D k) (L77n_6n4 D k) x y s a b c d n deep
def L77n_6n4 (D : Nat) : Nat → (Int) → (Int) → (Int) → (Tr) → (Tr) → (Tr) → (Tr) → (Int) → (Int) → Option ((Int) × (Int))
  | 0, _, _, _, _, _, _, _, _, _ => none
  | k + 1, x, y, s, a, b, c, d, n, deep => T77n_6n4 D (fun r r2 => some (r, r2)) (L77n_6n0 D k) (L77n_6n1 D k) (L77n_6n2 D k) (L77n_6n3 D k) (L77n_6n4 D k) x y s a b c d n deep
end
def T77n {ρ : Type} (D : Nat) (ret : (Int) → (Int) → Option ρ) (c6n0 : (Int) → (Int) → (Int) → (Tr) → (Tr) → (Tr) → (Tr) → (Int) → (Int) → Option ρ) (c6n1 : (Int) → (Int) → (Int) → (Tr) → (Tr) → (Tr) → (Tr) → (Int) → (Int) → Option ρ) (c6n2 : (Int) → (Int) → (Int) → (Tr) → (Tr) → (Tr) → (Tr) → (Int) → (Int) → Option ρ) (c6n3 : (Int) → (Int) → (Int) → (Tr) → (Tr) → (Tr) → (Tr) → (Int) → (Int) → Option ρ) (c6n4 : (Int) → (Int) → (Int) → (Tr) → (Tr) → (Tr) → (Tr) → (Int) → (Int) → Option ρ) (x : Int) (y : Int) (s : Int) (a : Tr) (b : Tr) (c : Tr) (d : Tr) : Option ρ :=
  (c6n0 ((Tr.node x y s a b c d).x) ((Tr.node x y s a b c d).y) ((Tr.node x y s a b c d).size) (a) (b) (c) (d) (0) (0))
def G77n (D : Nat) (k : Nat) (x : Int) (y : Int) (s : Int) (a : Tr) (b : Tr) (c : Tr) (d : Tr) : Option ((Int) × (Int)) := T77n D (fun r r2 => some (r, r2)) (L77n_6n0 D k) (L77n_6n1 D k) (L77n_6n2 D k) (L77n_6n3 D k) (L77n_6n4 D k) x y s a b c d
mutual
theorem t77n_6n0 (D : Nat) (hE : EnvOK Try.prog (envCn D)) : ∀ (k : Nat) (x : Int) (y : Int) (s : Int) (a : Tr) (b : Tr) (c : Tr) (d : Tr) (n : Int) (deep : Int) (r : Int) (r2 : Int), L77n_6n0 D k x y s a b c d n deep = some (r, r2) → Ends Try.prog Try.f77.results.toList (at_ Try.f77 6) (S77n_6n0 x y s a b c d n deep) (F.tup [F.int .i64 r, F.int .i64 r2])
  | 0, _, _, _, _, _, _, _, _, _, _, _, h => nomatch h
  | k + 1, x, y, s, a, b, c, d, n, deep, r, r2, h => by
    refine Ends.of_cut tyOK hE (T := [(6, [1, 4, 5, 6], 1000)]) (n := 200) ?_
    have e : runCut Try.prog (tiOf Try.prog) (envCn D) [(6, [1, 4, 5, 6], 1000)] 0 Try.f77.results.toList some 200 (at_ Try.f77 6) (S77n_6n0 x y s a b c d n deep) = T77n_6n0 D (fun r r2 => some (.ret (F.tup [F.int .i64 r, F.int .i64 r2]))) (fun x y s a b c d n deep => some (.cut (at_ Try.f77 6) (S77n_6n0 x y s a b c d n deep))) (fun x y s a b c d n deep => some (.cut (at_ Try.f77 6) (S77n_6n1 x y s a b c d n deep))) (fun x y s a b c d n deep => some (.cut (at_ Try.f77 6) (S77n_6n2 x y s a b c d n deep))) (fun x y s a b c d n deep => some (.cut (at_ Try.f77 6) (S77n_6n3 x y s a b c d n deep))) (fun x y s a b c d n deep => some (.cut (at_ Try.f77 6) (S77n_6n4 x y s a b c d n deep))) x y s a b c d n deep := by kernel_rfl
    rw [e]
    exact (good_sel h (fun _ h => good_cut (t77n_6n1 D hE k _ _ _ _ _ _ _ _ _ r r2 h)) (fun _ h => nomatch h))
theorem t77n_6n1 (D : Nat) (hE : EnvOK Try.prog (envCn D)) : ∀ (k : Nat) (x : Int) (y : Int) (s : Int) (a : Tr) (b : Tr) (c : Tr) (d : Tr) (n : Int) (deep : Int) (r : Int) (r2 : Int), L77n_6n1 D k x y s a b c d n deep = some (r, r2) → Ends Try.prog Try.f77.results.toList (at_ Try.f77 6) (S77n_6n1 x y s a b c d n deep) (F.tup [F.int .i64 r, F.int .i64 r2])
  | 0, _, _, _, _, _, _, _, _, _, _, _, h => nomatch h
  | k + 1, x, y, s, a, b, c, d, n, deep, r, r2, h => by
    refine Ends.of_cut tyOK hE (T := [(6, [1, 4, 5, 6], 1000)]) (n := 200) ?_
    have e : runCut Try.prog (tiOf Try.prog) (envCn D) [(6, [1, 4, 5, 6], 1000)] 0 Try.f77.results.toList some 200 (at_ Try.f77 6) (S77n_6n1 x y s a b c d n deep) = T77n_6n1 D (fun r r2 => some (.ret (F.tup [F.int .i64 r, F.int .i64 r2]))) (fun x y s a b c d n deep => some (.cut (at_ Try.f77 6) (S77n_6n0 x y s a b c d n deep))) (fun x y s a b c d n deep => some (.cut (at_ Try.f77 6) (S77n_6n1 x y s a b c d n deep))) (fun x y s a b c d n deep => some (.cut (at_ Try.f77 6) (S77n_6n2 x y s a b c d n deep))) (fun x y s a b c d n deep => some (.cut (at_ Try.f77 6) (S77n_6n3 x y s a b c d n deep))) (fun x y s a b c d n deep => some (.cut (at_ Try.f77 6) (S77n_6n4 x y s a b c d n deep))) x y s a b c d n deep := by kernel_rfl
    rw [e]
    exact (good_sel h (fun _ h => good_cut (t77n_6n2 D hE k _ _ _ _ _ _ _ _ _ r r2 h)) (fun _ h => nomatch h))
theorem t77n_6n2 (D : Nat) (hE : EnvOK Try.prog (envCn D)) : ∀ (k : Nat) (x : Int) (y : Int) (s : Int) (a : Tr) (b : Tr) (c : Tr) (d : Tr) (n : Int) (deep : Int) (r : Int) (r2 : Int), L77n_6n2 D k x y s a b c d n deep = some (r, r2) → Ends Try.prog Try.f77.results.toList (at_ Try.f77 6) (S77n_6n2 x y s a b c d n deep) (F.tup [F.int .i64 r, F.int .i64 r2])
  | 0, _, _, _, _, _, _, _, _, _, _, _, h => nomatch h
  | k + 1, x, y, s, a, b, c, d, n, deep, r, r2, h => by
    refine Ends.of_cut tyOK hE (T := [(6, [1, 4, 5, 6], 1000)]) (n := 200) ?_
    have e : runCut Try.prog (tiOf Try.prog) (envCn D) [(6, [1, 4, 5, 6], 1000)] 0 Try.f77.results.toList some 200 (at_ Try.f77 6) (S77n_6n2 x y s a b c d n deep) = T77n_6n2 D (fun r r2 => some (.ret (F.tup [F.int .i64 r, F.int .i64 r2]))) (fun x y s a b c d n deep => some (.cut (at_ Try.f77 6) (S77n_6n0 x y s a b c d n deep))) (fun x y s a b c d n deep => some (.cut (at_ Try.f77 6) (S77n_6n1 x y s a b c d n deep))) (fun x y s a b c d n deep => some (.cut (at_ Try.f77 6) (S77n_6n2 x y s a b c d n deep))) (fun x y s a b c d n deep => some (.cut (at_ Try.f77 6) (S77n_6n3 x y s a b c d n deep))) (fun x y s a b c d n deep => some (.cut (at_ Try.f77 6) (S77n_6n4 x y s a b c d n deep))) x y s a b c d n deep := by kernel_rfl
    rw [e]
    exact (good_sel h (fun _ h => good_cut (t77n_6n3 D hE k _ _ _ _ _ _ _ _ _ r r2 h)) (fun _ h => nomatch h))
theorem t77n_6n3 (D : Nat) (hE : EnvOK Try.prog (envCn D)) : ∀ (k : Nat) (x : Int) (y : Int) (s : Int) (a : Tr) (b : Tr) (c : Tr) (d : Tr) (n : Int) (deep : Int) (r : Int) (r2 : Int), L77n_6n3 D k x y s a b c d n deep = some (r, r2) → Ends Try.prog Try.f77.results.toList (at_ Try.f77 6) (S77n_6n3 x y s a b c d n deep) (F.tup [F.int .i64 r, F.int .i64 r2])
  | 0, _, _, _, _, _, _, _, _, _, _, _, h => nomatch h
  | k + 1, x, y, s, a, b, c, d, n, deep, r, r2, h => by
    refine Ends.of_cut tyOK hE (T := [(6, [1, 4, 5, 6], 1000)]) (n := 200) ?_
    have e : runCut Try.prog (tiOf Try.prog) (envCn D) [(6, [1, 4, 5, 6], 1000)] 0 Try.f77.results.toList some 200 (at_ Try.f77 6) (S77n_6n3 x y s a b c d n deep) = T77n_6n3 D (fun r r2 => some (.ret (F.tup [F.int .i64 r, F.int .i64 r2]))) (fun x y s a b c d n deep => some (.cut (at_ Try.f77 6) (S77n_6n0 x y s a b c d n deep))) (fun x y s a b c d n deep => some (.cut (at_ Try.f77 6) (S77n_6n1 x y s a b c d n deep))) (fun x y s a b c d n deep => some (.cut (at_ Try.f77 6) (S77n_6n2 x y s a b c d n deep))) (fun x y s a b c d n deep => some (.cut (at_ Try.f77 6) (S77n_6n3 x y s a b c d n deep))) (fun x y s a b c d n deep => some (.cut (at_ Try.f77 6) (S77n_6n4 x y s a b c d n deep))) x y s a b c d n deep := by kernel_rfl
    rw [e]
    exact (good_sel h (fun _ h => good_cut (t77n_6n4 D hE k _ _ _ _ _ _ _ _ _ r r2 h)) (fun _ h => nomatch h))
theorem t77n_6n4 (D : Nat) (hE : EnvOK Try.prog (envCn D)) : ∀ (k : Nat) (x : Int) (y : Int) (s : Int) (a : Tr) (b : Tr) (c : Tr) (d : Tr) (n : Int) (deep : Int) (r : Int) (r2 : Int), L77n_6n4 D k x y s a b c d n deep = some (r, r2) → Ends Try.prog Try.f77.results.toList (at_ Try.f77 6) (S77n_6n4 x y s a b c d n deep) (F.tup [F.int .i64 r, F.int .i64 r2])
  | 0, _, _, _, _, _, _, _, _, _, _, _, h => nomatch h
  | k + 1, x, y, s, a, b, c, d, n, deep, r, r2, h => by
    refine Ends.of_cut tyOK hE (T := [(6, [1, 4, 5, 6], 1000)]) (n := 200) ?_
    have e : runCut Try.prog (tiOf Try.prog) (envCn D) [(6, [1, 4, 5, 6], 1000)] 0 Try.f77.results.toList some 200 (at_ Try.f77 6) (S77n_6n4 x y s a b c d n deep) = T77n_6n4 D (fun r r2 => some (.ret (F.tup [F.int .i64 r, F.int .i64 r2]))) (fun x y s a b c d n deep => some (.cut (at_ Try.f77 6) (S77n_6n0 x y s a b c d n deep))) (fun x y s a b c d n deep => some (.cut (at_ Try.f77 6) (S77n_6n1 x y s a b c d n deep))) (fun x y s a b c d n deep => some (.cut (at_ Try.f77 6) (S77n_6n2 x y s a b c d n deep))) (fun x y s a b c d n deep => some (.cut (at_ Try.f77 6) (S77n_6n3 x y s a b c d n deep))) (fun x y s a b c d n deep => some (.cut (at_ Try.f77 6) (S77n_6n4 x y s a b c d n deep))) x y s a b c d n deep := by kernel_rfl
    rw [e]
    exact good_ret (by cases h; rfl)
end
theorem t77n (D : Nat) (hE : EnvOK Try.prog (envCn D)) (k : Nat) (x : Int) (y : Int) (s : Int) (a : Tr) (b : Tr) (c : Tr) (d : Tr) (r : Int) (r2 : Int) (h : G77n D k x y s a b c d = some (r, r2)) : Ends Try.prog Try.f77.results.toList [.code (bodyOf Try.f77)] (start Try.f77.ntmps ([trF (Tr.node x y s a b c d)].map .f)) (F.tup [F.int .i64 r, F.int .i64 r2]) := by
  refine Ends.of_run tyOK hE (T := [(6, [1, 4, 5, 6], 1000)]) (n := 200) ?_
  have e : run Try.prog (tiOf Try.prog) (envCn D) [(6, [1, 4, 5, 6], 1000)] 0 Try.f77.results.toList some 200 [.code (bodyOf Try.f77)] (start Try.f77.ntmps ([trF (Tr.node x y s a b c d)].map .f)) = T77n D (fun r r2 => some (.ret (F.tup [F.int .i64 r, F.int .i64 r2]))) (fun x y s a b c d n deep => some (.cut (at_ Try.f77 6) (S77n_6n0 x y s a b c d n deep))) (fun x y s a b c d n deep => some (.cut (at_ Try.f77 6) (S77n_6n1 x y s a b c d n deep))) (fun x y s a b c d n deep => some (.cut (at_ Try.f77 6) (S77n_6n2 x y s a b c d n deep))) (fun x y s a b c d n deep => some (.cut (at_ Try.f77 6) (S77n_6n3 x y s a b c d n deep))) (fun x y s a b c d n deep => some (.cut (at_ Try.f77 6) (S77n_6n4 x y s a b c d n deep))) x y s a b c d := by kernel_rfl
  rw [e]
  exact good_cut (t77n_6n0 D hE k _ _ _ _ _ _ _ _ _ r r2 h)
/-! ### function 77 -/
def S77l_6  : St := ⟨[.bad, .bad, .bad, .bad, .bad, .bad, .bad, .bad, .bad, .bad, .bad, .bad, .bad, .bad, .bad, .bad, .bad, .bad, .bad, .bad, .bad, .bad, .bad, .bad, .bad, .bad, .bad, .bad, .bad, .bad, .bad, .bad, .bad, .bad, .bad], []⟩
def T77l_6 {ρ : Type} (D : Nat) (ret : (Int) → (Int) → Option ρ) (c6 : Option ρ)  : Option ρ :=
  none
def L77l_6 (D : Nat) : Nat → Option ((Int) × (Int))
  | 0 => none
  | k + 1 => T77l_6 D (fun r r2 => some (r, r2)) (L77l_6 D k) 
def T77l {ρ : Type} (D : Nat) (ret : (Int) → (Int) → Option ρ) (c6 : Option ρ) (x : Int) (y : Int) (s : Int) (ids : List Int) : Option ρ :=
  (ret (1) (0))
def G77l (D : Nat) (k : Nat) (x : Int) (y : Int) (s : Int) (ids : List Int) : Option ((Int) × (Int)) := T77l D (fun r r2 => some (r, r2)) (L77l_6 D k) x y s ids
theorem t77l_6 (D : Nat) (hE : EnvOK Try.prog (envCn D)) : ∀ (k : Nat)  (r : Int) (r2 : Int), L77l_6 D k  = some (r, r2) → Ends Try.prog Try.f77.results.toList (at_ Try.f77 6) (S77l_6 ) (F.tup [F.int .i64 r, F.int .i64 r2])
  | 0, _, _, h => nomatch h
  | k + 1, r, r2, h => by
    refine Ends.of_cut tyOK hE (T := [(6, [1, 4, 5, 6], 1000)]) (n := 200) ?_
    have e : runCut Try.prog (tiOf Try.prog) (envCn D) [(6, [1, 4, 5, 6], 1000)] 0 Try.f77.results.toList some 200 (at_ Try.f77 6) (S77l_6 ) = T77l_6 D (fun r r2 => some (.ret (F.tup [F.int .i64 r, F.int .i64 r2]))) (some (.cut (at_ Try.f77 6) (S77l_6 )))  := by kernel_rfl
    rw [e]
    exact nomatch h
theorem t77l (D : Nat) (hE : EnvOK Try.prog (envCn D)) (k : Nat) (x : Int) (y : Int) (s : Int) (ids : List Int) (r : Int) (r2 : Int) (h : G77l D k x y s ids = some (r, r2)) : Ends Try.prog Try.f77.results.toList [.code (bodyOf Try.f77)] (start Try.f77.ntmps ([trF (Tr.leaf x y s ids)].map .f)) (F.tup [F.int .i64 r, F.int .i64 r2]) := by
  refine Ends.of_run tyOK hE (T := [(6, [1, 4, 5, 6], 1000)]) (n := 200) ?_
  have e : run Try.prog (tiOf Try.prog) (envCn D) [(6, [1, 4, 5, 6], 1000)] 0 Try.f77.results.toList some 200 [.code (bodyOf Try.f77)] (start Try.f77.ntmps ([trF (Tr.leaf x y s ids)].map .f)) = T77l D (fun r r2 => some (.ret (F.tup [F.int .i64 r, F.int .i64 r2]))) (some (.cut (at_ Try.f77 6) (S77l_6 ))) x y s ids := by kernel_rfl
  rw [e]
  exact good_ret (by cases h; rfl)
theorem lvs_le : ∀ t : Tr, lvs t ≤ 4 ^ trDepth t
  | .leaf _ _ _ _ => Nat.le_refl 1
  | .node _ _ _ a b c d => by
    have ha := lvs_le a
    have hb := lvs_le b
    have hc := lvs_le c
    have hd := lvs_le d
    simp only [lvs, trDepth]
    generalize hm : max (max (trDepth a) (trDepth b)) (max (trDepth c) (trDepth d)) = m
    have m1 : trDepth a ≤ m := hm ▸ Nat.le_trans (Nat.le_max_left _ _) (Nat.le_max_left _ _)
    have m2 : trDepth b ≤ m := hm ▸ Nat.le_trans (Nat.le_max_right _ _) (Nat.le_max_left _ _)
    have m3 : trDepth c ≤ m := hm ▸ Nat.le_trans (Nat.le_max_left _ _) (Nat.le_max_right _ _)
    have m4 : trDepth d ≤ m := hm ▸ Nat.le_trans (Nat.le_max_right _ _) (Nat.le_max_right _ _)
    have p1 := Nat.pow_le_pow_right (show 0 < 4 by omega) m1
    have p2 := Nat.pow_le_pow_right (show 0 < 4 by omega) m2
    have p3 := Nat.pow_le_pow_right (show 0 < 4 by omega) m3
    have p4 := Nat.pow_le_pow_right (show 0 < 4 by omega) m4
    rw [Nat.pow_succ]
    omega
theorem lvs_small {t : Tr} (h : trDepth t < 9) : lvs t ≤ 65536 := Nat.le_trans (lvs_le t) (Nat.pow_le_pow_right (n := 4) (by omega) (show trDepth t ≤ 8 by omega))
theorem max_nat {a b : Nat} : (if (a : Int) > (b : Int) then (a : Int) else (b : Int)) = ((max b a : Nat) : Int) := by
  split
  · rw [Nat.max_eq_right (by omega)]
  · rw [Nat.max_eq_left (by omega)]
theorem count_node (D : Nat) (x y s : Int) (a b c d : Tr) (ho : cntOk (D + 1) (.node x y s a b c d) = true) : G77n D 5 x y s a b c d = some (lvsV (.node x y s a b c d), dptV (.node x y s a b c d)) := by
  simp only [cntOk, Bool.and_eq_true, decide_eq_true_eq, trDepth] at ho
  obtain ⟨ho, hD⟩ := ho
  have hm := Nat.max_lt.1 (Nat.lt_of_succ_lt_succ (of_decide_eq_true ho))
  have hm1 := Nat.max_lt.1 hm.1
  have hm2 := Nat.max_lt.1 hm.2
  have ok : ∀ t, trDepth t < D → cntOk D t = true := fun t ht => by simp only [cntOk, Bool.and_eq_true, decide_eq_true_eq]; exact ⟨ht, by omega⟩
  have la := lvs_small (t := a) (by omega)
  have lb := lvs_small (t := b) (by omega)
  have lc := lvs_small (t := c) (by omega)
  have ld := lvs_small (t := d) (by omega)
  have step : ∀ (t : Tr) (n m : Nat), n ≤ 1000000 → lvs t ≤ 65536 → IntKind.i64.wrap ((n : Int) + lvsV t) = ((n + lvs t : Nat) : Int) := fun t n m hn ht => by
    unfold lvsV; rw [wrapi (by omega) (by omega)]; omega
  have dst : ∀ (t : Tr), trDepth t < D → IntKind.i64.wrap (dptV t + 1) = ((trDepth t + 1 : Nat) : Int) := fun t ht => by
    unfold dptV; rw [wrapi (by omega) (by omega)]; omega
  have z : (0 : Int) = ((0 : Nat) : Int) := rfl
  unfold G77n T77n
  simp only [L77n_6n0, T77n_6n0, L77n_6n1, T77n_6n1, L77n_6n2, T77n_6n2, L77n_6n3, T77n_6n3, L77n_6n4, T77n_6n4, isTr_trF, unTr_trF, ok a hm1.1, ok b hm1.2, ok c hm2.1, ok d hm2.2, Bool.and_true, bsel_true, if_true]
  rw [z, step a 0 0 (by omega) la, step b _ 0 (by omega) lb, step c _ 0 (by omega) lc, step d _ 0 (by omega) ld, dst a hm1.1, dst b hm1.2, dst c hm2.1, dst d hm2.2, max_nat, max_nat, max_nat, max_nat]
  simp only [lvsV, dptV, lvs, trDepth]
  congr 2
  · congr 1; omega
  · congr 1
    omega
theorem okCount : ∀ D, PureOK Try.prog 77 (preCn D) resCn
  | 0 => by
    intro xs hp
    exfalso
    unfold preCn at hp
    split at hp
    · simp only [cntOk, Bool.and_eq_true, decide_eq_true_eq] at hp
      omega
    · cases hp
  | D + 1 => fn_pure_at (c := bodyOf Try.f77) Try.func77 (by kernel_rfl) (by kernel_rfl) fun xs hp => match xs, hp with
    | [t], hp => by
      simp only [preCn, Bool.and_eq_true] at hp
      obtain ⟨h1, h3⟩ := hp
      have ht := tr_eq h1
      have hr : resCn [t] = .tup [.int .i64 (lvsV (unTr t)), .int .i64 (dptV (unTr t))] := rfl
      rw [hr]
      generalize unTr t = t' at ht h3 ⊢
      subst ht
      refine ⟨[trF t'], .tup [.int .i64 (lvsV t'), .int .i64 (dptV t')], ⟨.refl _, trivial⟩, ?_, .refl _⟩
      cases t' with
      | leaf x y s ids => exact t77l D (Env.add_ok envQ6_ok (okCount D).sp) 5 x y s ids _ _ rfl
      | node x y s a b c d => exact t77n D (Env.add_ok envQ6_ok (okCount D).sp) 5 x y s a b c d _ _ (count_node D x y s a b c d h3)
def envQ8 : Env := envQ6.add 77 (.pure (preCn 9) resCn)
theorem envQ8_ok : EnvOK Try.prog envQ8 := Env.add_ok envQ6_ok (okCount 9).sp
end
end Go.Proofs.Ytjbilidfnfnpfaa.R
