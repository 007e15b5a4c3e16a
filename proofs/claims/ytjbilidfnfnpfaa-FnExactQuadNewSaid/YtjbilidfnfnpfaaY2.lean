/-
  The walk of trees: a block that is marked; new trees.
-/
import Derived.Test.YtjbilidfnfnpfaaY1
namespace Go.Proofs.Ytjbilidfnfnpfaa.R
open Go
noncomputable section
set_option linter.unusedVariables false
set_option linter.unusedSimpArgs false
set_option maxRecDepth 100000
/-! ### function 64 -/
def S64_2n0 (x : Int) (y : Int) (s : Int) (p : Bool) (z : Nat → F) (m : Int) : St := ⟨[(U.hs 0 1 0 1), (U.f (F.int .i64 m)), .bad, .bad, .bad, (U.f (F.int .i64 0)), .bad, .bad, .bad, .bad, .bad, .bad, .bad, .bad, .bad, .bad, .bad, .bad, .bad, .bad, .bad, .bad, .bad, .bad, .bad, .bad, .bad, .bad, .bad, .bad, .bad, .bad, .bad, .bad, .bad, .bad, .bad, .bad, .bad, .bad, .bad, .bad, .bad, .bad, .bad, .bad, .bad, .bad, .bad, .bad], [HO.arr 5 1 (fun _ => F.agg [F.int .i64 x, F.int .i64 y, F.int .i64 s, F.bool p, F.sl 0 z])]⟩
def S64_2n1 (g : Nat → F) (m : Int) : St := ⟨[(U.hs 0 1 0 1), (U.f (F.int .i64 m)), .bad, .bad, .bad, (U.f (F.int .i64 1)), .bad, .bad, .bad, .bad, .bad, .bad, .bad, .bad, .bad, .bad, .bad, .bad, .bad, .bad, .bad, .bad, .bad, .bad, .bad, .bad, .bad, .bad, .bad, .bad, .bad, .bad, .bad, .bad, .bad, .bad, .bad, .bad, .bad, .bad, .bad, .bad, .bad, .bad, .bad, .bad, .bad, .bad, .bad, .bad], [HO.arr 5 1 g]⟩
def T64_2n0 {ρ : Type} (ret : (Int) → (Nat → F) → Option ρ) (c2n0 : (Int) → (Int) → (Int) → (Bool) → (Nat → F) → (Int) → Option ρ) (c2n1 : (Nat → F) → (Int) → Option ρ) (x : Int) (y : Int) (s : Int) (p : Bool) (z : Nat → F) (m : Int) : Option ρ :=
  (c2n1 (fun j ↦ if j = 0 + Int.toNat 0 then F.agg [F.int IntKind.i64 m, F.int IntKind.i64 (IntKind.i64.wrap (m + 1)), F.int IntKind.i64 (IntKind.i64.wrap (IntKind.i64.wrap (m + 1) + 1)), F.bool ((IntKind.i64.wrap (IntKind.i64.wrap (IntKind.i64.wrap (m + 1) + 1) + 1)).tmod 3 == 0), F.sl 0 z] else if j = 0 + Int.toNat 0 then F.agg [F.int IntKind.i64 m, F.int IntKind.i64 (IntKind.i64.wrap (m + 1)), F.int IntKind.i64 (IntKind.i64.wrap (IntKind.i64.wrap (m + 1) + 1)), F.bool p, F.sl 0 z] else if j = 0 + Int.toNat 0 then F.agg [F.int IntKind.i64 m, F.int IntKind.i64 (IntKind.i64.wrap (m + 1)), F.int IntKind.i64 s, F.bool p, F.sl 0 z] else if j = 0 + Int.toNat 0 then F.agg [F.int IntKind.i64 m, F.int IntKind.i64 y, F.int IntKind.i64 s, F.bool p, F.sl 0 z] else F.agg [F.int IntKind.i64 x, F.int IntKind.i64 y, F.int IntKind.i64 s, F.bool p, F.sl 0 z]) (IntKind.i64.wrap (IntKind.i64.wrap (IntKind.i64.wrap (IntKind.i64.wrap (m + 1) + 1) + 1) + 1)))
def T64_2n1 {ρ : Type} (ret : (Int) → (Nat → F) → Option ρ) (c2n0 : (Int) → (Int) → (Int) → (Bool) → (Nat → F) → (Int) → Option ρ) (c2n1 : (Nat → F) → (Int) → Option ρ) (g : Nat → F) (m : Int) : Option ρ :=
  (ret (m) (g))
mutual
def L64_2n0 : Nat → (Int) → (Int) → (Int) → (Bool) → (Nat → F) → (Int) → Option ((Int) × (Nat → F))
  | 0, _, _, _, _, _, _ => none
  | k + 1, x, y, s, p, z, m => T64_2n0 (fun r g2 => some (r, g2)) (L64_2n0 k) (L64_2n1 k) x y s p z m
def L64_2n1 : Nat → (Nat → F) → (Int) → Option ((Int) × (Nat → F))
  | 0, _, _ => none
  | k + 1, g, m => T64_2n1 (fun r g2 => some (r, g2)) (L64_2n0 k) (L64_2n1 k) g m
end
def T64 {ρ : Type} (ret : (Int) → (Nat → F) → Option ρ) (c2n0 : (Int) → (Int) → (Int) → (Bool) → (Nat → F) → (Int) → Option ρ) (c2n1 : (Nat → F) → (Int) → Option ρ) (x : Int) (y : Int) (s : Int) (p : Bool) (z : Nat → F) (m : Int) : Option ρ :=
  (c2n0 (x) (y) (s) (p) (z) (m))
def G64 (k : Nat) (x : Int) (y : Int) (s : Int) (p : Bool) (z : Nat → F) (m : Int) : Option ((Int) × (Nat → F)) := T64 (fun r g2 => some (r, g2)) (L64_2n0 k) (L64_2n1 k) x y s p z m
mutual
theorem t64_2n0 : ∀ (k : Nat) (x : Int) (y : Int) (s : Int) (p : Bool) (z : Nat → F) (m : Int) (r : Int) (g2 : Nat → F), L64_2n0 k x y s p z m = some (r, g2) → EndsN Try.prog 1 Try.f64.results.toList (at_ Try.f64 2) (S64_2n0 x y s p z m) (F.tup [F.int .i64 r, F.sl 1 g2])
  | 0, _, _, _, _, _, _, _, _, h => nomatch h
  | k + 1, x, y, s, p, z, m, r, g2, h => by
    refine Ends.of_cut tyOK envY1_ok (T := [(2, [0, 1, 5], 1000)]) (n := 200) ?_
    have e : runCut Try.prog (tiOf Try.prog) envY1 [(2, [0, 1, 5], 1000)] 1 Try.f64.results.toList some 200 (at_ Try.f64 2) (S64_2n0 x y s p z m) = T64_2n0 (fun r g2 => some (.ret (F.tup [F.int .i64 r, F.sl 1 g2]))) (fun x y s p z m => some (.cut (at_ Try.f64 2) (S64_2n0 x y s p z m))) (fun g m => some (.cut (at_ Try.f64 2) (S64_2n1 g m))) x y s p z m := by kernel_rfl
    rw [e]
    exact good_cut (t64_2n1 k _ _ r g2 h)
theorem t64_2n1 : ∀ (k : Nat) (g : Nat → F) (m : Int) (r : Int) (g2 : Nat → F), L64_2n1 k g m = some (r, g2) → EndsN Try.prog 1 Try.f64.results.toList (at_ Try.f64 2) (S64_2n1 g m) (F.tup [F.int .i64 r, F.sl 1 g2])
  | 0, _, _, _, _, h => nomatch h
  | k + 1, g, m, r, g2, h => by
    refine Ends.of_cut tyOK envY1_ok (T := [(2, [0, 1, 5], 1000)]) (n := 200) ?_
    have e : runCut Try.prog (tiOf Try.prog) envY1 [(2, [0, 1, 5], 1000)] 1 Try.f64.results.toList some 200 (at_ Try.f64 2) (S64_2n1 g m) = T64_2n1 (fun r g2 => some (.ret (F.tup [F.int .i64 r, F.sl 1 g2]))) (fun x y s p z m => some (.cut (at_ Try.f64 2) (S64_2n0 x y s p z m))) (fun g m => some (.cut (at_ Try.f64 2) (S64_2n1 g m))) g m := by kernel_rfl
    rw [e]
    exact good_ret (by cases h; rfl)
end
theorem t64 (k : Nat) (x : Int) (y : Int) (s : Int) (p : Bool) (z : Nat → F) (m : Int) (r : Int) (g2 : Nat → F) (h : G64 k x y s p z m = some (r, g2)) : EndsN Try.prog 1 Try.f64.results.toList [.code (bodyOf Try.f64)] (startN Try.f64.ntmps [U.hs 0 1 0 1, U.f (F.int .i64 m)] [HO.arr 5 1 (fun _ => F.agg [F.int .i64 x, F.int .i64 y, F.int .i64 s, F.bool p, F.sl 0 z])]) (F.tup [F.int .i64 r, F.sl 1 g2]) := by
  refine Ends.of_run tyOK envY1_ok (T := [(2, [0, 1, 5], 1000)]) (n := 200) ?_
  have e : run Try.prog (tiOf Try.prog) envY1 [(2, [0, 1, 5], 1000)] 1 Try.f64.results.toList some 200 [.code (bodyOf Try.f64)] (startN Try.f64.ntmps [U.hs 0 1 0 1, U.f (F.int .i64 m)] [HO.arr 5 1 (fun _ => F.agg [F.int .i64 x, F.int .i64 y, F.int .i64 s, F.bool p, F.sl 0 z])]) = T64 (fun r g2 => some (.ret (F.tup [F.int .i64 r, F.sl 1 g2]))) (fun x y s p z m => some (.cut (at_ Try.f64 2) (S64_2n0 x y s p z m))) (fun g m => some (.cut (at_ Try.f64 2) (S64_2n1 g m))) x y s p z m := by kernel_rfl
  rw [e]
  exact good_cut (t64_2n0 k _ _ _ _ _ _ r g2 h)
/-! ### function 64 -/
def S64z_2 (m : Int) : St := ⟨[(U.f (F.sl 0 (fun _ => F.dflt))), (U.f (F.int .i64 m)), .bad, .bad, .bad, (U.f (F.int .i64 0)), .bad, .bad, .bad, .bad, .bad, .bad, .bad, .bad, .bad, .bad, .bad, .bad, .bad, .bad, .bad, .bad, .bad, .bad, .bad, .bad, .bad, .bad, .bad, .bad, .bad, .bad, .bad, .bad, .bad, .bad, .bad, .bad, .bad, .bad, .bad, .bad, .bad, .bad, .bad, .bad, .bad, .bad, .bad, .bad], []⟩
def T64z_2 {ρ : Type} (ret : (Int) → Option ρ) (c2 : (Int) → Option ρ) (m : Int) : Option ρ :=
  (ret (m))
def L64z_2 : Nat → (Int) → Option (Int)
  | 0, _ => none
  | k + 1, m => T64z_2 some (L64z_2 k) m
def T64z {ρ : Type} (ret : (Int) → Option ρ) (c2 : (Int) → Option ρ) (m : Int) : Option ρ :=
  (c2 (m))
def G64z (k : Nat) (m : Int) : Option (Int) := T64z some (L64z_2 k) m
theorem t64z_2 : ∀ (k : Nat) (m : Int) (r : Int), L64z_2 k m = some r → Ends Try.prog Try.f64.results.toList (at_ Try.f64 2) (S64z_2 m) (F.int .i64 r)
  | 0, _, _, h => nomatch h
  | k + 1, m, r, h => by
    refine Ends.of_cut tyOK envY1_ok (T := [(2, [0, 1, 5], 1000)]) (n := 200) ?_
    have e : runCut Try.prog (tiOf Try.prog) envY1 [(2, [0, 1, 5], 1000)] 0 Try.f64.results.toList some 200 (at_ Try.f64 2) (S64z_2 m) = T64z_2 (fun r => some (.ret (F.int .i64 r))) (fun m => some (.cut (at_ Try.f64 2) (S64z_2 m))) m := by kernel_rfl
    rw [e]
    exact good_ret (by cases h; rfl)
theorem t64z (k : Nat) (m : Int) (r : Int) (h : G64z k m = some r) : Ends Try.prog Try.f64.results.toList [.code (bodyOf Try.f64)] (start Try.f64.ntmps ([F.sl 0 (fun _ => F.dflt), F.int .i64 m].map .f)) (F.int .i64 r) := by
  refine Ends.of_run tyOK envY1_ok (T := [(2, [0, 1, 5], 1000)]) (n := 200) ?_
  have e : run Try.prog (tiOf Try.prog) envY1 [(2, [0, 1, 5], 1000)] 0 Try.f64.results.toList some 200 [.code (bodyOf Try.f64)] (start Try.f64.ntmps ([F.sl 0 (fun _ => F.dflt), F.int .i64 m].map .f)) = T64z (fun r => some (.ret (F.int .i64 r))) (fun m => some (.cut (at_ Try.f64 2) (S64z_2 m))) m := by kernel_rfl
  rw [e]
  exact good_cut (t64z_2 k _ r h)
/-! ### function 64 -/
def S64e_2 (g : Nat → F) (m : Int) : St := ⟨[(U.hs 0 0 0 0), (U.f (F.int .i64 m)), .bad, .bad, .bad, (U.f (F.int .i64 0)), .bad, .bad, .bad, .bad, .bad, .bad, .bad, .bad, .bad, .bad, .bad, .bad, .bad, .bad, .bad, .bad, .bad, .bad, .bad, .bad, .bad, .bad, .bad, .bad, .bad, .bad, .bad, .bad, .bad, .bad, .bad, .bad, .bad, .bad, .bad, .bad, .bad, .bad, .bad, .bad, .bad, .bad, .bad, .bad], [HO.arr 5 0 g]⟩
def T64e_2 {ρ : Type} (ret : (Int) → (Nat → F) → Option ρ) (c2 : (Nat → F) → (Int) → Option ρ) (g : Nat → F) (m : Int) : Option ρ :=
  (ret (m) (g))
def L64e_2 : Nat → (Nat → F) → (Int) → Option ((Int) × (Nat → F))
  | 0, _, _ => none
  | k + 1, g, m => T64e_2 (fun r g2 => some (r, g2)) (L64e_2 k) g m
def T64e {ρ : Type} (ret : (Int) → (Nat → F) → Option ρ) (c2 : (Nat → F) → (Int) → Option ρ) (g : Nat → F) (m : Int) : Option ρ :=
  (c2 (g) (m))
def G64e (k : Nat) (g : Nat → F) (m : Int) : Option ((Int) × (Nat → F)) := T64e (fun r g2 => some (r, g2)) (L64e_2 k) g m
theorem t64e_2 : ∀ (k : Nat) (g : Nat → F) (m : Int) (r : Int) (g2 : Nat → F), L64e_2 k g m = some (r, g2) → EndsN Try.prog 1 Try.f64.results.toList (at_ Try.f64 2) (S64e_2 g m) (F.tup [F.int .i64 r, F.sl 0 g2])
  | 0, _, _, _, _, h => nomatch h
  | k + 1, g, m, r, g2, h => by
    refine Ends.of_cut tyOK envY1_ok (T := [(2, [0, 1, 5], 1000)]) (n := 200) ?_
    have e : runCut Try.prog (tiOf Try.prog) envY1 [(2, [0, 1, 5], 1000)] 1 Try.f64.results.toList some 200 (at_ Try.f64 2) (S64e_2 g m) = T64e_2 (fun r g2 => some (.ret (F.tup [F.int .i64 r, F.sl 0 g2]))) (fun g m => some (.cut (at_ Try.f64 2) (S64e_2 g m))) g m := by kernel_rfl
    rw [e]
    exact good_ret (by cases h; rfl)
theorem t64e (k : Nat) (g : Nat → F) (m : Int) (r : Int) (g2 : Nat → F) (h : G64e k g m = some (r, g2)) : EndsN Try.prog 1 Try.f64.results.toList [.code (bodyOf Try.f64)] (startN Try.f64.ntmps [U.hs 0 0 0 0, U.f (F.int .i64 m)] [HO.arr 5 0 g]) (F.tup [F.int .i64 r, F.sl 0 g2]) := by
  refine Ends.of_run tyOK envY1_ok (T := [(2, [0, 1, 5], 1000)]) (n := 200) ?_
  have e : run Try.prog (tiOf Try.prog) envY1 [(2, [0, 1, 5], 1000)] 1 Try.f64.results.toList some 200 [.code (bodyOf Try.f64)] (startN Try.f64.ntmps [U.hs 0 0 0 0, U.f (F.int .i64 m)] [HO.arr 5 0 g]) = T64e (fun r g2 => some (.ret (F.tup [F.int .i64 r, F.sl 0 g2]))) (fun g m => some (.cut (at_ Try.f64 2) (S64e_2 g m))) g m := by kernel_rfl
  rw [e]
  exact good_cut (t64e_2 k _ _ r g2 h)
/-! ### function 66 -/
def S66_2n0 (x : Int) (y : Int) (s : Int) (p : Bool) (z : Nat → F) (m : Int) : St := ⟨[(U.f (F.sl 1 (fun _ => F.agg [F.int .i64 x, F.int .i64 y, F.int .i64 s, F.bool p, F.sl 0 z]))), (U.f (F.int .i64 m)), .bad, .bad, .bad, (U.f (F.int .i64 0)), .bad, .bad, .bad, .bad, .bad, .bad, .bad, .bad, .bad, .bad, .bad, .bad, .bad, .bad, .bad, .bad, .bad, .bad, .bad, .bad, .bad, .bad, .bad, .bad, .bad, .bad, .bad, .bad, .bad, .bad, .bad, .bad, .bad, .bad, .bad, .bad, .bad, .bad, .bad, .bad, .bad, .bad, .bad, .bad, .bad, .bad, .bad, .bad, .bad, .bad, .bad, .bad, .bad, .bad], []⟩
def S66_2n1 (x : Int) (y : Int) (s : Int) (p : Bool) (z : Nat → F) (m : Int) : St := ⟨[(U.f (F.sl 1 (fun _ => F.agg [F.int .i64 x, F.int .i64 y, F.int .i64 s, F.bool p, F.sl 0 z]))), (U.f (F.int .i64 m)), .bad, .bad, .bad, (U.f (F.int .i64 1)), .bad, .bad, .bad, .bad, .bad, .bad, .bad, .bad, .bad, .bad, .bad, .bad, .bad, .bad, .bad, .bad, .bad, .bad, .bad, .bad, .bad, .bad, .bad, .bad, .bad, .bad, .bad, .bad, .bad, .bad, .bad, .bad, .bad, .bad, .bad, .bad, .bad, .bad, .bad, .bad, .bad, .bad, .bad, .bad, .bad, .bad, .bad, .bad, .bad, .bad, .bad, .bad, .bad, .bad], []⟩
def T66_2n0 {ρ : Type} (ret : (Int) → Option ρ) (c2n0 : (Int) → (Int) → (Int) → (Bool) → (Nat → F) → (Int) → Option ρ) (c2n1 : (Int) → (Int) → (Int) → (Bool) → (Nat → F) → (Int) → Option ρ) (x : Int) (y : Int) (s : Int) (p : Bool) (z : Nat → F) (m : Int) : Option ρ :=
  (bsel (x != m)
   (ret (-1))
   (bsel (y != IntKind.i64.wrap (m + 1))
    (ret (-1))
    (bsel (s != IntKind.i64.wrap (IntKind.i64.wrap (m + 1) + 1))
     (ret (-1))
     (bsel (!p == ((IntKind.i64.wrap (IntKind.i64.wrap (IntKind.i64.wrap (m + 1) + 1) + 1)).tmod 3 == 0))
      (ret (-1))
      (bsel (decide (IntKind.i64.wrap (IntKind.i64.wrap (IntKind.i64.wrap (IntKind.i64.wrap (m + 1) + 1) + 1) + 1) < 0))
       (ret (-1))
       (c2n1 (x) (y) (s) (p) (z) (IntKind.i64.wrap (IntKind.i64.wrap (IntKind.i64.wrap (IntKind.i64.wrap (m + 1) + 1) + 1) + 1))))))))
def T66_2n1 {ρ : Type} (ret : (Int) → Option ρ) (c2n0 : (Int) → (Int) → (Int) → (Bool) → (Nat → F) → (Int) → Option ρ) (c2n1 : (Int) → (Int) → (Int) → (Bool) → (Nat → F) → (Int) → Option ρ) (x : Int) (y : Int) (s : Int) (p : Bool) (z : Nat → F) (m : Int) : Option ρ :=
  (ret (m))
mutual
def L66_2n0 : Nat → (Int) → (Int) → (Int) → (Bool) → (Nat → F) → (Int) → Option (Int)
  | 0, _, _, _, _, _, _ => none
  | k + 1, x, y, s, p, z, m => T66_2n0 some (L66_2n0 k) (L66_2n1 k) x y s p z m
def L66_2n1 : Nat → (Int) → (Int) → (Int) → (Bool) → (Nat → F) → (Int) → Option (Int)
  | 0, _, _, _, _, _, _ => none
  | k + 1, x, y, s, p, z, m => T66_2n1 some (L66_2n0 k) (L66_2n1 k) x y s p z m
end
def T66 {ρ : Type} (ret : (Int) → Option ρ) (c2n0 : (Int) → (Int) → (Int) → (Bool) → (Nat → F) → (Int) → Option ρ) (c2n1 : (Int) → (Int) → (Int) → (Bool) → (Nat → F) → (Int) → Option ρ) (x : Int) (y : Int) (s : Int) (p : Bool) (z : Nat → F) (m : Int) : Option ρ :=
  (c2n0 (x) (y) (s) (p) (z) (m))
def G66 (k : Nat) (x : Int) (y : Int) (s : Int) (p : Bool) (z : Nat → F) (m : Int) : Option (Int) := T66 some (L66_2n0 k) (L66_2n1 k) x y s p z m
mutual
theorem t66_2n0 : ∀ (k : Nat) (x : Int) (y : Int) (s : Int) (p : Bool) (z : Nat → F) (m : Int) (r : Int), L66_2n0 k x y s p z m = some r → Ends Try.prog Try.f66.results.toList (at_ Try.f66 2) (S66_2n0 x y s p z m) (F.int .i64 r)
  | 0, _, _, _, _, _, _, _, h => nomatch h
  | k + 1, x, y, s, p, z, m, r, h => by
    refine Ends.of_cut tyOK envY1_ok (T := [(2, [0, 1, 5], 1000)]) (n := 200) ?_
    have e : runCut Try.prog (tiOf Try.prog) envY1 [(2, [0, 1, 5], 1000)] 0 Try.f66.results.toList some 200 (at_ Try.f66 2) (S66_2n0 x y s p z m) = T66_2n0 (fun r => some (.ret (F.int .i64 r))) (fun x y s p z m => some (.cut (at_ Try.f66 2) (S66_2n0 x y s p z m))) (fun x y s p z m => some (.cut (at_ Try.f66 2) (S66_2n1 x y s p z m))) x y s p z m := by kernel_rfl
    rw [e]
    exact (good_sel h (fun _ h => good_ret (by cases h; rfl)) (fun _ h => (good_sel h (fun _ h => good_ret (by cases h; rfl)) (fun _ h => (good_sel h (fun _ h => good_ret (by cases h; rfl)) (fun _ h => (good_sel h (fun _ h => good_ret (by cases h; rfl)) (fun _ h => (good_sel h (fun _ h => good_ret (by cases h; rfl)) (fun _ h => good_cut (t66_2n1 k _ _ _ _ _ _ r h)))))))))))
theorem t66_2n1 : ∀ (k : Nat) (x : Int) (y : Int) (s : Int) (p : Bool) (z : Nat → F) (m : Int) (r : Int), L66_2n1 k x y s p z m = some r → Ends Try.prog Try.f66.results.toList (at_ Try.f66 2) (S66_2n1 x y s p z m) (F.int .i64 r)
  | 0, _, _, _, _, _, _, _, h => nomatch h
  | k + 1, x, y, s, p, z, m, r, h => by
    refine Ends.of_cut tyOK envY1_ok (T := [(2, [0, 1, 5], 1000)]) (n := 200) ?_
    have e : runCut Try.prog (tiOf Try.prog) envY1 [(2, [0, 1, 5], 1000)] 0 Try.f66.results.toList some 200 (at_ Try.f66 2) (S66_2n1 x y s p z m) = T66_2n1 (fun r => some (.ret (F.int .i64 r))) (fun x y s p z m => some (.cut (at_ Try.f66 2) (S66_2n0 x y s p z m))) (fun x y s p z m => some (.cut (at_ Try.f66 2) (S66_2n1 x y s p z m))) x y s p z m := by kernel_rfl
    rw [e]
    exact good_ret (by cases h; rfl)
end
theorem t66 (k : Nat) (x : Int) (y : Int) (s : Int) (p : Bool) (z : Nat → F) (m : Int) (r : Int) (h : G66 k x y s p z m = some r) : Ends Try.prog Try.f66.results.toList [.code (bodyOf Try.f66)] (start Try.f66.ntmps ([F.sl 1 (fun _ => F.agg [F.int .i64 x, F.int .i64 y, F.int .i64 s, F.bool p, F.sl 0 z]), F.int .i64 m].map .f)) (F.int .i64 r) := by
  refine Ends.of_run tyOK envY1_ok (T := [(2, [0, 1, 5], 1000)]) (n := 200) ?_
  have e : run Try.prog (tiOf Try.prog) envY1 [(2, [0, 1, 5], 1000)] 0 Try.f66.results.toList some 200 [.code (bodyOf Try.f66)] (start Try.f66.ntmps ([F.sl 1 (fun _ => F.agg [F.int .i64 x, F.int .i64 y, F.int .i64 s, F.bool p, F.sl 0 z]), F.int .i64 m].map .f)) = T66 (fun r => some (.ret (F.int .i64 r))) (fun x y s p z m => some (.cut (at_ Try.f66 2) (S66_2n0 x y s p z m))) (fun x y s p z m => some (.cut (at_ Try.f66 2) (S66_2n1 x y s p z m))) x y s p z m := by kernel_rfl
  rw [e]
  exact good_cut (t66_2n0 k _ _ _ _ _ _ r h)
/-! ### function 66 -/
def S66z_2 (m : Int) : St := ⟨[(U.f (F.sl 0 (fun _ => F.dflt))), (U.f (F.int .i64 m)), .bad, .bad, .bad, (U.f (F.int .i64 0)), .bad, .bad, .bad, .bad, .bad, .bad, .bad, .bad, .bad, .bad, .bad, .bad, .bad, .bad, .bad, .bad, .bad, .bad, .bad, .bad, .bad, .bad, .bad, .bad, .bad, .bad, .bad, .bad, .bad, .bad, .bad, .bad, .bad, .bad, .bad, .bad, .bad, .bad, .bad, .bad, .bad, .bad, .bad, .bad, .bad, .bad, .bad, .bad, .bad, .bad, .bad, .bad, .bad, .bad], []⟩
def T66z_2 {ρ : Type} (ret : (Int) → Option ρ) (c2 : (Int) → Option ρ) (m : Int) : Option ρ :=
  (ret (m))
def L66z_2 : Nat → (Int) → Option (Int)
  | 0, _ => none
  | k + 1, m => T66z_2 some (L66z_2 k) m
def T66z {ρ : Type} (ret : (Int) → Option ρ) (c2 : (Int) → Option ρ) (m : Int) : Option ρ :=
  (c2 (m))
def G66z (k : Nat) (m : Int) : Option (Int) := T66z some (L66z_2 k) m
theorem t66z_2 : ∀ (k : Nat) (m : Int) (r : Int), L66z_2 k m = some r → Ends Try.prog Try.f66.results.toList (at_ Try.f66 2) (S66z_2 m) (F.int .i64 r)
  | 0, _, _, h => nomatch h
  | k + 1, m, r, h => by
    refine Ends.of_cut tyOK envY1_ok (T := [(2, [0, 1, 5], 1000)]) (n := 200) ?_
    have e : runCut Try.prog (tiOf Try.prog) envY1 [(2, [0, 1, 5], 1000)] 0 Try.f66.results.toList some 200 (at_ Try.f66 2) (S66z_2 m) = T66z_2 (fun r => some (.ret (F.int .i64 r))) (fun m => some (.cut (at_ Try.f66 2) (S66z_2 m))) m := by kernel_rfl
    rw [e]
    exact good_ret (by cases h; rfl)
theorem t66z (k : Nat) (m : Int) (r : Int) (h : G66z k m = some r) : Ends Try.prog Try.f66.results.toList [.code (bodyOf Try.f66)] (start Try.f66.ntmps ([F.sl 0 (fun _ => F.dflt), F.int .i64 m].map .f)) (F.int .i64 r) := by
  refine Ends.of_run tyOK envY1_ok (T := [(2, [0, 1, 5], 1000)]) (n := 200) ?_
  have e : run Try.prog (tiOf Try.prog) envY1 [(2, [0, 1, 5], 1000)] 0 Try.f66.results.toList some 200 [.code (bodyOf Try.f66)] (start Try.f66.ntmps ([F.sl 0 (fun _ => F.dflt), F.int .i64 m].map .f)) = T66z (fun r => some (.ret (F.int .i64 r))) (fun m => some (.cut (at_ Try.f66 2) (S66z_2 m))) m := by kernel_rfl
  rw [e]
  exact good_cut (t66z_2 k _ r h)
/-! ### function 25 -/
def T25 {ρ : Type} (ret : (F) → Option ρ) (a : Int) (b : Int) : Option ρ :=
  (bsel ((!inV a 1 8) == false)
   (bsel (!inV b 0 8)
    (ret (F.tup [F.agg [F.int IntKind.i64 0, F.int IntKind.i64 0, F.tup [], F.tup []], F.bool false]))
    (ret (F.tup [F.agg [F.int IntKind.i64 a, F.int IntKind.i64 b, F.tup [], F.tup [F.int IntKind.i64 ((5 : Nat) : Int), F.sl 1 (lget [bkF (rootV (unQd (F.agg [F.int IntKind.i64 a, F.int IntKind.i64 b, F.sl 0 fun x ↦ F.bool false, F.sl 0 fun x ↦ F.bool false])))])]], F.bool true])))
   (ret (F.tup [F.agg [F.int IntKind.i64 0, F.int IntKind.i64 0, F.tup [], F.tup []], F.bool false])))
def G25 (a : Int) (b : Int) : Option (F) := T25 some a b
theorem t25 (a : Int) (b : Int) (r : F) (h : G25 a b = some r) : Ends Try.prog (ResultVar.tmp 1000000 :: Go.Proofs.Try.f25.results.toList) [.code (bodyOf Try.f25)] (start Try.f25.ntmps ([F.int .i64 a, F.int .i64 b].map .f)) (r) := by
  refine Ends.of_run tyOK envY1_ok (T := []) (n := 200) ?_
  have e : run Try.prog (tiOf Try.prog) envY1 [] 0 (ResultVar.tmp 1000000 :: Go.Proofs.Try.f25.results.toList) some 200 [.code (bodyOf Try.f25)] (start Try.f25.ntmps ([F.int .i64 a, F.int .i64 b].map .f)) = T25 (fun r => some (.ret (r))) a b := by kernel_rfl
  rw [e]
  exact (good_sel h (fun _ h => (good_sel h (fun _ h => good_ret (by cases h; rfl)) (fun _ h => good_ret (by cases h; rfl)))) (fun _ h => good_ret (by cases h; rfl)))
/-! ### function 24 -/
def T24 {ρ : Type} (ret : (F) → Option ρ) (a : Int) (b : Int) : Option ρ :=
  (bsel (!limitsV a b)
   (ret (F.tup [F.agg [F.int IntKind.i64 0, F.int IntKind.i64 0, F.sl 0 fun x ↦ F.bool false, F.sl 0 fun x ↦ F.bool false], F.bool false]))
   (ret (F.tup [F.agg [F.int IntKind.i64 a, F.int IntKind.i64 b, F.sl 0 fun x ↦ F.bool false, F.sl 1 (lget [F.agg [F.int IntKind.i64 (-1048576), F.int IntKind.i64 (-1048576), F.int IntKind.i64 2097152, F.bool false, F.sl 0 fun x ↦ F.bool false]])], F.bool true])))
def G24 (a : Int) (b : Int) : Option (F) := T24 some a b
theorem t24 (a : Int) (b : Int) (r : F) (h : G24 a b = some r) : Ends Try.prog Try.f24.results.toList [.code (bodyOf Try.f24)] (start Try.f24.ntmps ([F.int .i64 a, F.int .i64 b].map .f)) (r) := by
  refine Ends.of_run tyOK envY1_ok (T := []) (n := 200) ?_
  have e : run Try.prog (tiOf Try.prog) envY1 [] 0 Try.f24.results.toList some 200 [.code (bodyOf Try.f24)] (start Try.f24.ntmps ([F.int .i64 a, F.int .i64 b].map .f)) = T24 (fun r => some (.ret (r))) a b := by kernel_rfl
  rw [e]
  exact (good_sel h (fun _ h => good_ret (by cases h; rfl)) (fun _ h => good_ret (by cases h; rfl)))
/-- A block without numbers. -/
def isBk0 : F → Bool
  | .agg [.int .i64 _, .int .i64 _, .int .i64 _, .bool _, .sl n _] => Nat.beq n 0
  | _ => false
def w1I (m : Int) : Int := IntKind.i64.wrap (m + 1)
def w4 (m : Int) : Int := w1I (w1I (w1I (w1I m)))
def markBk (m : Int) : F → F
  | .agg [_, _, _, _, .sl _ z] => .agg [.int .i64 m, .int .i64 (w1I m), .int .i64 (w1I (w1I m)), .bool ((w1I (w1I (w1I m))).tmod 3 == 0), .sl 0 z]
  | x => x
def preMarkBk (n : Nat) (g : Nat → F) : List F → Bool | [.int .i64 _] => Nat.beq n 0 || (Nat.beq n 1 && isBk0 (g 0)) | _ => false
def resMarkBk (n : Nat) (g : Nat → F) : List F → F × (Nat → F)
  | [.int .i64 m] => match n with
    | 0 => (.int .i64 m, g)
    | _ => (.int .i64 (w4 m), fun _ => markBk m (g 0))
  | _ => (.dflt, g)
theorem bk0_form {x : F} (h : isBk0 x = true) : ∃ a b c p z, x = .agg [.int .i64 a, .int .i64 b, .int .i64 c, .bool p, .sl 0 z] := by
  unfold isBk0 at h
  split at h
  · rename_i a b c p n z
    have : n = 0 := Nat.eq_of_beq_eq_true h
    subst this
    exact ⟨a, b, c, p, z, rfl⟩
  · cases h
theorem okMarkBk : SpOK Try.prog 64 (.arrw 5 preMarkBk resMarkBk) :=
  fn_arrw (c := bodyOf Try.f64) Try.func64 (by kernel_rfl) (by kernel_rfl) (fun n g xs hp => match xs, hp with
    | [.int .i64 m], hp => by
      simp only [preMarkBk, Bool.or_eq_true, Bool.and_eq_true] at hp
      rcases hp with hp | ⟨hp, hb⟩
      · have : n = 0 := Nat.eq_of_beq_eq_true hp
        subst this
        exact ⟨rfl, g, t64e 2 g m _ _ rfl, fun j hj => by omega⟩
      · have : n = 1 := Nat.eq_of_beq_eq_true hp
        subst this
        obtain ⟨a, b, c, p, z, hg⟩ := bk0_form hb
        refine ⟨rfl, _, Ends.weak (st' := startN Try.f64.ntmps [U.hs 0 1 0 1, U.f (F.int .i64 m)] [HO.arr 5 1 (fun _ => F.agg [F.int .i64 a, F.int .i64 b, F.int .i64 c, F.bool p, F.sl 0 z])]) (UsLe.refl _) (HLe.cons (ObLe.arr fun j hj => by
            have : j = 0 := by omega
            rw [this, hg]) HLe.nil) (t64 3 a b c p z m _ _ rfl), fun j hj => ?_⟩
        have : j = 0 := by omega
        subst this
        have e : (resMarkBk 1 g [F.int .i64 m]).2 0 = markBk m (g 0) := rfl
        rw [e, hg]
        rfl)
    (fn_pure_at (c := bodyOf Try.f64) Try.func64 (by kernel_rfl) (by kernel_rfl) fun xs hp => match xs, hp with
    | [.sl 0 _, .int .i64 m], hp => ⟨[.sl 0 fun _ => F.dflt, .int .i64 m], _, ⟨FLe.sl fun j hj => by omega, .refl _, trivial⟩, t64z 2 m _ rfl, .refl _⟩)
def heldBk (m : Int) : F → Int
  | .agg [.int _ x, .int _ y, .int _ s, .bool p, _] => bif x != m then -1 else bif y != w1I m then -1 else bif s != w1I (w1I m) then -1 else bif (!p == ((w1I (w1I (w1I m))).tmod 3 == 0)) then -1 else bif decide (w4 m < 0) then -1 else w4 m
  | _ => -1
def preHeldBk : List F → Bool | [.sl n g, .int .i64 _] => Nat.beq n 0 || (Nat.beq n 1 && isBk0 (g 0)) | _ => false
def heldNV : Nat → F → Int → Int
  | 0, _, m => m
  | _ + 1, x, m => heldBk m x
def resHeldBk : List F → F
  | [.sl n g, .int .i64 m] => .int .i64 (heldNV n (g 0) m)
  | _ => .dflt
theorem heldBk_law (a b c : Int) (p : Bool) (z : Nat → F) (m : Int) : G66 3 a b c p z m = some (heldBk m (F.agg [F.int .i64 a, F.int .i64 b, F.int .i64 c, F.bool p, F.sl 0 z])) := by
  unfold G66 T66
  simp only [L66_2n0, T66_2n0, L66_2n1, T66_2n1, heldBk, w4, w1I]
  cases (a != m) with
  | true => rfl
  | false => cases (b != IntKind.i64.wrap (m + 1)) with
    | true => rfl
    | false => cases (c != IntKind.i64.wrap (IntKind.i64.wrap (m + 1) + 1)) with
      | true => rfl
      | false => cases (!p == ((IntKind.i64.wrap (IntKind.i64.wrap (IntKind.i64.wrap (m + 1) + 1) + 1)).tmod 3 == 0)) with
        | true => rfl
        | false =>
          simp only [bsel_false, cond_false]
          by_cases h : IntKind.i64.wrap (IntKind.i64.wrap (IntKind.i64.wrap (IntKind.i64.wrap (m + 1) + 1) + 1) + 1) < 0
          · simp only [h, decide_true, bsel_true, cond_true]
          · simp only [h, decide_false, bsel_false, cond_false]
theorem okHeldBk : PureOK Try.prog 66 preHeldBk resHeldBk :=
  fn_pure_at (c := bodyOf Try.f66) Try.func66 (by kernel_rfl) (by kernel_rfl) fun xs hp => match xs, hp with
  | [.sl n g, .int .i64 m], hp => by
    simp only [preHeldBk, Bool.or_eq_true, Bool.and_eq_true] at hp
    rcases hp with hp | ⟨hp, hb⟩
    · have : n = 0 := Nat.eq_of_beq_eq_true hp
      subst this
      exact ⟨[.sl 0 fun _ => F.dflt, .int .i64 m], _, ⟨FLe.sl fun j hj => by omega, .refl _, trivial⟩, t66z 2 m _ rfl, .refl _⟩
    · have : n = 1 := Nat.eq_of_beq_eq_true hp
      subst this
      obtain ⟨a, b, c, p, z, hg⟩ := bk0_form hb
      refine ⟨[.sl 1 (fun _ => F.agg [F.int .i64 a, F.int .i64 b, F.int .i64 c, F.bool p, F.sl 0 z]), .int .i64 m], _, ⟨FLe.sl fun j hj => by
        have : j = 0 := by omega
        rw [this, hg], .refl _, trivial⟩, t66 3 a b c p z m _ (heldBk_law a b c p z m), ?_⟩
      have e : resHeldBk [.sl 1 g, .int .i64 m] = .int .i64 (heldBk m (g 0)) := rfl
      rw [e, hg]
      exact .refl _
def bkE : F := .agg [.int .i64 (-1048576), .int .i64 (-1048576), .int .i64 2097152, .bool false, .sl 0 fun i => i64F (([] : List Int).getD i 0)]
def newC : List F → Bool | [.int .i64 a, .int .i64 b] => limitsV a b | _ => false
def ownNew1 : List F → F | [.int .i64 a, .int .i64 b] => .tup [.agg [.int .i64 a, .int .i64 b, .tup [], .tup [.int .i64 5, .sl 1 fun _ => bkE]], .bool true] | _ => .dflt
def ownNew2 : List F → F := fun _ => .tup [.agg [.int .i64 0, .int .i64 0, .tup [], .tup []], .bool false]
theorem okNewO : SpOK Try.prog 25 (.own pre2i newC ownNew1 ownNew2) :=
  fn_own (c := bodyOf Try.f25) Try.func25 (by kernel_rfl) (by kernel_rfl) fun xs hp => match xs, hp with
  | [.int .i64 a, .int .i64 b], hp => by
    have hc : newC [.int .i64 a, .int .i64 b] = limitsV a b := rfl
    have h1 : ownNew1 [.int .i64 a, .int .i64 b] = .tup [.agg [.int .i64 a, .int .i64 b, .tup [], .tup [.int .i64 5, .sl 1 fun _ => bkE]], .bool true] := rfl
    rw [hc, h1]
    have hg : ∀ r, G25 a b = some r → Ends Try.prog (.tmp 1000000 :: Try.f25.results.toList) [.code (bodyOf Try.f25)] (start Try.f25.ntmps ([F.int .i64 a, F.int .i64 b].map .f)) r := fun r h => t25 a b r h
    unfold G25 T25 at hg
    unfold limitsV
    have fail : OwnsLe [F.int IntKind.i64 0, F.int IntKind.i64 0, F.tup [], F.tup []] [F.int IntKind.i64 0, F.int IntKind.i64 0, F.tup [], F.tup []] := ⟨.dat _ rfl, .dat _ rfl, .nil, .nil, trivial⟩
    cases ha : inV a 1 8 with
    | false =>
      rw [ha] at hg
      exact ⟨[.int .i64 a, .int .i64 b], _, [.agg [.int .i64 0, .int .i64 0, .tup [], .tup []], .bool false], ⟨.refl _, .refl _, trivial⟩, hg _ rfl, ⟨.agg fail, .of (.dat _ rfl), trivial⟩, rfl⟩
    | true => cases hb : inV b 0 8 with
      | false =>
        rw [ha, hb] at hg
        exact ⟨[.int .i64 a, .int .i64 b], _, [.agg [.int .i64 0, .int .i64 0, .tup [], .tup []], .bool false], ⟨.refl _, .refl _, trivial⟩, hg _ rfl, ⟨.agg fail, .of (.dat _ rfl), trivial⟩, rfl⟩
      | true =>
        rw [ha, hb] at hg
        exact ⟨[.int .i64 a, .int .i64 b], _, [.agg [.int .i64 a, .int .i64 b, .tup [], .tup [.int .i64 5, .sl 1 fun _ => bkE]], .bool true], ⟨.refl _, .refl _, trivial⟩, hg _ rfl,
          ⟨.agg ⟨.dat _ rfl, .dat _ rfl, .nil, .obj _ _ _ _ _ (fun j hj => by
            have : j = 0 := by omega
            subst this
            rfl), trivial⟩, .of (.dat _ rfl), trivial⟩, rfl⟩
def newV (a b : Int) : Qd := bif limitsV a b then ⟨a, b, [], [⟨-1048576, -1048576, 2097152, false, []⟩]⟩ else ⟨0, 0, [], []⟩
def resNew : List F → F | [.int .i64 a, .int .i64 b] => .tup [qdF (newV a b), .bool (limitsV a b)] | _ => .dflt
theorem okNewS : PureOK Try.prog 24 pre2i resNew :=
  fn_pure_at (c := bodyOf Try.f24) Try.func24 (by kernel_rfl) (by kernel_rfl) fun xs hp => match xs, hp with
  | [.int .i64 a, .int .i64 b], hp => by
    have h1 : resNew [.int .i64 a, .int .i64 b] = .tup [qdF (newV a b), .bool (limitsV a b)] := rfl
    rw [h1]
    have hg : ∀ r, G24 a b = some r → Ends Try.prog Try.f24.results.toList [.code (bodyOf Try.f24)] (start Try.f24.ntmps ([F.int .i64 a, F.int .i64 b].map .f)) r := fun r h => t24 a b r h
    unfold G24 T24 at hg
    unfold newV
    cases hl : limitsV a b with
    | false =>
      rw [hl] at hg
      exact ⟨[.int .i64 a, .int .i64 b], _, ⟨.refl _, .refl _, trivial⟩, hg _ rfl, FLe.tup ⟨FLe.agg ⟨.refl _, .refl _, FLe.sl fun j hj => by omega, FLe.sl fun j hj => by omega, trivial⟩, .refl _, trivial⟩⟩
    | true =>
      rw [hl] at hg
      refine ⟨[.int .i64 a, .int .i64 b], _, ⟨.refl _, .refl _, trivial⟩, hg _ rfl, FLe.tup ⟨FLe.agg ⟨.refl _, .refl _, FLe.sl fun j hj => by omega, FLe.slEl fun j hj => ?_, trivial⟩, .refl _, trivial⟩⟩
      have : j = 0 := by omega
      subst this
      exact ElLe.agg ⟨.refl _, .refl _, .refl _, .refl _, FLe.sl fun j hj => by omega, trivial⟩ fun _ u hu => by
        simp only [List.mem_cons, List.not_mem_nil, or_false] at hu
        rcases hu with rfl | rfl | rfl | rfl | rfl <;> rfl
def envY2 : Env := (((envY1.add 64 (.arrw 5 preMarkBk resMarkBk)).add 66 (.pure preHeldBk resHeldBk)).add 25 (.own pre2i newC ownNew1 ownNew2)).add 24 (.pure pre2i resNew)
theorem envY2_ok : EnvOK Try.prog envY2 := Env.add_ok (Env.add_ok (Env.add_ok (Env.add_ok envY1_ok okMarkBk) okHeldBk.sp) okNewO) okNewS.sp
end
end Go.Proofs.Ytjbilidfnfnpfaa.R
