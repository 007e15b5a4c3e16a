/-
  The walk of spots and turns: right segments, boxes, and which segments meet a box.
-/
import Derived.Test.YtjbilidfnfnpfaaW2
import Derived.Test.YtjbilidfnfnpfaaD1
namespace Go.Proofs.Ytjbilidfnfnpfaa.R
open Go
set_option linter.unusedVariables false
set_option linter.unusedSimpArgs false
set_option maxRecDepth 100000
/-! ### function 95 -/
def T95 {ρ : Type} (ret : (Bool) → Option ρ) (x0 : Int) (y0 : Int) (x1 : Int) (y1 : Int) : Option ρ :=
  (bsel (spotOkV x0 y0 == true)
   (bsel (spotOkV x1 y1 == true)
    (ret (lessV x0 y0 x1 y1))
    (ret (false)))
   (ret (false)))
def G95 (x0 : Int) (y0 : Int) (x1 : Int) (y1 : Int) : Option (Bool) := T95 some x0 y0 x1 y1
theorem t95 (x0 : Int) (y0 : Int) (x1 : Int) (y1 : Int) (r : Bool) (h : G95 x0 y0 x1 y1 = some r) : Ends Try.prog Try.f95.results.toList [.code (bodyOf Try.f95)] (start Try.f95.ntmps ([F.agg [F.int .i64 x0, F.int .i64 y0, F.int .i64 x1, F.int .i64 y1]].map .f)) (F.bool r) := by
  refine Ends.of_run tyOK envW2_ok (T := []) (n := 200) ?_
  have e : run Try.prog (tiOf Try.prog) envW2 [] 0 Try.f95.results.toList some 200 [.code (bodyOf Try.f95)] (start Try.f95.ntmps ([F.agg [F.int .i64 x0, F.int .i64 y0, F.int .i64 x1, F.int .i64 y1]].map .f)) = T95 (fun r => some (.ret (F.bool r))) x0 y0 x1 y1 := by kernel_rfl
  rw [e]
  exact (good_sel h (fun _ h => (good_sel h (fun _ h => good_ret (by cases h; rfl)) (fun _ h => good_ret (by cases h; rfl)))) (fun _ h => good_ret (by cases h; rfl)))
/-! ### function 70 -/
def T70 {ρ : Type} (ret : (Bool) → Option ρ) (x0 : Int) (y0 : Int) (x1 : Int) (y1 : Int) : Option ρ :=
  (bsel (spotOkV x0 y0 == true)
   (bsel (spotOkV x1 y1 == true)
    (ret (decide (cmpV x0 y0 x1 y1 < 0)))
    (ret (false)))
   (ret (false)))
def G70 (x0 : Int) (y0 : Int) (x1 : Int) (y1 : Int) : Option (Bool) := T70 some x0 y0 x1 y1
theorem t70 (x0 : Int) (y0 : Int) (x1 : Int) (y1 : Int) (r : Bool) (h : G70 x0 y0 x1 y1 = some r) : Ends Try.prog Try.f70.results.toList [.code (bodyOf Try.f70)] (start Try.f70.ntmps ([F.agg [F.int .i64 x0, F.int .i64 y0, F.int .i64 x1, F.int .i64 y1]].map .f)) (F.bool r) := by
  refine Ends.of_run tyOK envW2_ok (T := []) (n := 200) ?_
  have e : run Try.prog (tiOf Try.prog) envW2 [] 0 Try.f70.results.toList some 200 [.code (bodyOf Try.f70)] (start Try.f70.ntmps ([F.agg [F.int .i64 x0, F.int .i64 y0, F.int .i64 x1, F.int .i64 y1]].map .f)) = T70 (fun r => some (.ret (F.bool r))) x0 y0 x1 y1 := by kernel_rfl
  rw [e]
  exact (good_sel h (fun _ h => (good_sel h (fun _ h => good_ret (by cases h; rfl)) (fun _ h => good_ret (by cases h; rfl)))) (fun _ h => good_ret (by cases h; rfl)))
/-! ### function 52 -/
def T52 {ρ : Type} (ret : (Bool) → Option ρ) (x0 : Int) (y0 : Int) (x1 : Int) (y1 : Int) : Option ρ :=
  (bsel (spotOkV x0 y0 == true)
   (bsel (spotOkV x1 y1 == true)
    (bsel (decide (x0 ≤ x1) == true)
     (ret (decide (y0 ≤ y1)))
     (ret (false)))
    (ret (false)))
   (ret (false)))
def G52 (x0 : Int) (y0 : Int) (x1 : Int) (y1 : Int) : Option (Bool) := T52 some x0 y0 x1 y1
theorem t52 (x0 : Int) (y0 : Int) (x1 : Int) (y1 : Int) (r : Bool) (h : G52 x0 y0 x1 y1 = some r) : Ends Try.prog Try.f52.results.toList [.code (bodyOf Try.f52)] (start Try.f52.ntmps ([F.agg [F.int .i64 x0, F.int .i64 y0], F.agg [F.int .i64 x1, F.int .i64 y1]].map .f)) (F.bool r) := by
  refine Ends.of_run tyOK envW2_ok (T := []) (n := 200) ?_
  have e : run Try.prog (tiOf Try.prog) envW2 [] 0 Try.f52.results.toList some 200 [.code (bodyOf Try.f52)] (start Try.f52.ntmps ([F.agg [F.int .i64 x0, F.int .i64 y0], F.agg [F.int .i64 x1, F.int .i64 y1]].map .f)) = T52 (fun r => some (.ret (F.bool r))) x0 y0 x1 y1 := by kernel_rfl
  rw [e]
  exact (good_sel h (fun _ h => (good_sel h (fun _ h => (good_sel h (fun _ h => good_ret (by cases h; rfl)) (fun _ h => good_ret (by cases h; rfl)))) (fun _ h => good_ret (by cases h; rfl)))) (fun _ h => good_ret (by cases h; rfl)))
/-! ### function 55 -/
def T55 {ρ : Type} (ret : (Bool) → Option ρ) (x0 : Int) (y0 : Int) (x1 : Int) (y1 : Int) : Option ρ :=
  (bsel (spotOkV x0 y0 == true)
   (bsel (spotOkV x1 y1 == true)
    (bsel (decide (x0 ≤ x1) == true)
     (ret (decide (y0 ≤ y1)))
     (ret (false)))
    (ret (false)))
   (ret (false)))
def G55 (x0 : Int) (y0 : Int) (x1 : Int) (y1 : Int) : Option (Bool) := T55 some x0 y0 x1 y1
theorem t55 (x0 : Int) (y0 : Int) (x1 : Int) (y1 : Int) (r : Bool) (h : G55 x0 y0 x1 y1 = some r) : Ends Try.prog Try.f55.results.toList [.code (bodyOf Try.f55)] (start Try.f55.ntmps ([F.agg [F.int .i64 x0, F.int .i64 y0], F.agg [F.int .i64 x1, F.int .i64 y1]].map .f)) (F.bool r) := by
  refine Ends.of_run tyOK envW2_ok (T := []) (n := 200) ?_
  have e : run Try.prog (tiOf Try.prog) envW2 [] 0 Try.f55.results.toList some 200 [.code (bodyOf Try.f55)] (start Try.f55.ntmps ([F.agg [F.int .i64 x0, F.int .i64 y0], F.agg [F.int .i64 x1, F.int .i64 y1]].map .f)) = T55 (fun r => some (.ret (F.bool r))) x0 y0 x1 y1 := by kernel_rfl
  rw [e]
  exact (good_sel h (fun _ h => (good_sel h (fun _ h => (good_sel h (fun _ h => good_ret (by cases h; rfl)) (fun _ h => good_ret (by cases h; rfl)))) (fun _ h => good_ret (by cases h; rfl)))) (fun _ h => good_ret (by cases h; rfl)))
/-! ### function 53 -/
def S53_6n0 (x0 : Int) (y0 : Int) (x1 : Int) (y1 : Int) (lx : Int) (ly : Int) (hx : Int) (hy : Int) (x7 : Int) (x8 : Int) : St := ⟨[.bad, .bad, .bad, (U.hp 0 0), .bad, .bad, .bad, (U.f (F.int .i64 x7)), (U.f (F.int .i64 x8)), .bad, .bad, .bad, .bad, .bad, .bad, .bad, .bad, .bad, .bad, .bad, .bad, .bad, .bad, .bad, .bad, .bad, .bad, .bad, .bad, .bad, .bad, .bad, .bad, .bad, .bad, .bad, .bad, .bad, .bad, .bad, .bad, .bad, .bad, .bad, .bad, .bad, .bad, .bad, .bad, .bad, .bad, .bad, .bad, .bad, .bad, .bad, .bad, .bad, .bad, .bad, .bad, .bad, .bad, .bad, .bad, .bad, .bad, .bad, .bad, (U.hs 3 4 0 4), (U.f (F.int .i64 4)), (U.f (F.int .i64 0)), .bad, .bad, .bad, .bad, .bad, .bad, .bad, .bad, .bad, .bad, .bad, .bad, .bad, .bad, .bad, .bad, .bad, .bad, .bad, .bad, .bad, .bad, .bad, .bad], [HO.box [U.f (F.int .i64 x0), U.f (F.int .i64 y0), U.f (F.int .i64 x1), U.f (F.int .i64 y1)], HO.box [U.f (F.int .i64 lx), U.f (F.int .i64 ly)], HO.box [U.f (F.int .i64 hx), U.f (F.int .i64 hy)], HO.arr 2 4 (lget [F.agg [F.int .i64 lx, F.int .i64 ly], F.agg [F.int .i64 hx, F.int .i64 hy], F.agg [F.int .i64 lx, F.int .i64 hy], F.agg [F.int .i64 hx, F.int .i64 ly]])]⟩
def S53_6n1 (x0 : Int) (y0 : Int) (x1 : Int) (y1 : Int) (lx : Int) (ly : Int) (hx : Int) (hy : Int) (x7 : Int) (x8 : Int) : St := ⟨[.bad, .bad, .bad, (U.hp 0 0), .bad, .bad, .bad, (U.f (F.int .i64 x7)), (U.f (F.int .i64 x8)), .bad, .bad, .bad, .bad, .bad, .bad, .bad, .bad, .bad, .bad, .bad, .bad, .bad, .bad, .bad, .bad, .bad, .bad, .bad, .bad, .bad, .bad, .bad, .bad, .bad, .bad, .bad, .bad, .bad, .bad, .bad, .bad, .bad, .bad, .bad, .bad, .bad, .bad, .bad, .bad, .bad, .bad, .bad, .bad, .bad, .bad, .bad, .bad, .bad, .bad, .bad, .bad, .bad, .bad, .bad, .bad, .bad, .bad, .bad, .bad, (U.hs 3 4 0 4), (U.f (F.int .i64 4)), (U.f (F.int .i64 1)), .bad, .bad, .bad, .bad, .bad, .bad, .bad, .bad, .bad, .bad, .bad, .bad, .bad, .bad, .bad, .bad, .bad, .bad, .bad, .bad, .bad, .bad, .bad, .bad], [HO.box [U.f (F.int .i64 x0), U.f (F.int .i64 y0), U.f (F.int .i64 x1), U.f (F.int .i64 y1)], HO.box [U.f (F.int .i64 lx), U.f (F.int .i64 ly)], HO.box [U.f (F.int .i64 hx), U.f (F.int .i64 hy)], HO.arr 2 4 (lget [F.agg [F.int .i64 lx, F.int .i64 ly], F.agg [F.int .i64 hx, F.int .i64 hy], F.agg [F.int .i64 lx, F.int .i64 hy], F.agg [F.int .i64 hx, F.int .i64 ly]])]⟩
def S53_6n2 (x0 : Int) (y0 : Int) (x1 : Int) (y1 : Int) (lx : Int) (ly : Int) (hx : Int) (hy : Int) (x7 : Int) (x8 : Int) : St := ⟨[.bad, .bad, .bad, (U.hp 0 0), .bad, .bad, .bad, (U.f (F.int .i64 x7)), (U.f (F.int .i64 x8)), .bad, .bad, .bad, .bad, .bad, .bad, .bad, .bad, .bad, .bad, .bad, .bad, .bad, .bad, .bad, .bad, .bad, .bad, .bad, .bad, .bad, .bad, .bad, .bad, .bad, .bad, .bad, .bad, .bad, .bad, .bad, .bad, .bad, .bad, .bad, .bad, .bad, .bad, .bad, .bad, .bad, .bad, .bad, .bad, .bad, .bad, .bad, .bad, .bad, .bad, .bad, .bad, .bad, .bad, .bad, .bad, .bad, .bad, .bad, .bad, (U.hs 3 4 0 4), (U.f (F.int .i64 4)), (U.f (F.int .i64 2)), .bad, .bad, .bad, .bad, .bad, .bad, .bad, .bad, .bad, .bad, .bad, .bad, .bad, .bad, .bad, .bad, .bad, .bad, .bad, .bad, .bad, .bad, .bad, .bad], [HO.box [U.f (F.int .i64 x0), U.f (F.int .i64 y0), U.f (F.int .i64 x1), U.f (F.int .i64 y1)], HO.box [U.f (F.int .i64 lx), U.f (F.int .i64 ly)], HO.box [U.f (F.int .i64 hx), U.f (F.int .i64 hy)], HO.arr 2 4 (lget [F.agg [F.int .i64 lx, F.int .i64 ly], F.agg [F.int .i64 hx, F.int .i64 hy], F.agg [F.int .i64 lx, F.int .i64 hy], F.agg [F.int .i64 hx, F.int .i64 ly]])]⟩
def S53_6n3 (x0 : Int) (y0 : Int) (x1 : Int) (y1 : Int) (lx : Int) (ly : Int) (hx : Int) (hy : Int) (x7 : Int) (x8 : Int) : St := ⟨[.bad, .bad, .bad, (U.hp 0 0), .bad, .bad, .bad, (U.f (F.int .i64 x7)), (U.f (F.int .i64 x8)), .bad, .bad, .bad, .bad, .bad, .bad, .bad, .bad, .bad, .bad, .bad, .bad, .bad, .bad, .bad, .bad, .bad, .bad, .bad, .bad, .bad, .bad, .bad, .bad, .bad, .bad, .bad, .bad, .bad, .bad, .bad, .bad, .bad, .bad, .bad, .bad, .bad, .bad, .bad, .bad, .bad, .bad, .bad, .bad, .bad, .bad, .bad, .bad, .bad, .bad, .bad, .bad, .bad, .bad, .bad, .bad, .bad, .bad, .bad, .bad, (U.hs 3 4 0 4), (U.f (F.int .i64 4)), (U.f (F.int .i64 3)), .bad, .bad, .bad, .bad, .bad, .bad, .bad, .bad, .bad, .bad, .bad, .bad, .bad, .bad, .bad, .bad, .bad, .bad, .bad, .bad, .bad, .bad, .bad, .bad], [HO.box [U.f (F.int .i64 x0), U.f (F.int .i64 y0), U.f (F.int .i64 x1), U.f (F.int .i64 y1)], HO.box [U.f (F.int .i64 lx), U.f (F.int .i64 ly)], HO.box [U.f (F.int .i64 hx), U.f (F.int .i64 hy)], HO.arr 2 4 (lget [F.agg [F.int .i64 lx, F.int .i64 ly], F.agg [F.int .i64 hx, F.int .i64 hy], F.agg [F.int .i64 lx, F.int .i64 hy], F.agg [F.int .i64 hx, F.int .i64 ly]])]⟩
def S53_6n4 (x0 : Int) (y0 : Int) (x1 : Int) (y1 : Int) (lx : Int) (ly : Int) (hx : Int) (hy : Int) (x7 : Int) (x8 : Int) : St := ⟨[.bad, .bad, .bad, (U.hp 0 0), .bad, .bad, .bad, (U.f (F.int .i64 x7)), (U.f (F.int .i64 x8)), .bad, .bad, .bad, .bad, .bad, .bad, .bad, .bad, .bad, .bad, .bad, .bad, .bad, .bad, .bad, .bad, .bad, .bad, .bad, .bad, .bad, .bad, .bad, .bad, .bad, .bad, .bad, .bad, .bad, .bad, .bad, .bad, .bad, .bad, .bad, .bad, .bad, .bad, .bad, .bad, .bad, .bad, .bad, .bad, .bad, .bad, .bad, .bad, .bad, .bad, .bad, .bad, .bad, .bad, .bad, .bad, .bad, .bad, .bad, .bad, (U.hs 3 4 0 4), (U.f (F.int .i64 4)), (U.f (F.int .i64 4)), .bad, .bad, .bad, .bad, .bad, .bad, .bad, .bad, .bad, .bad, .bad, .bad, .bad, .bad, .bad, .bad, .bad, .bad, .bad, .bad, .bad, .bad, .bad, .bad], [HO.box [U.f (F.int .i64 x0), U.f (F.int .i64 y0), U.f (F.int .i64 x1), U.f (F.int .i64 y1)], HO.box [U.f (F.int .i64 lx), U.f (F.int .i64 ly)], HO.box [U.f (F.int .i64 hx), U.f (F.int .i64 hy)], HO.arr 2 4 (lget [F.agg [F.int .i64 lx, F.int .i64 ly], F.agg [F.int .i64 hx, F.int .i64 hy], F.agg [F.int .i64 lx, F.int .i64 hy], F.agg [F.int .i64 hx, F.int .i64 ly]])]⟩
def T53_6n0 {ρ : Type} (ret : (Bool) → Option ρ) (c6n0 : (Int) → (Int) → (Int) → (Int) → (Int) → (Int) → (Int) → (Int) → (Int) → (Int) → Option ρ) (c6n1 : (Int) → (Int) → (Int) → (Int) → (Int) → (Int) → (Int) → (Int) → (Int) → (Int) → Option ρ) (c6n2 : (Int) → (Int) → (Int) → (Int) → (Int) → (Int) → (Int) → (Int) → (Int) → (Int) → Option ρ) (c6n3 : (Int) → (Int) → (Int) → (Int) → (Int) → (Int) → (Int) → (Int) → (Int) → (Int) → Option ρ) (c6n4 : (Int) → (Int) → (Int) → (Int) → (Int) → (Int) → (Int) → (Int) → (Int) → (Int) → Option ρ) (x0 : Int) (y0 : Int) (x1 : Int) (y1 : Int) (lx : Int) (ly : Int) (hx : Int) (hy : Int) (x7 : Int) (x8 : Int) : Option ρ :=
  (bsel (turnV x0 y0 x1 y1 lx ly == 1)
   (c6n1 (x0) (y0) (x1) (y1) (lx) (ly) (hx) (hy) (IntKind.i64.wrap (x7 + 1)) (x8))
   (bsel (turnV x0 y0 x1 y1 lx ly == -1)
    (c6n1 (x0) (y0) (x1) (y1) (lx) (ly) (hx) (hy) (x7) (IntKind.i64.wrap (x8 + 1)))
    (c6n1 (x0) (y0) (x1) (y1) (lx) (ly) (hx) (hy) (x7) (x8))))
def T53_6n1 {ρ : Type} (ret : (Bool) → Option ρ) (c6n0 : (Int) → (Int) → (Int) → (Int) → (Int) → (Int) → (Int) → (Int) → (Int) → (Int) → Option ρ) (c6n1 : (Int) → (Int) → (Int) → (Int) → (Int) → (Int) → (Int) → (Int) → (Int) → (Int) → Option ρ) (c6n2 : (Int) → (Int) → (Int) → (Int) → (Int) → (Int) → (Int) → (Int) → (Int) → (Int) → Option ρ) (c6n3 : (Int) → (Int) → (Int) → (Int) → (Int) → (Int) → (Int) → (Int) → (Int) → (Int) → Option ρ) (c6n4 : (Int) → (Int) → (Int) → (Int) → (Int) → (Int) → (Int) → (Int) → (Int) → (Int) → Option ρ) (x0 : Int) (y0 : Int) (x1 : Int) (y1 : Int) (lx : Int) (ly : Int) (hx : Int) (hy : Int) (x7 : Int) (x8 : Int) : Option ρ :=
  (bsel (turnV x0 y0 x1 y1 hx hy == 1)
   (c6n2 (x0) (y0) (x1) (y1) (lx) (ly) (hx) (hy) (IntKind.i64.wrap (x7 + 1)) (x8))
   (bsel (turnV x0 y0 x1 y1 hx hy == -1)
    (c6n2 (x0) (y0) (x1) (y1) (lx) (ly) (hx) (hy) (x7) (IntKind.i64.wrap (x8 + 1)))
    (c6n2 (x0) (y0) (x1) (y1) (lx) (ly) (hx) (hy) (x7) (x8))))
def T53_6n2 {ρ : Type} (ret : (Bool) → Option ρ) (c6n0 : (Int) → (Int) → (Int) → (Int) → (Int) → (Int) → (Int) → (Int) → (Int) → (Int) → Option ρ) (c6n1 : (Int) → (Int) → (Int) → (Int) → (Int) → (Int) → (Int) → (Int) → (Int) → (Int) → Option ρ) (c6n2 : (Int) → (Int) → (Int) → (Int) → (Int) → (Int) → (Int) → (Int) → (Int) → (Int) → Option ρ) (c6n3 : (Int) → (Int) → (Int) → (Int) → (Int) → (Int) → (Int) → (Int) → (Int) → (Int) → Option ρ) (c6n4 : (Int) → (Int) → (Int) → (Int) → (Int) → (Int) → (Int) → (Int) → (Int) → (Int) → Option ρ) (x0 : Int) (y0 : Int) (x1 : Int) (y1 : Int) (lx : Int) (ly : Int) (hx : Int) (hy : Int) (x7 : Int) (x8 : Int) : Option ρ :=
  (bsel (turnV x0 y0 x1 y1 lx hy == 1)
   (c6n3 (x0) (y0) (x1) (y1) (lx) (ly) (hx) (hy) (IntKind.i64.wrap (x7 + 1)) (x8))
   (bsel (turnV x0 y0 x1 y1 lx hy == -1)
    (c6n3 (x0) (y0) (x1) (y1) (lx) (ly) (hx) (hy) (x7) (IntKind.i64.wrap (x8 + 1)))
    (c6n3 (x0) (y0) (x1) (y1) (lx) (ly) (hx) (hy) (x7) (x8))))
def T53_6n3 {ρ : Type} (ret : (Bool) → Option ρ) (c6n0 : (Int) → (Int) → (Int) → (Int) → (Int) → (Int) → (Int) → (Int) → (Int) → (Int) → Option ρ) (c6n1 : (Int) → (Int) → (Int) → (Int) → (Int) → (Int) → (Int) → (Int) → (Int) → (Int) → Option ρ) (c6n2 : (Int) → (Int) → (Int) → (Int) → (Int) → (Int) → (Int) → (Int) → (Int) → (Int) → Option ρ) (c6n3 : (Int) → (Int) → (Int) → (Int) → (Int) → (Int) → (Int) → (Int) → (Int) → (Int) → Option ρ) (c6n4 : (Int) → (Int) → (Int) → (Int) → (Int) → (Int) → (Int) → (Int) → (Int) → (Int) → Option ρ) (x0 : Int) (y0 : Int) (x1 : Int) (y1 : Int) (lx : Int) (ly : Int) (hx : Int) (hy : Int) (x7 : Int) (x8 : Int) : Option ρ :=
  (bsel (turnV x0 y0 x1 y1 hx ly == 1)
   (c6n4 (x0) (y0) (x1) (y1) (lx) (ly) (hx) (hy) (IntKind.i64.wrap (x7 + 1)) (x8))
   (bsel (turnV x0 y0 x1 y1 hx ly == -1)
    (c6n4 (x0) (y0) (x1) (y1) (lx) (ly) (hx) (hy) (x7) (IntKind.i64.wrap (x8 + 1)))
    (c6n4 (x0) (y0) (x1) (y1) (lx) (ly) (hx) (hy) (x7) (x8))))
def T53_6n4 {ρ : Type} (ret : (Bool) → Option ρ) (c6n0 : (Int) → (Int) → (Int) → (Int) → (Int) → (Int) → (Int) → (Int) → (Int) → (Int) → Option ρ) (c6n1 : (Int) → (Int) → (Int) → (Int) → (Int) → (Int) → (Int) → (Int) → (Int) → (Int) → Option ρ) (c6n2 : (Int) → (Int) → (Int) → (Int) → (Int) → (Int) → (Int) → (Int) → (Int) → (Int) → Option ρ) (c6n3 : (Int) → (Int) → (Int) → (Int) → (Int) → (Int) → (Int) → (Int) → (Int) → (Int) → Option ρ) (c6n4 : (Int) → (Int) → (Int) → (Int) → (Int) → (Int) → (Int) → (Int) → (Int) → (Int) → Option ρ) (x0 : Int) (y0 : Int) (x1 : Int) (y1 : Int) (lx : Int) (ly : Int) (hx : Int) (hy : Int) (x7 : Int) (x8 : Int) : Option ρ :=
  (bsel (decide (x7 < 4) == true)
   (ret (decide (x8 < 4)))
   (ret (false)))
mutual
def L53_6n0 : Nat → (Int) → (Int) → (Int) → (Int) → (Int) → (Int) → (Int) → (Int) → (Int) → (Int) → Option (Bool)
  | 0, _, _, _, _, _, _, _, _, _, _ => none
  | k + 1, x0, y0, x1, y1, lx, ly, hx, hy, x7, x8 => T53_6n0 some (L53_6n0 k) (L53_6n1 k) (L53_6n2 k) (L53_6n3 k) (L53_6n4 k) x0 y0 x1 y1 lx ly hx hy x7 x8
def L53_6n1 : Nat → (Int) → (Int) → (Int) → (Int) → (Int) → (Int) → (Int) → (Int) → (Int) → (Int) → Option (Bool)
  | 0, _, _, _, _, _, _, _, _, _, _ => none
  | k + 1, x0, y0, x1, y1, lx, ly, hx, hy, x7, x8 => T53_6n1 some (L53_6n0 k) (L53_6n1 k) (L53_6n2 k) (L53_6n3 k) (L53_6n4 k) x0 y0 x1 y1 lx ly hx hy x7 x8
def L53_6n2 : Nat → (Int) → (Int) → (Int) → (Int) → (Int) → (Int) → (Int) → (Int) → (Int) → (Int) → Option (Bool)
  | 0, _, _, _, _, _, _, _, _, _, _ => none
  | k + 1, x0, y0, x1, y1, lx, ly, hx, hy, x7, x8 => T53_6n2 some (L53_6n0 k) (L53_6n1 k) (L53_6n2 k) (L53_6n3 k) (L53_6n4 k) x0 y0 x1 y1 lx ly hx hy x7 x8
def L53_6n3 : Nat → (Int) → (Int) → (Int) → (Int) → (Int) → (Int) → (Int) → (Int) → (Int) → (Int) → Option (Bool)
  | 0, _, _, _, _, _, _, _, _, _, _ => none
  | k + 1, x0, y0, x1, y1, lx, ly, hx, hy, x7, x8 => T53_6n3 some (L53_6n0 k) (L53_6n1 k) (L53_6n2 k) (L53_6n3 k) (L53_6n4 k) x0 y0 x1 y1 lx ly hx hy x7 x8
def L53_6n4 : Nat → (Int) → (Int) → (Int) → (Int) → (Int) → (Int) → (Int) → (Int) → (Int) → (Int) → Option (Bool)
  | 0, _, _, _, _, _, _, _, _, _, _ => none
  | k + 1, x0, y0, x1, y1, lx, ly, hx, hy, x7, x8 => T53_6n4 some (L53_6n0 k) (L53_6n1 k) (L53_6n2 k) (L53_6n3 k) (L53_6n4 k) x0 y0 x1 y1 lx ly hx hy x7 x8
end
def T53 {ρ : Type} (ret : (Bool) → Option ρ) (c6n0 : (Int) → (Int) → (Int) → (Int) → (Int) → (Int) → (Int) → (Int) → (Int) → (Int) → Option ρ) (c6n1 : (Int) → (Int) → (Int) → (Int) → (Int) → (Int) → (Int) → (Int) → (Int) → (Int) → Option ρ) (c6n2 : (Int) → (Int) → (Int) → (Int) → (Int) → (Int) → (Int) → (Int) → (Int) → (Int) → Option ρ) (c6n3 : (Int) → (Int) → (Int) → (Int) → (Int) → (Int) → (Int) → (Int) → (Int) → (Int) → Option ρ) (c6n4 : (Int) → (Int) → (Int) → (Int) → (Int) → (Int) → (Int) → (Int) → (Int) → (Int) → Option ρ) (x0 : Int) (y0 : Int) (x1 : Int) (y1 : Int) (lx : Int) (ly : Int) (hx : Int) (hy : Int) : Option ρ :=
  (bsel (decide (x1 < lx) == false)
   (bsel (decide (x0 > hx) == false)
    (bsel (decide (y0 < ly) == true)
     (bsel (decide (y1 < ly) == false)
      (bsel (decide (y0 > hy) == true)
       (bsel (decide (y1 > hy))
        (ret (false))
        (c6n0 (x0) (y0) (x1) (y1) (lx) (ly) (hx) (hy) (0) (0)))
       (c6n0 (x0) (y0) (x1) (y1) (lx) (ly) (hx) (hy) (0) (0)))
      (ret (false)))
     (bsel (decide (y0 > hy) == true)
      (bsel (decide (y1 > hy))
       (ret (false))
       (c6n0 (x0) (y0) (x1) (y1) (lx) (ly) (hx) (hy) (0) (0)))
      (c6n0 (x0) (y0) (x1) (y1) (lx) (ly) (hx) (hy) (0) (0))))
    (ret (false)))
   (ret (false)))
def G53 (k : Nat) (x0 : Int) (y0 : Int) (x1 : Int) (y1 : Int) (lx : Int) (ly : Int) (hx : Int) (hy : Int) : Option (Bool) := T53 some (L53_6n0 k) (L53_6n1 k) (L53_6n2 k) (L53_6n3 k) (L53_6n4 k) x0 y0 x1 y1 lx ly hx hy
mutual
theorem t53_6n0 : ∀ (k : Nat) (x0 : Int) (y0 : Int) (x1 : Int) (y1 : Int) (lx : Int) (ly : Int) (hx : Int) (hy : Int) (x7 : Int) (x8 : Int) (r : Bool), L53_6n0 k x0 y0 x1 y1 lx ly hx hy x7 x8 = some r → Ends Try.prog Try.f53.results.toList (at_ Try.f53 6) (S53_6n0 x0 y0 x1 y1 lx ly hx hy x7 x8) (F.bool r)
  | 0, _, _, _, _, _, _, _, _, _, _, _, h => nomatch h
  | k + 1, x0, y0, x1, y1, lx, ly, hx, hy, x7, x8, r, h => by
    refine Ends.of_cut tyOK envW2_ok (T := [(6, [3, 7, 8, 69, 70, 71], 4)]) (n := 600) ?_
    have e : runCut Try.prog (tiOf Try.prog) envW2 [(6, [3, 7, 8, 69, 70, 71], 4)] 0 Try.f53.results.toList some 600 (at_ Try.f53 6) (S53_6n0 x0 y0 x1 y1 lx ly hx hy x7 x8) = T53_6n0 (fun r => some (.ret (F.bool r))) (fun x0 y0 x1 y1 lx ly hx hy x7 x8 => some (.cut (at_ Try.f53 6) (S53_6n0 x0 y0 x1 y1 lx ly hx hy x7 x8))) (fun x0 y0 x1 y1 lx ly hx hy x7 x8 => some (.cut (at_ Try.f53 6) (S53_6n1 x0 y0 x1 y1 lx ly hx hy x7 x8))) (fun x0 y0 x1 y1 lx ly hx hy x7 x8 => some (.cut (at_ Try.f53 6) (S53_6n2 x0 y0 x1 y1 lx ly hx hy x7 x8))) (fun x0 y0 x1 y1 lx ly hx hy x7 x8 => some (.cut (at_ Try.f53 6) (S53_6n3 x0 y0 x1 y1 lx ly hx hy x7 x8))) (fun x0 y0 x1 y1 lx ly hx hy x7 x8 => some (.cut (at_ Try.f53 6) (S53_6n4 x0 y0 x1 y1 lx ly hx hy x7 x8))) x0 y0 x1 y1 lx ly hx hy x7 x8 := by kernel_rfl
    rw [e]
    exact (good_sel h (fun _ h => good_cut (t53_6n1 k _ _ _ _ _ _ _ _ _ _ r h)) (fun _ h => (good_sel h (fun _ h => good_cut (t53_6n1 k _ _ _ _ _ _ _ _ _ _ r h)) (fun _ h => good_cut (t53_6n1 k _ _ _ _ _ _ _ _ _ _ r h)))))
theorem t53_6n1 : ∀ (k : Nat) (x0 : Int) (y0 : Int) (x1 : Int) (y1 : Int) (lx : Int) (ly : Int) (hx : Int) (hy : Int) (x7 : Int) (x8 : Int) (r : Bool), L53_6n1 k x0 y0 x1 y1 lx ly hx hy x7 x8 = some r → Ends Try.prog Try.f53.results.toList (at_ Try.f53 6) (S53_6n1 x0 y0 x1 y1 lx ly hx hy x7 x8) (F.bool r)
  | 0, _, _, _, _, _, _, _, _, _, _, _, h => nomatch h
  | k + 1, x0, y0, x1, y1, lx, ly, hx, hy, x7, x8, r, h => by
    refine Ends.of_cut tyOK envW2_ok (T := [(6, [3, 7, 8, 69, 70, 71], 4)]) (n := 600) ?_
    have e : runCut Try.prog (tiOf Try.prog) envW2 [(6, [3, 7, 8, 69, 70, 71], 4)] 0 Try.f53.results.toList some 600 (at_ Try.f53 6) (S53_6n1 x0 y0 x1 y1 lx ly hx hy x7 x8) = T53_6n1 (fun r => some (.ret (F.bool r))) (fun x0 y0 x1 y1 lx ly hx hy x7 x8 => some (.cut (at_ Try.f53 6) (S53_6n0 x0 y0 x1 y1 lx ly hx hy x7 x8))) (fun x0 y0 x1 y1 lx ly hx hy x7 x8 => some (.cut (at_ Try.f53 6) (S53_6n1 x0 y0 x1 y1 lx ly hx hy x7 x8))) (fun x0 y0 x1 y1 lx ly hx hy x7 x8 => some (.cut (at_ Try.f53 6) (S53_6n2 x0 y0 x1 y1 lx ly hx hy x7 x8))) (fun x0 y0 x1 y1 lx ly hx hy x7 x8 => some (.cut (at_ Try.f53 6) (S53_6n3 x0 y0 x1 y1 lx ly hx hy x7 x8))) (fun x0 y0 x1 y1 lx ly hx hy x7 x8 => some (.cut (at_ Try.f53 6) (S53_6n4 x0 y0 x1 y1 lx ly hx hy x7 x8))) x0 y0 x1 y1 lx ly hx hy x7 x8 := by kernel_rfl
    rw [e]
    exact (good_sel h (fun _ h => good_cut (t53_6n2 k _ _ _ _ _ _ _ _ _ _ r h)) (fun _ h => (good_sel h (fun _ h => good_cut (t53_6n2 k _ _ _ _ _ _ _ _ _ _ r h)) (fun _ h => good_cut (t53_6n2 k _ _ _ _ _ _ _ _ _ _ r h)))))
theorem t53_6n2 : ∀ (k : Nat) (x0 : Int) (y0 : Int) (x1 : Int) (y1 : Int) (lx : Int) (ly : Int) (hx : Int) (hy : Int) (x7 : Int) (x8 : Int) (r : Bool), L53_6n2 k x0 y0 x1 y1 lx ly hx hy x7 x8 = some r → Ends Try.prog Try.f53.results.toList (at_ Try.f53 6) (S53_6n2 x0 y0 x1 y1 lx ly hx hy x7 x8) (F.bool r)
  | 0, _, _, _, _, _, _, _, _, _, _, _, h => nomatch h
  | k + 1, x0, y0, x1, y1, lx, ly, hx, hy, x7, x8, r, h => by
    refine Ends.of_cut tyOK envW2_ok (T := [(6, [3, 7, 8, 69, 70, 71], 4)]) (n := 600) ?_
    have e : runCut Try.prog (tiOf Try.prog) envW2 [(6, [3, 7, 8, 69, 70, 71], 4)] 0 Try.f53.results.toList some 600 (at_ Try.f53 6) (S53_6n2 x0 y0 x1 y1 lx ly hx hy x7 x8) = T53_6n2 (fun r => some (.ret (F.bool r))) (fun x0 y0 x1 y1 lx ly hx hy x7 x8 => some (.cut (at_ Try.f53 6) (S53_6n0 x0 y0 x1 y1 lx ly hx hy x7 x8))) (fun x0 y0 x1 y1 lx ly hx hy x7 x8 => some (.cut (at_ Try.f53 6) (S53_6n1 x0 y0 x1 y1 lx ly hx hy x7 x8))) (fun x0 y0 x1 y1 lx ly hx hy x7 x8 => some (.cut (at_ Try.f53 6) (S53_6n2 x0 y0 x1 y1 lx ly hx hy x7 x8))) (fun x0 y0 x1 y1 lx ly hx hy x7 x8 => some (.cut (at_ Try.f53 6) (S53_6n3 x0 y0 x1 y1 lx ly hx hy x7 x8))) (fun x0 y0 x1 y1 lx ly hx hy x7 x8 => some (.cut (at_ Try.f53 6) (S53_6n4 x0 y0 x1 y1 lx ly hx hy x7 x8))) x0 y0 x1 y1 lx ly hx hy x7 x8 := by kernel_rfl
    rw [e]
    exact (good_sel h (fun _ h => good_cut (t53_6n3 k _ _ _ _ _ _ _ _ _ _ r h)) (fun _ h => (good_sel h (fun _ h => good_cut (t53_6n3 k _ _ _ _ _ _ _ _ _ _ r h)) (fun _ h => good_cut (t53_6n3 k _ _ _ _ _ _ _ _ _ _ r h)))))
theorem t53_6n3 : ∀ (k : Nat) (x0 : Int) (y0 : Int) (x1 : Int) (y1 : Int) (lx : Int) (ly : Int) (hx : Int) (hy : Int) (x7 : Int) (x8 : Int) (r : Bool), L53_6n3 k x0 y0 x1 y1 lx ly hx hy x7 x8 = some r → Ends Try.prog Try.f53.results.toList (at_ Try.f53 6) (S53_6n3 x0 y0 x1 y1 lx ly hx hy x7 x8) (F.bool r)
  | 0, _, _, _, _, _, _, _, _, _, _, _, h => nomatch h
  | k + 1, x0, y0, x1, y1, lx, ly, hx, hy, x7, x8, r, h => by
    refine Ends.of_cut tyOK envW2_ok (T := [(6, [3, 7, 8, 69, 70, 71], 4)]) (n := 600) ?_
    have e : runCut Try.prog (tiOf Try.prog) envW2 [(6, [3, 7, 8, 69, 70, 71], 4)] 0 Try.f53.results.toList some 600 (at_ Try.f53 6) (S53_6n3 x0 y0 x1 y1 lx ly hx hy x7 x8) = T53_6n3 (fun r => some (.ret (F.bool r))) (fun x0 y0 x1 y1 lx ly hx hy x7 x8 => some (.cut (at_ Try.f53 6) (S53_6n0 x0 y0 x1 y1 lx ly hx hy x7 x8))) (fun x0 y0 x1 y1 lx ly hx hy x7 x8 => some (.cut (at_ Try.f53 6) (S53_6n1 x0 y0 x1 y1 lx ly hx hy x7 x8))) (fun x0 y0 x1 y1 lx ly hx hy x7 x8 => some (.cut (at_ Try.f53 6) (S53_6n2 x0 y0 x1 y1 lx ly hx hy x7 x8))) (fun x0 y0 x1 y1 lx ly hx hy x7 x8 => some (.cut (at_ Try.f53 6) (S53_6n3 x0 y0 x1 y1 lx ly hx hy x7 x8))) (fun x0 y0 x1 y1 lx ly hx hy x7 x8 => some (.cut (at_ Try.f53 6) (S53_6n4 x0 y0 x1 y1 lx ly hx hy x7 x8))) x0 y0 x1 y1 lx ly hx hy x7 x8 := by kernel_rfl
    rw [e]
    exact (good_sel h (fun _ h => good_cut (t53_6n4 k _ _ _ _ _ _ _ _ _ _ r h)) (fun _ h => (good_sel h (fun _ h => good_cut (t53_6n4 k _ _ _ _ _ _ _ _ _ _ r h)) (fun _ h => good_cut (t53_6n4 k _ _ _ _ _ _ _ _ _ _ r h)))))
theorem t53_6n4 : ∀ (k : Nat) (x0 : Int) (y0 : Int) (x1 : Int) (y1 : Int) (lx : Int) (ly : Int) (hx : Int) (hy : Int) (x7 : Int) (x8 : Int) (r : Bool), L53_6n4 k x0 y0 x1 y1 lx ly hx hy x7 x8 = some r → Ends Try.prog Try.f53.results.toList (at_ Try.f53 6) (S53_6n4 x0 y0 x1 y1 lx ly hx hy x7 x8) (F.bool r)
  | 0, _, _, _, _, _, _, _, _, _, _, _, h => nomatch h
  | k + 1, x0, y0, x1, y1, lx, ly, hx, hy, x7, x8, r, h => by
    refine Ends.of_cut tyOK envW2_ok (T := [(6, [3, 7, 8, 69, 70, 71], 4)]) (n := 600) ?_
    have e : runCut Try.prog (tiOf Try.prog) envW2 [(6, [3, 7, 8, 69, 70, 71], 4)] 0 Try.f53.results.toList some 600 (at_ Try.f53 6) (S53_6n4 x0 y0 x1 y1 lx ly hx hy x7 x8) = T53_6n4 (fun r => some (.ret (F.bool r))) (fun x0 y0 x1 y1 lx ly hx hy x7 x8 => some (.cut (at_ Try.f53 6) (S53_6n0 x0 y0 x1 y1 lx ly hx hy x7 x8))) (fun x0 y0 x1 y1 lx ly hx hy x7 x8 => some (.cut (at_ Try.f53 6) (S53_6n1 x0 y0 x1 y1 lx ly hx hy x7 x8))) (fun x0 y0 x1 y1 lx ly hx hy x7 x8 => some (.cut (at_ Try.f53 6) (S53_6n2 x0 y0 x1 y1 lx ly hx hy x7 x8))) (fun x0 y0 x1 y1 lx ly hx hy x7 x8 => some (.cut (at_ Try.f53 6) (S53_6n3 x0 y0 x1 y1 lx ly hx hy x7 x8))) (fun x0 y0 x1 y1 lx ly hx hy x7 x8 => some (.cut (at_ Try.f53 6) (S53_6n4 x0 y0 x1 y1 lx ly hx hy x7 x8))) x0 y0 x1 y1 lx ly hx hy x7 x8 := by kernel_rfl
    rw [e]
    exact (good_sel h (fun _ h => good_ret (by cases h; rfl)) (fun _ h => good_ret (by cases h; rfl)))
end
theorem t53 (k : Nat) (x0 : Int) (y0 : Int) (x1 : Int) (y1 : Int) (lx : Int) (ly : Int) (hx : Int) (hy : Int) (r : Bool) (h : G53 k x0 y0 x1 y1 lx ly hx hy = some r) : Ends Try.prog Try.f53.results.toList [.code (bodyOf Try.f53)] (start Try.f53.ntmps ([F.agg [F.int .i64 x0, F.int .i64 y0, F.int .i64 x1, F.int .i64 y1], F.agg [F.int .i64 lx, F.int .i64 ly], F.agg [F.int .i64 hx, F.int .i64 hy]].map .f)) (F.bool r) := by
  refine Ends.of_run tyOK envW2_ok (T := [(6, [3, 7, 8, 69, 70, 71], 4)]) (n := 600) ?_
  have e : run Try.prog (tiOf Try.prog) envW2 [(6, [3, 7, 8, 69, 70, 71], 4)] 0 Try.f53.results.toList some 600 [.code (bodyOf Try.f53)] (start Try.f53.ntmps ([F.agg [F.int .i64 x0, F.int .i64 y0, F.int .i64 x1, F.int .i64 y1], F.agg [F.int .i64 lx, F.int .i64 ly], F.agg [F.int .i64 hx, F.int .i64 hy]].map .f)) = T53 (fun r => some (.ret (F.bool r))) (fun x0 y0 x1 y1 lx ly hx hy x7 x8 => some (.cut (at_ Try.f53 6) (S53_6n0 x0 y0 x1 y1 lx ly hx hy x7 x8))) (fun x0 y0 x1 y1 lx ly hx hy x7 x8 => some (.cut (at_ Try.f53 6) (S53_6n1 x0 y0 x1 y1 lx ly hx hy x7 x8))) (fun x0 y0 x1 y1 lx ly hx hy x7 x8 => some (.cut (at_ Try.f53 6) (S53_6n2 x0 y0 x1 y1 lx ly hx hy x7 x8))) (fun x0 y0 x1 y1 lx ly hx hy x7 x8 => some (.cut (at_ Try.f53 6) (S53_6n3 x0 y0 x1 y1 lx ly hx hy x7 x8))) (fun x0 y0 x1 y1 lx ly hx hy x7 x8 => some (.cut (at_ Try.f53 6) (S53_6n4 x0 y0 x1 y1 lx ly hx hy x7 x8))) x0 y0 x1 y1 lx ly hx hy := by kernel_rfl
  rw [e]
  exact (good_sel h (fun _ h => (good_sel h (fun _ h => (good_sel h (fun _ h => (good_sel h (fun _ h => (good_sel h (fun _ h => (good_sel h (fun _ h => good_ret (by cases h; rfl)) (fun _ h => good_cut (t53_6n0 k _ _ _ _ _ _ _ _ _ _ r h)))) (fun _ h => good_cut (t53_6n0 k _ _ _ _ _ _ _ _ _ _ r h)))) (fun _ h => good_ret (by cases h; rfl)))) (fun _ h => (good_sel h (fun _ h => (good_sel h (fun _ h => good_ret (by cases h; rfl)) (fun _ h => good_cut (t53_6n0 k _ _ _ _ _ _ _ _ _ _ r h)))) (fun _ h => good_cut (t53_6n0 k _ _ _ _ _ _ _ _ _ _ r h)))))) (fun _ h => good_ret (by cases h; rfl)))) (fun _ h => good_ret (by cases h; rfl)))
/-! ### function 56 -/
def S56_5o0 (x0 : Int) (y0 : Int) (x1 : Int) (y1 : Int) (lx : Int) (ly : Int) (hx : Int) (hy : Int) (x7 : Int) (x8 : Int) : St := ⟨[.bad, .bad, .bad, (U.hp 0 0), (U.hp 1 0), (U.hp 2 0), .bad, (U.f (F.int .i64 x7)), (U.f (F.int .i64 x8)), .bad, .bad, .bad, .bad, .bad, .bad, .bad, .bad, .bad, .bad, .bad, .bad, .bad, .bad, .bad, .bad, .bad, .bad, .bad, .bad, .bad, .bad, .bad, .bad, .bad, .bad, .bad, .bad, .bad, .bad, .bad, .bad, .bad, .bad, .bad, .bad, .bad, .bad, .bad, .bad, .bad, .bad, .bad, .bad, .bad, .bad, .bad, (U.hs 3 2 0 2), (U.f (F.int .i64 2)), (U.f (F.int .i64 0)), .bad, .bad, .bad, .bad, .bad, .bad, .bad, .bad, .bad, .bad, .bad, .bad, .bad, .bad, .bad, .bad, .bad, .bad, .bad, .bad, .bad, .bad, .bad, .bad, .bad, .bad, .bad, .bad, .bad, .bad, .bad, .bad, .bad, .bad, .bad, .bad], [HO.box [U.f (F.int .i64 x0), U.f (F.int .i64 y0), U.f (F.int .i64 x1), U.f (F.int .i64 y1)], HO.box [U.f (F.int .i64 lx), U.f (F.int .i64 ly)], HO.box [U.f (F.int .i64 hx), U.f (F.int .i64 hy)], HO.arr 1 2 (lget [F.int .i64 lx, F.int .i64 hx])]⟩
def S56_5o1 (x0 : Int) (y0 : Int) (x1 : Int) (y1 : Int) (lx : Int) (ly : Int) (hx : Int) (hy : Int) (x7 : Int) (x8 : Int) : St := ⟨[.bad, .bad, .bad, (U.hp 0 0), (U.hp 1 0), (U.hp 2 0), .bad, (U.f (F.int .i64 x7)), (U.f (F.int .i64 x8)), .bad, .bad, .bad, .bad, .bad, .bad, .bad, .bad, .bad, .bad, .bad, .bad, .bad, .bad, .bad, .bad, .bad, .bad, .bad, .bad, .bad, .bad, .bad, .bad, .bad, .bad, .bad, .bad, .bad, .bad, .bad, .bad, .bad, .bad, .bad, .bad, .bad, .bad, .bad, .bad, .bad, .bad, .bad, .bad, .bad, .bad, .bad, (U.hs 3 2 0 2), (U.f (F.int .i64 2)), (U.f (F.int .i64 1)), .bad, .bad, .bad, .bad, .bad, .bad, .bad, .bad, .bad, .bad, .bad, .bad, .bad, .bad, .bad, .bad, .bad, .bad, .bad, .bad, .bad, .bad, .bad, .bad, .bad, .bad, .bad, .bad, .bad, .bad, .bad, .bad, .bad, .bad, .bad, .bad], [HO.box [U.f (F.int .i64 x0), U.f (F.int .i64 y0), U.f (F.int .i64 x1), U.f (F.int .i64 y1)], HO.box [U.f (F.int .i64 lx), U.f (F.int .i64 ly)], HO.box [U.f (F.int .i64 hx), U.f (F.int .i64 hy)], HO.arr 1 2 (lget [F.int .i64 lx, F.int .i64 hx])]⟩
def S56_5o2 (x0 : Int) (y0 : Int) (x1 : Int) (y1 : Int) (lx : Int) (ly : Int) (hx : Int) (hy : Int) (x7 : Int) (x8 : Int) : St := ⟨[.bad, .bad, .bad, (U.hp 0 0), (U.hp 1 0), (U.hp 2 0), .bad, (U.f (F.int .i64 x7)), (U.f (F.int .i64 x8)), .bad, .bad, .bad, .bad, .bad, .bad, .bad, .bad, .bad, .bad, .bad, .bad, .bad, .bad, .bad, .bad, .bad, .bad, .bad, .bad, .bad, .bad, .bad, .bad, .bad, .bad, .bad, .bad, .bad, .bad, .bad, .bad, .bad, .bad, .bad, .bad, .bad, .bad, .bad, .bad, .bad, .bad, .bad, .bad, .bad, .bad, .bad, (U.hs 3 2 0 2), (U.f (F.int .i64 2)), (U.f (F.int .i64 2)), .bad, .bad, .bad, .bad, .bad, .bad, .bad, .bad, .bad, .bad, .bad, .bad, .bad, .bad, .bad, .bad, .bad, .bad, .bad, .bad, .bad, .bad, .bad, .bad, .bad, .bad, .bad, .bad, .bad, .bad, .bad, .bad, .bad, .bad, .bad, .bad], [HO.box [U.f (F.int .i64 x0), U.f (F.int .i64 y0), U.f (F.int .i64 x1), U.f (F.int .i64 y1)], HO.box [U.f (F.int .i64 lx), U.f (F.int .i64 ly)], HO.box [U.f (F.int .i64 hx), U.f (F.int .i64 hy)], HO.arr 1 2 (lget [F.int .i64 lx, F.int .i64 hx])]⟩
def S56_8n00 (x0 : Int) (y0 : Int) (x1 : Int) (y1 : Int) (lx : Int) (ly : Int) (hx : Int) (hy : Int) (x7 : Int) (x8 : Int) : St := ⟨[.bad, .bad, .bad, (U.hp 0 0), (U.hp 1 0), (U.hp 2 0), .bad, (U.f (F.int .i64 x7)), (U.f (F.int .i64 x8)), .bad, (U.f (F.int .i64 lx)), .bad, .bad, .bad, .bad, .bad, .bad, .bad, .bad, .bad, .bad, .bad, .bad, .bad, .bad, .bad, .bad, .bad, .bad, .bad, .bad, .bad, .bad, .bad, .bad, .bad, .bad, .bad, .bad, .bad, .bad, .bad, .bad, .bad, .bad, .bad, .bad, .bad, .bad, .bad, .bad, .bad, .bad, .bad, .bad, .bad, (U.hs 3 2 0 2), (U.f (F.int .i64 2)), (U.f (F.int .i64 0)), .bad, .bad, .bad, .bad, .bad, .bad, .bad, (U.hs 4 2 0 2), (U.f (F.int .i64 2)), (U.f (F.int .i64 0)), .bad, .bad, .bad, .bad, .bad, .bad, .bad, .bad, .bad, .bad, .bad, .bad, .bad, .bad, .bad, .bad, .bad, .bad, .bad, .bad, .bad, .bad, .bad, .bad, .bad, .bad], [HO.box [U.f (F.int .i64 x0), U.f (F.int .i64 y0), U.f (F.int .i64 x1), U.f (F.int .i64 y1)], HO.box [U.f (F.int .i64 lx), U.f (F.int .i64 ly)], HO.box [U.f (F.int .i64 hx), U.f (F.int .i64 hy)], HO.arr 1 2 (lget [F.int .i64 lx, F.int .i64 hx]), HO.arr 1 2 (lget [F.int .i64 ly, F.int .i64 hy])]⟩
def S56_8n01 (x0 : Int) (y0 : Int) (x1 : Int) (y1 : Int) (lx : Int) (ly : Int) (hx : Int) (hy : Int) (x7 : Int) (x8 : Int) : St := ⟨[.bad, .bad, .bad, (U.hp 0 0), (U.hp 1 0), (U.hp 2 0), .bad, (U.f (F.int .i64 x7)), (U.f (F.int .i64 x8)), .bad, (U.f (F.int .i64 lx)), .bad, .bad, .bad, .bad, .bad, .bad, .bad, .bad, .bad, .bad, .bad, .bad, .bad, .bad, .bad, .bad, .bad, .bad, .bad, .bad, .bad, .bad, .bad, .bad, .bad, .bad, .bad, .bad, .bad, .bad, .bad, .bad, .bad, .bad, .bad, .bad, .bad, .bad, .bad, .bad, .bad, .bad, .bad, .bad, .bad, (U.hs 3 2 0 2), (U.f (F.int .i64 2)), (U.f (F.int .i64 0)), .bad, .bad, .bad, .bad, .bad, .bad, .bad, (U.hs 4 2 0 2), (U.f (F.int .i64 2)), (U.f (F.int .i64 1)), .bad, .bad, .bad, .bad, .bad, .bad, .bad, .bad, .bad, .bad, .bad, .bad, .bad, .bad, .bad, .bad, .bad, .bad, .bad, .bad, .bad, .bad, .bad, .bad, .bad, .bad], [HO.box [U.f (F.int .i64 x0), U.f (F.int .i64 y0), U.f (F.int .i64 x1), U.f (F.int .i64 y1)], HO.box [U.f (F.int .i64 lx), U.f (F.int .i64 ly)], HO.box [U.f (F.int .i64 hx), U.f (F.int .i64 hy)], HO.arr 1 2 (lget [F.int .i64 lx, F.int .i64 hx]), HO.arr 1 2 (lget [F.int .i64 ly, F.int .i64 hy])]⟩
def S56_8n02 (x0 : Int) (y0 : Int) (x1 : Int) (y1 : Int) (lx : Int) (ly : Int) (hx : Int) (hy : Int) (x7 : Int) (x8 : Int) : St := ⟨[.bad, .bad, .bad, (U.hp 0 0), (U.hp 1 0), (U.hp 2 0), .bad, (U.f (F.int .i64 x7)), (U.f (F.int .i64 x8)), .bad, (U.f (F.int .i64 lx)), .bad, .bad, .bad, .bad, .bad, .bad, .bad, .bad, .bad, .bad, .bad, .bad, .bad, .bad, .bad, .bad, .bad, .bad, .bad, .bad, .bad, .bad, .bad, .bad, .bad, .bad, .bad, .bad, .bad, .bad, .bad, .bad, .bad, .bad, .bad, .bad, .bad, .bad, .bad, .bad, .bad, .bad, .bad, .bad, .bad, (U.hs 3 2 0 2), (U.f (F.int .i64 2)), (U.f (F.int .i64 0)), .bad, .bad, .bad, .bad, .bad, .bad, .bad, (U.hs 4 2 0 2), (U.f (F.int .i64 2)), (U.f (F.int .i64 2)), .bad, .bad, .bad, .bad, .bad, .bad, .bad, .bad, .bad, .bad, .bad, .bad, .bad, .bad, .bad, .bad, .bad, .bad, .bad, .bad, .bad, .bad, .bad, .bad, .bad, .bad], [HO.box [U.f (F.int .i64 x0), U.f (F.int .i64 y0), U.f (F.int .i64 x1), U.f (F.int .i64 y1)], HO.box [U.f (F.int .i64 lx), U.f (F.int .i64 ly)], HO.box [U.f (F.int .i64 hx), U.f (F.int .i64 hy)], HO.arr 1 2 (lget [F.int .i64 lx, F.int .i64 hx]), HO.arr 1 2 (lget [F.int .i64 ly, F.int .i64 hy])]⟩
def S56_8n10 (x0 : Int) (y0 : Int) (x1 : Int) (y1 : Int) (lx : Int) (ly : Int) (hx : Int) (hy : Int) (x7 : Int) (x8 : Int) : St := ⟨[.bad, .bad, .bad, (U.hp 0 0), (U.hp 1 0), (U.hp 2 0), .bad, (U.f (F.int .i64 x7)), (U.f (F.int .i64 x8)), .bad, (U.f (F.int .i64 hx)), .bad, .bad, .bad, .bad, .bad, .bad, .bad, .bad, .bad, .bad, .bad, .bad, .bad, .bad, .bad, .bad, .bad, .bad, .bad, .bad, .bad, .bad, .bad, .bad, .bad, .bad, .bad, .bad, .bad, .bad, .bad, .bad, .bad, .bad, .bad, .bad, .bad, .bad, .bad, .bad, .bad, .bad, .bad, .bad, .bad, (U.hs 3 2 0 2), (U.f (F.int .i64 2)), (U.f (F.int .i64 1)), .bad, .bad, .bad, .bad, .bad, .bad, .bad, (U.hs 4 2 0 2), (U.f (F.int .i64 2)), (U.f (F.int .i64 0)), .bad, .bad, .bad, .bad, .bad, .bad, .bad, .bad, .bad, .bad, .bad, .bad, .bad, .bad, .bad, .bad, .bad, .bad, .bad, .bad, .bad, .bad, .bad, .bad, .bad, .bad], [HO.box [U.f (F.int .i64 x0), U.f (F.int .i64 y0), U.f (F.int .i64 x1), U.f (F.int .i64 y1)], HO.box [U.f (F.int .i64 lx), U.f (F.int .i64 ly)], HO.box [U.f (F.int .i64 hx), U.f (F.int .i64 hy)], HO.arr 1 2 (lget [F.int .i64 lx, F.int .i64 hx]), HO.arr 1 2 (lget [F.int .i64 ly, F.int .i64 hy])]⟩
def S56_8n11 (x0 : Int) (y0 : Int) (x1 : Int) (y1 : Int) (lx : Int) (ly : Int) (hx : Int) (hy : Int) (x7 : Int) (x8 : Int) : St := ⟨[.bad, .bad, .bad, (U.hp 0 0), (U.hp 1 0), (U.hp 2 0), .bad, (U.f (F.int .i64 x7)), (U.f (F.int .i64 x8)), .bad, (U.f (F.int .i64 hx)), .bad, .bad, .bad, .bad, .bad, .bad, .bad, .bad, .bad, .bad, .bad, .bad, .bad, .bad, .bad, .bad, .bad, .bad, .bad, .bad, .bad, .bad, .bad, .bad, .bad, .bad, .bad, .bad, .bad, .bad, .bad, .bad, .bad, .bad, .bad, .bad, .bad, .bad, .bad, .bad, .bad, .bad, .bad, .bad, .bad, (U.hs 3 2 0 2), (U.f (F.int .i64 2)), (U.f (F.int .i64 1)), .bad, .bad, .bad, .bad, .bad, .bad, .bad, (U.hs 4 2 0 2), (U.f (F.int .i64 2)), (U.f (F.int .i64 1)), .bad, .bad, .bad, .bad, .bad, .bad, .bad, .bad, .bad, .bad, .bad, .bad, .bad, .bad, .bad, .bad, .bad, .bad, .bad, .bad, .bad, .bad, .bad, .bad, .bad, .bad], [HO.box [U.f (F.int .i64 x0), U.f (F.int .i64 y0), U.f (F.int .i64 x1), U.f (F.int .i64 y1)], HO.box [U.f (F.int .i64 lx), U.f (F.int .i64 ly)], HO.box [U.f (F.int .i64 hx), U.f (F.int .i64 hy)], HO.arr 1 2 (lget [F.int .i64 lx, F.int .i64 hx]), HO.arr 1 2 (lget [F.int .i64 ly, F.int .i64 hy])]⟩
def S56_8n12 (x0 : Int) (y0 : Int) (x1 : Int) (y1 : Int) (lx : Int) (ly : Int) (hx : Int) (hy : Int) (x7 : Int) (x8 : Int) : St := ⟨[.bad, .bad, .bad, (U.hp 0 0), (U.hp 1 0), (U.hp 2 0), .bad, (U.f (F.int .i64 x7)), (U.f (F.int .i64 x8)), .bad, (U.f (F.int .i64 hx)), .bad, .bad, .bad, .bad, .bad, .bad, .bad, .bad, .bad, .bad, .bad, .bad, .bad, .bad, .bad, .bad, .bad, .bad, .bad, .bad, .bad, .bad, .bad, .bad, .bad, .bad, .bad, .bad, .bad, .bad, .bad, .bad, .bad, .bad, .bad, .bad, .bad, .bad, .bad, .bad, .bad, .bad, .bad, .bad, .bad, (U.hs 3 2 0 2), (U.f (F.int .i64 2)), (U.f (F.int .i64 1)), .bad, .bad, .bad, .bad, .bad, .bad, .bad, (U.hs 4 2 0 2), (U.f (F.int .i64 2)), (U.f (F.int .i64 2)), .bad, .bad, .bad, .bad, .bad, .bad, .bad, .bad, .bad, .bad, .bad, .bad, .bad, .bad, .bad, .bad, .bad, .bad, .bad, .bad, .bad, .bad, .bad, .bad, .bad, .bad], [HO.box [U.f (F.int .i64 x0), U.f (F.int .i64 y0), U.f (F.int .i64 x1), U.f (F.int .i64 y1)], HO.box [U.f (F.int .i64 lx), U.f (F.int .i64 ly)], HO.box [U.f (F.int .i64 hx), U.f (F.int .i64 hy)], HO.arr 1 2 (lget [F.int .i64 lx, F.int .i64 hx]), HO.arr 1 2 (lget [F.int .i64 ly, F.int .i64 hy])]⟩
def T56_5o0 {ρ : Type} (ret : (Bool) → Option ρ) (c5o0 : (Int) → (Int) → (Int) → (Int) → (Int) → (Int) → (Int) → (Int) → (Int) → (Int) → Option ρ) (c5o1 : (Int) → (Int) → (Int) → (Int) → (Int) → (Int) → (Int) → (Int) → (Int) → (Int) → Option ρ) (c5o2 : (Int) → (Int) → (Int) → (Int) → (Int) → (Int) → (Int) → (Int) → (Int) → (Int) → Option ρ) (c8n00 : (Int) → (Int) → (Int) → (Int) → (Int) → (Int) → (Int) → (Int) → (Int) → (Int) → Option ρ) (c8n01 : (Int) → (Int) → (Int) → (Int) → (Int) → (Int) → (Int) → (Int) → (Int) → (Int) → Option ρ) (c8n02 : (Int) → (Int) → (Int) → (Int) → (Int) → (Int) → (Int) → (Int) → (Int) → (Int) → Option ρ) (c8n10 : (Int) → (Int) → (Int) → (Int) → (Int) → (Int) → (Int) → (Int) → (Int) → (Int) → Option ρ) (c8n11 : (Int) → (Int) → (Int) → (Int) → (Int) → (Int) → (Int) → (Int) → (Int) → (Int) → Option ρ) (c8n12 : (Int) → (Int) → (Int) → (Int) → (Int) → (Int) → (Int) → (Int) → (Int) → (Int) → Option ρ) (x0 : Int) (y0 : Int) (x1 : Int) (y1 : Int) (lx : Int) (ly : Int) (hx : Int) (hy : Int) (x7 : Int) (x8 : Int) : Option ρ :=
  (c8n00 (x0) (y0) (x1) (y1) (lx) (ly) (hx) (hy) (x7) (x8))
def T56_5o1 {ρ : Type} (ret : (Bool) → Option ρ) (c5o0 : (Int) → (Int) → (Int) → (Int) → (Int) → (Int) → (Int) → (Int) → (Int) → (Int) → Option ρ) (c5o1 : (Int) → (Int) → (Int) → (Int) → (Int) → (Int) → (Int) → (Int) → (Int) → (Int) → Option ρ) (c5o2 : (Int) → (Int) → (Int) → (Int) → (Int) → (Int) → (Int) → (Int) → (Int) → (Int) → Option ρ) (c8n00 : (Int) → (Int) → (Int) → (Int) → (Int) → (Int) → (Int) → (Int) → (Int) → (Int) → Option ρ) (c8n01 : (Int) → (Int) → (Int) → (Int) → (Int) → (Int) → (Int) → (Int) → (Int) → (Int) → Option ρ) (c8n02 : (Int) → (Int) → (Int) → (Int) → (Int) → (Int) → (Int) → (Int) → (Int) → (Int) → Option ρ) (c8n10 : (Int) → (Int) → (Int) → (Int) → (Int) → (Int) → (Int) → (Int) → (Int) → (Int) → Option ρ) (c8n11 : (Int) → (Int) → (Int) → (Int) → (Int) → (Int) → (Int) → (Int) → (Int) → (Int) → Option ρ) (c8n12 : (Int) → (Int) → (Int) → (Int) → (Int) → (Int) → (Int) → (Int) → (Int) → (Int) → Option ρ) (x0 : Int) (y0 : Int) (x1 : Int) (y1 : Int) (lx : Int) (ly : Int) (hx : Int) (hy : Int) (x7 : Int) (x8 : Int) : Option ρ :=
  (c8n10 (x0) (y0) (x1) (y1) (lx) (ly) (hx) (hy) (x7) (x8))
def T56_5o2 {ρ : Type} (ret : (Bool) → Option ρ) (c5o0 : (Int) → (Int) → (Int) → (Int) → (Int) → (Int) → (Int) → (Int) → (Int) → (Int) → Option ρ) (c5o1 : (Int) → (Int) → (Int) → (Int) → (Int) → (Int) → (Int) → (Int) → (Int) → (Int) → Option ρ) (c5o2 : (Int) → (Int) → (Int) → (Int) → (Int) → (Int) → (Int) → (Int) → (Int) → (Int) → Option ρ) (c8n00 : (Int) → (Int) → (Int) → (Int) → (Int) → (Int) → (Int) → (Int) → (Int) → (Int) → Option ρ) (c8n01 : (Int) → (Int) → (Int) → (Int) → (Int) → (Int) → (Int) → (Int) → (Int) → (Int) → Option ρ) (c8n02 : (Int) → (Int) → (Int) → (Int) → (Int) → (Int) → (Int) → (Int) → (Int) → (Int) → Option ρ) (c8n10 : (Int) → (Int) → (Int) → (Int) → (Int) → (Int) → (Int) → (Int) → (Int) → (Int) → Option ρ) (c8n11 : (Int) → (Int) → (Int) → (Int) → (Int) → (Int) → (Int) → (Int) → (Int) → (Int) → Option ρ) (c8n12 : (Int) → (Int) → (Int) → (Int) → (Int) → (Int) → (Int) → (Int) → (Int) → (Int) → Option ρ) (x0 : Int) (y0 : Int) (x1 : Int) (y1 : Int) (lx : Int) (ly : Int) (hx : Int) (hy : Int) (x7 : Int) (x8 : Int) : Option ρ :=
  (bsel (decide (x7 ≤ 0) == true)
   (ret (decide (x8 ≥ 0)))
   (ret (false)))
def T56_8n00 {ρ : Type} (ret : (Bool) → Option ρ) (c5o0 : (Int) → (Int) → (Int) → (Int) → (Int) → (Int) → (Int) → (Int) → (Int) → (Int) → Option ρ) (c5o1 : (Int) → (Int) → (Int) → (Int) → (Int) → (Int) → (Int) → (Int) → (Int) → (Int) → Option ρ) (c5o2 : (Int) → (Int) → (Int) → (Int) → (Int) → (Int) → (Int) → (Int) → (Int) → (Int) → Option ρ) (c8n00 : (Int) → (Int) → (Int) → (Int) → (Int) → (Int) → (Int) → (Int) → (Int) → (Int) → Option ρ) (c8n01 : (Int) → (Int) → (Int) → (Int) → (Int) → (Int) → (Int) → (Int) → (Int) → (Int) → Option ρ) (c8n02 : (Int) → (Int) → (Int) → (Int) → (Int) → (Int) → (Int) → (Int) → (Int) → (Int) → Option ρ) (c8n10 : (Int) → (Int) → (Int) → (Int) → (Int) → (Int) → (Int) → (Int) → (Int) → (Int) → Option ρ) (c8n11 : (Int) → (Int) → (Int) → (Int) → (Int) → (Int) → (Int) → (Int) → (Int) → (Int) → Option ρ) (c8n12 : (Int) → (Int) → (Int) → (Int) → (Int) → (Int) → (Int) → (Int) → (Int) → (Int) → Option ρ) (x0 : Int) (y0 : Int) (x1 : Int) (y1 : Int) (lx : Int) (ly : Int) (hx : Int) (hy : Int) (x7 : Int) (x8 : Int) : Option ρ :=
  (c8n01 (x0) (y0) (x1) (y1) (lx) (ly) (hx) (hy) (if false = true then if signV (crossW x0 y0 x1 y1 lx ly) > x7 then signV (crossW x0 y0 x1 y1 lx ly) else x7 else if signV (crossW x0 y0 x1 y1 lx ly) < x7 then signV (crossW x0 y0 x1 y1 lx ly) else x7) (if true = true then if signV (crossW x0 y0 x1 y1 lx ly) > x8 then signV (crossW x0 y0 x1 y1 lx ly) else x8 else if signV (crossW x0 y0 x1 y1 lx ly) < x8 then signV (crossW x0 y0 x1 y1 lx ly) else x8))
def T56_8n01 {ρ : Type} (ret : (Bool) → Option ρ) (c5o0 : (Int) → (Int) → (Int) → (Int) → (Int) → (Int) → (Int) → (Int) → (Int) → (Int) → Option ρ) (c5o1 : (Int) → (Int) → (Int) → (Int) → (Int) → (Int) → (Int) → (Int) → (Int) → (Int) → Option ρ) (c5o2 : (Int) → (Int) → (Int) → (Int) → (Int) → (Int) → (Int) → (Int) → (Int) → (Int) → Option ρ) (c8n00 : (Int) → (Int) → (Int) → (Int) → (Int) → (Int) → (Int) → (Int) → (Int) → (Int) → Option ρ) (c8n01 : (Int) → (Int) → (Int) → (Int) → (Int) → (Int) → (Int) → (Int) → (Int) → (Int) → Option ρ) (c8n02 : (Int) → (Int) → (Int) → (Int) → (Int) → (Int) → (Int) → (Int) → (Int) → (Int) → Option ρ) (c8n10 : (Int) → (Int) → (Int) → (Int) → (Int) → (Int) → (Int) → (Int) → (Int) → (Int) → Option ρ) (c8n11 : (Int) → (Int) → (Int) → (Int) → (Int) → (Int) → (Int) → (Int) → (Int) → (Int) → Option ρ) (c8n12 : (Int) → (Int) → (Int) → (Int) → (Int) → (Int) → (Int) → (Int) → (Int) → (Int) → Option ρ) (x0 : Int) (y0 : Int) (x1 : Int) (y1 : Int) (lx : Int) (ly : Int) (hx : Int) (hy : Int) (x7 : Int) (x8 : Int) : Option ρ :=
  (c8n02 (x0) (y0) (x1) (y1) (lx) (ly) (hx) (hy) (if false = true then if signV (crossW x0 y0 x1 y1 lx hy) > x7 then signV (crossW x0 y0 x1 y1 lx hy) else x7 else if signV (crossW x0 y0 x1 y1 lx hy) < x7 then signV (crossW x0 y0 x1 y1 lx hy) else x7) (if true = true then if signV (crossW x0 y0 x1 y1 lx hy) > x8 then signV (crossW x0 y0 x1 y1 lx hy) else x8 else if signV (crossW x0 y0 x1 y1 lx hy) < x8 then signV (crossW x0 y0 x1 y1 lx hy) else x8))
def T56_8n02 {ρ : Type} (ret : (Bool) → Option ρ) (c5o0 : (Int) → (Int) → (Int) → (Int) → (Int) → (Int) → (Int) → (Int) → (Int) → (Int) → Option ρ) (c5o1 : (Int) → (Int) → (Int) → (Int) → (Int) → (Int) → (Int) → (Int) → (Int) → (Int) → Option ρ) (c5o2 : (Int) → (Int) → (Int) → (Int) → (Int) → (Int) → (Int) → (Int) → (Int) → (Int) → Option ρ) (c8n00 : (Int) → (Int) → (Int) → (Int) → (Int) → (Int) → (Int) → (Int) → (Int) → (Int) → Option ρ) (c8n01 : (Int) → (Int) → (Int) → (Int) → (Int) → (Int) → (Int) → (Int) → (Int) → (Int) → Option ρ) (c8n02 : (Int) → (Int) → (Int) → (Int) → (Int) → (Int) → (Int) → (Int) → (Int) → (Int) → Option ρ) (c8n10 : (Int) → (Int) → (Int) → (Int) → (Int) → (Int) → (Int) → (Int) → (Int) → (Int) → Option ρ) (c8n11 : (Int) → (Int) → (Int) → (Int) → (Int) → (Int) → (Int) → (Int) → (Int) → (Int) → Option ρ) (c8n12 : (Int) → (Int) → (Int) → (Int) → (Int) → (Int) → (Int) → (Int) → (Int) → (Int) → Option ρ) (x0 : Int) (y0 : Int) (x1 : Int) (y1 : Int) (lx : Int) (ly : Int) (hx : Int) (hy : Int) (x7 : Int) (x8 : Int) : Option ρ :=
  (c5o1 (x0) (y0) (x1) (y1) (lx) (ly) (hx) (hy) (x7) (x8))
def T56_8n10 {ρ : Type} (ret : (Bool) → Option ρ) (c5o0 : (Int) → (Int) → (Int) → (Int) → (Int) → (Int) → (Int) → (Int) → (Int) → (Int) → Option ρ) (c5o1 : (Int) → (Int) → (Int) → (Int) → (Int) → (Int) → (Int) → (Int) → (Int) → (Int) → Option ρ) (c5o2 : (Int) → (Int) → (Int) → (Int) → (Int) → (Int) → (Int) → (Int) → (Int) → (Int) → Option ρ) (c8n00 : (Int) → (Int) → (Int) → (Int) → (Int) → (Int) → (Int) → (Int) → (Int) → (Int) → Option ρ) (c8n01 : (Int) → (Int) → (Int) → (Int) → (Int) → (Int) → (Int) → (Int) → (Int) → (Int) → Option ρ) (c8n02 : (Int) → (Int) → (Int) → (Int) → (Int) → (Int) → (Int) → (Int) → (Int) → (Int) → Option ρ) (c8n10 : (Int) → (Int) → (Int) → (Int) → (Int) → (Int) → (Int) → (Int) → (Int) → (Int) → Option ρ) (c8n11 : (Int) → (Int) → (Int) → (Int) → (Int) → (Int) → (Int) → (Int) → (Int) → (Int) → Option ρ) (c8n12 : (Int) → (Int) → (Int) → (Int) → (Int) → (Int) → (Int) → (Int) → (Int) → (Int) → Option ρ) (x0 : Int) (y0 : Int) (x1 : Int) (y1 : Int) (lx : Int) (ly : Int) (hx : Int) (hy : Int) (x7 : Int) (x8 : Int) : Option ρ :=
  (c8n11 (x0) (y0) (x1) (y1) (lx) (ly) (hx) (hy) (if false = true then if signV (crossW x0 y0 x1 y1 hx ly) > x7 then signV (crossW x0 y0 x1 y1 hx ly) else x7 else if signV (crossW x0 y0 x1 y1 hx ly) < x7 then signV (crossW x0 y0 x1 y1 hx ly) else x7) (if true = true then if signV (crossW x0 y0 x1 y1 hx ly) > x8 then signV (crossW x0 y0 x1 y1 hx ly) else x8 else if signV (crossW x0 y0 x1 y1 hx ly) < x8 then signV (crossW x0 y0 x1 y1 hx ly) else x8))
def T56_8n11 {ρ : Type} (ret : (Bool) → Option ρ) (c5o0 : (Int) → (Int) → (Int) → (Int) → (Int) → (Int) → (Int) → (Int) → (Int) → (Int) → Option ρ) (c5o1 : (Int) → (Int) → (Int) → (Int) → (Int) → (Int) → (Int) → (Int) → (Int) → (Int) → Option ρ) (c5o2 : (Int) → (Int) → (Int) → (Int) → (Int) → (Int) → (Int) → (Int) → (Int) → (Int) → Option ρ) (c8n00 : (Int) → (Int) → (Int) → (Int) → (Int) → (Int) → (Int) → (Int) → (Int) → (Int) → Option ρ) (c8n01 : (Int) → (Int) → (Int) → (Int) → (Int) → (Int) → (Int) → (Int) → (Int) → (Int) → Option ρ) (c8n02 : (Int) → (Int) → (Int) → (Int) → (Int) → (Int) → (Int) → (Int) → (Int) → (Int) → Option ρ) (c8n10 : (Int) → (Int) → (Int) → (Int) → (Int) → (Int) → (Int) → (Int) → (Int) → (Int) → Option ρ) (c8n11 : (Int) → (Int) → (Int) → (Int) → (Int) → (Int) → (Int) → (Int) → (Int) → (Int) → Option ρ) (c8n12 : (Int) → (Int) → (Int) → (Int) → (Int) → (Int) → (Int) → (Int) → (Int) → (Int) → Option ρ) (x0 : Int) (y0 : Int) (x1 : Int) (y1 : Int) (lx : Int) (ly : Int) (hx : Int) (hy : Int) (x7 : Int) (x8 : Int) : Option ρ :=
  (c8n12 (x0) (y0) (x1) (y1) (lx) (ly) (hx) (hy) (if false = true then if signV (crossW x0 y0 x1 y1 hx hy) > x7 then signV (crossW x0 y0 x1 y1 hx hy) else x7 else if signV (crossW x0 y0 x1 y1 hx hy) < x7 then signV (crossW x0 y0 x1 y1 hx hy) else x7) (if true = true then if signV (crossW x0 y0 x1 y1 hx hy) > x8 then signV (crossW x0 y0 x1 y1 hx hy) else x8 else if signV (crossW x0 y0 x1 y1 hx hy) < x8 then signV (crossW x0 y0 x1 y1 hx hy) else x8))
def T56_8n12 {ρ : Type} (ret : (Bool) → Option ρ) (c5o0 : (Int) → (Int) → (Int) → (Int) → (Int) → (Int) → (Int) → (Int) → (Int) → (Int) → Option ρ) (c5o1 : (Int) → (Int) → (Int) → (Int) → (Int) → (Int) → (Int) → (Int) → (Int) → (Int) → Option ρ) (c5o2 : (Int) → (Int) → (Int) → (Int) → (Int) → (Int) → (Int) → (Int) → (Int) → (Int) → Option ρ) (c8n00 : (Int) → (Int) → (Int) → (Int) → (Int) → (Int) → (Int) → (Int) → (Int) → (Int) → Option ρ) (c8n01 : (Int) → (Int) → (Int) → (Int) → (Int) → (Int) → (Int) → (Int) → (Int) → (Int) → Option ρ) (c8n02 : (Int) → (Int) → (Int) → (Int) → (Int) → (Int) → (Int) → (Int) → (Int) → (Int) → Option ρ) (c8n10 : (Int) → (Int) → (Int) → (Int) → (Int) → (Int) → (Int) → (Int) → (Int) → (Int) → Option ρ) (c8n11 : (Int) → (Int) → (Int) → (Int) → (Int) → (Int) → (Int) → (Int) → (Int) → (Int) → Option ρ) (c8n12 : (Int) → (Int) → (Int) → (Int) → (Int) → (Int) → (Int) → (Int) → (Int) → (Int) → Option ρ) (x0 : Int) (y0 : Int) (x1 : Int) (y1 : Int) (lx : Int) (ly : Int) (hx : Int) (hy : Int) (x7 : Int) (x8 : Int) : Option ρ :=
  (c5o2 (x0) (y0) (x1) (y1) (lx) (ly) (hx) (hy) (x7) (x8))
mutual
def L56_5o0 : Nat → (Int) → (Int) → (Int) → (Int) → (Int) → (Int) → (Int) → (Int) → (Int) → (Int) → Option (Bool)
  | 0, _, _, _, _, _, _, _, _, _, _ => none
  | k + 1, x0, y0, x1, y1, lx, ly, hx, hy, x7, x8 => T56_5o0 some (L56_5o0 k) (L56_5o1 k) (L56_5o2 k) (L56_8n00 k) (L56_8n01 k) (L56_8n02 k) (L56_8n10 k) (L56_8n11 k) (L56_8n12 k) x0 y0 x1 y1 lx ly hx hy x7 x8
def L56_5o1 : Nat → (Int) → (Int) → (Int) → (Int) → (Int) → (Int) → (Int) → (Int) → (Int) → (Int) → Option (Bool)
  | 0, _, _, _, _, _, _, _, _, _, _ => none
  | k + 1, x0, y0, x1, y1, lx, ly, hx, hy, x7, x8 => T56_5o1 some (L56_5o0 k) (L56_5o1 k) (L56_5o2 k) (L56_8n00 k) (L56_8n01 k) (L56_8n02 k) (L56_8n10 k) (L56_8n11 k) (L56_8n12 k) x0 y0 x1 y1 lx ly hx hy x7 x8
def L56_5o2 : Nat → (Int) → (Int) → (Int) → (Int) → (Int) → (Int) → (Int) → (Int) → (Int) → (Int) → Option (Bool)
  | 0, _, _, _, _, _, _, _, _, _, _ => none
  | k + 1, x0, y0, x1, y1, lx, ly, hx, hy, x7, x8 => T56_5o2 some (L56_5o0 k) (L56_5o1 k) (L56_5o2 k) (L56_8n00 k) (L56_8n01 k) (L56_8n02 k) (L56_8n10 k) (L56_8n11 k) (L56_8n12 k) x0 y0 x1 y1 lx ly hx hy x7 x8
def L56_8n00 : Nat → (Int) → (Int) → (Int) → (Int) → (Int) → (Int) → (Int) → (Int) → (Int) → (Int) → Option (Bool)
  | 0, _, _, _, _, _, _, _, _, _, _ => none
  | k + 1, x0, y0, x1, y1, lx, ly, hx, hy, x7, x8 => T56_8n00 some (L56_5o0 k) (L56_5o1 k) (L56_5o2 k) (L56_8n00 k) (L56_8n01 k) (L56_8n02 k) (L56_8n10 k) (L56_8n11 k) (L56_8n12 k) x0 y0 x1 y1 lx ly hx hy x7 x8
def L56_8n01 : Nat → (Int) → (Int) → (Int) → (Int) → (Int) → (Int) → (Int) → (Int) → (Int) → (Int) → Option (Bool)
  | 0, _, _, _, _, _, _, _, _, _, _ => none
  | k + 1, x0, y0, x1, y1, lx, ly, hx, hy, x7, x8 => T56_8n01 some (L56_5o0 k) (L56_5o1 k) (L56_5o2 k) (L56_8n00 k) (L56_8n01 k) (L56_8n02 k) (L56_8n10 k) (L56_8n11 k) (L56_8n12 k) x0 y0 x1 y1 lx ly hx hy x7 x8
def L56_8n02 : Nat → (Int) → (Int) → (Int) → (Int) → (Int) → (Int) → (Int) → (Int) → (Int) → (Int) → Option (Bool)
  | 0, _, _, _, _, _, _, _, _, _, _ => none
  | k + 1, x0, y0, x1, y1, lx, ly, hx, hy, x7, x8 => T56_8n02 some (L56_5o0 k) (L56_5o1 k) (L56_5o2 k) (L56_8n00 k) (L56_8n01 k) (L56_8n02 k) (L56_8n10 k) (L56_8n11 k) (L56_8n12 k) x0 y0 x1 y1 lx ly hx hy x7 x8
def L56_8n10 : Nat → (Int) → (Int) → (Int) → (Int) → (Int) → (Int) → (Int) → (Int) → (Int) → (Int) → Option (Bool)
  | 0, _, _, _, _, _, _, _, _, _, _ => none
  | k + 1, x0, y0, x1, y1, lx, ly, hx, hy, x7, x8 => T56_8n10 some (L56_5o0 k) (L56_5o1 k) (L56_5o2 k) (L56_8n00 k) (L56_8n01 k) (L56_8n02 k) (L56_8n10 k) (L56_8n11 k) (L56_8n12 k) x0 y0 x1 y1 lx ly hx hy x7 x8
def L56_8n11 : Nat → (Int) → (Int) → (Int) → (Int) → (Int) → (Int) → (Int) → (Int) → (Int) → (Int) → Option (Bool)
  | 0, _, _, _, _, _, _, _, _, _, _ => none
  | k + 1, x0, y0, x1, y1, lx, ly, hx, hy, x7, x8 => T56_8n11 some (L56_5o0 k) (L56_5o1 k) (L56_5o2 k) (L56_8n00 k) (L56_8n01 k) (L56_8n02 k) (L56_8n10 k) (L56_8n11 k) (L56_8n12 k) x0 y0 x1 y1 lx ly hx hy x7 x8
def L56_8n12 : Nat → (Int) → (Int) → (Int) → (Int) → (Int) → (Int) → (Int) → (Int) → (Int) → (Int) → Option (Bool)
  | 0, _, _, _, _, _, _, _, _, _, _ => none
  | k + 1, x0, y0, x1, y1, lx, ly, hx, hy, x7, x8 => T56_8n12 some (L56_5o0 k) (L56_5o1 k) (L56_5o2 k) (L56_8n00 k) (L56_8n01 k) (L56_8n02 k) (L56_8n10 k) (L56_8n11 k) (L56_8n12 k) x0 y0 x1 y1 lx ly hx hy x7 x8
end
def T56 {ρ : Type} (ret : (Bool) → Option ρ) (c5o0 : (Int) → (Int) → (Int) → (Int) → (Int) → (Int) → (Int) → (Int) → (Int) → (Int) → Option ρ) (c5o1 : (Int) → (Int) → (Int) → (Int) → (Int) → (Int) → (Int) → (Int) → (Int) → (Int) → Option ρ) (c5o2 : (Int) → (Int) → (Int) → (Int) → (Int) → (Int) → (Int) → (Int) → (Int) → (Int) → Option ρ) (c8n00 : (Int) → (Int) → (Int) → (Int) → (Int) → (Int) → (Int) → (Int) → (Int) → (Int) → Option ρ) (c8n01 : (Int) → (Int) → (Int) → (Int) → (Int) → (Int) → (Int) → (Int) → (Int) → (Int) → Option ρ) (c8n02 : (Int) → (Int) → (Int) → (Int) → (Int) → (Int) → (Int) → (Int) → (Int) → (Int) → Option ρ) (c8n10 : (Int) → (Int) → (Int) → (Int) → (Int) → (Int) → (Int) → (Int) → (Int) → (Int) → Option ρ) (c8n11 : (Int) → (Int) → (Int) → (Int) → (Int) → (Int) → (Int) → (Int) → (Int) → (Int) → Option ρ) (c8n12 : (Int) → (Int) → (Int) → (Int) → (Int) → (Int) → (Int) → (Int) → (Int) → (Int) → Option ρ) (x0 : Int) (y0 : Int) (x1 : Int) (y1 : Int) (lx : Int) (ly : Int) (hx : Int) (hy : Int) : Option ρ :=
  (bsel (decide (x1 < lx) == false)
   (bsel (decide (x0 > hx) == false)
    (bsel (decide ((if true = true then if y1 > y0 then y1 else y0 else if y1 < y0 then y1 else y0) < ly) == false)
     (bsel (decide ((if false = true then if y1 > y0 then y1 else y0 else if y1 < y0 then y1 else y0) > hy))
      (ret (false))
      (c5o0 (x0) (y0) (x1) (y1) (lx) (ly) (hx) (hy) (1) (-1)))
     (ret (false)))
    (ret (false)))
   (ret (false)))
def G56 (k : Nat) (x0 : Int) (y0 : Int) (x1 : Int) (y1 : Int) (lx : Int) (ly : Int) (hx : Int) (hy : Int) : Option (Bool) := T56 some (L56_5o0 k) (L56_5o1 k) (L56_5o2 k) (L56_8n00 k) (L56_8n01 k) (L56_8n02 k) (L56_8n10 k) (L56_8n11 k) (L56_8n12 k) x0 y0 x1 y1 lx ly hx hy
mutual
theorem t56_5o0 : ∀ (k : Nat) (x0 : Int) (y0 : Int) (x1 : Int) (y1 : Int) (lx : Int) (ly : Int) (hx : Int) (hy : Int) (x7 : Int) (x8 : Int) (r : Bool), L56_5o0 k x0 y0 x1 y1 lx ly hx hy x7 x8 = some r → Ends Try.prog Try.f56.results.toList (at_ Try.f56 5) (S56_5o0 x0 y0 x1 y1 lx ly hx hy x7 x8) (F.bool r)
  | 0, _, _, _, _, _, _, _, _, _, _, _, h => nomatch h
  | k + 1, x0, y0, x1, y1, lx, ly, hx, hy, x7, x8, r, h => by
    refine Ends.of_cut tyOK envW2_ok (T := [(5, [3, 4, 5, 7, 8, 56, 57, 58], 4), (8, [3, 4, 5, 7, 8, 10, 56, 57, 58, 66, 67, 68], 5)]) (n := 600) ?_
    have e : runCut Try.prog (tiOf Try.prog) envW2 [(5, [3, 4, 5, 7, 8, 56, 57, 58], 4), (8, [3, 4, 5, 7, 8, 10, 56, 57, 58, 66, 67, 68], 5)] 0 Try.f56.results.toList some 600 (at_ Try.f56 5) (S56_5o0 x0 y0 x1 y1 lx ly hx hy x7 x8) = T56_5o0 (fun r => some (.ret (F.bool r))) (fun x0 y0 x1 y1 lx ly hx hy x7 x8 => some (.cut (at_ Try.f56 5) (S56_5o0 x0 y0 x1 y1 lx ly hx hy x7 x8))) (fun x0 y0 x1 y1 lx ly hx hy x7 x8 => some (.cut (at_ Try.f56 5) (S56_5o1 x0 y0 x1 y1 lx ly hx hy x7 x8))) (fun x0 y0 x1 y1 lx ly hx hy x7 x8 => some (.cut (at_ Try.f56 5) (S56_5o2 x0 y0 x1 y1 lx ly hx hy x7 x8))) (fun x0 y0 x1 y1 lx ly hx hy x7 x8 => some (.cut (at_ Try.f56 8) (S56_8n00 x0 y0 x1 y1 lx ly hx hy x7 x8))) (fun x0 y0 x1 y1 lx ly hx hy x7 x8 => some (.cut (at_ Try.f56 8) (S56_8n01 x0 y0 x1 y1 lx ly hx hy x7 x8))) (fun x0 y0 x1 y1 lx ly hx hy x7 x8 => some (.cut (at_ Try.f56 8) (S56_8n02 x0 y0 x1 y1 lx ly hx hy x7 x8))) (fun x0 y0 x1 y1 lx ly hx hy x7 x8 => some (.cut (at_ Try.f56 8) (S56_8n10 x0 y0 x1 y1 lx ly hx hy x7 x8))) (fun x0 y0 x1 y1 lx ly hx hy x7 x8 => some (.cut (at_ Try.f56 8) (S56_8n11 x0 y0 x1 y1 lx ly hx hy x7 x8))) (fun x0 y0 x1 y1 lx ly hx hy x7 x8 => some (.cut (at_ Try.f56 8) (S56_8n12 x0 y0 x1 y1 lx ly hx hy x7 x8))) x0 y0 x1 y1 lx ly hx hy x7 x8 := by kernel_rfl
    rw [e]
    exact good_cut (t56_8n00 k _ _ _ _ _ _ _ _ _ _ r h)
theorem t56_5o1 : ∀ (k : Nat) (x0 : Int) (y0 : Int) (x1 : Int) (y1 : Int) (lx : Int) (ly : Int) (hx : Int) (hy : Int) (x7 : Int) (x8 : Int) (r : Bool), L56_5o1 k x0 y0 x1 y1 lx ly hx hy x7 x8 = some r → Ends Try.prog Try.f56.results.toList (at_ Try.f56 5) (S56_5o1 x0 y0 x1 y1 lx ly hx hy x7 x8) (F.bool r)
  | 0, _, _, _, _, _, _, _, _, _, _, _, h => nomatch h
  | k + 1, x0, y0, x1, y1, lx, ly, hx, hy, x7, x8, r, h => by
    refine Ends.of_cut tyOK envW2_ok (T := [(5, [3, 4, 5, 7, 8, 56, 57, 58], 4), (8, [3, 4, 5, 7, 8, 10, 56, 57, 58, 66, 67, 68], 5)]) (n := 600) ?_
    have e : runCut Try.prog (tiOf Try.prog) envW2 [(5, [3, 4, 5, 7, 8, 56, 57, 58], 4), (8, [3, 4, 5, 7, 8, 10, 56, 57, 58, 66, 67, 68], 5)] 0 Try.f56.results.toList some 600 (at_ Try.f56 5) (S56_5o1 x0 y0 x1 y1 lx ly hx hy x7 x8) = T56_5o1 (fun r => some (.ret (F.bool r))) (fun x0 y0 x1 y1 lx ly hx hy x7 x8 => some (.cut (at_ Try.f56 5) (S56_5o0 x0 y0 x1 y1 lx ly hx hy x7 x8))) (fun x0 y0 x1 y1 lx ly hx hy x7 x8 => some (.cut (at_ Try.f56 5) (S56_5o1 x0 y0 x1 y1 lx ly hx hy x7 x8))) (fun x0 y0 x1 y1 lx ly hx hy x7 x8 => some (.cut (at_ Try.f56 5) (S56_5o2 x0 y0 x1 y1 lx ly hx hy x7 x8))) (fun x0 y0 x1 y1 lx ly hx hy x7 x8 => some (.cut (at_ Try.f56 8) (S56_8n00 x0 y0 x1 y1 lx ly hx hy x7 x8))) (fun x0 y0 x1 y1 lx ly hx hy x7 x8 => some (.cut (at_ Try.f56 8) (S56_8n01 x0 y0 x1 y1 lx ly hx hy x7 x8))) (fun x0 y0 x1 y1 lx ly hx hy x7 x8 => some (.cut (at_ Try.f56 8) (S56_8n02 x0 y0 x1 y1 lx ly hx hy x7 x8))) (fun x0 y0 x1 y1 lx ly hx hy x7 x8 => some (.cut (at_ Try.f56 8) (S56_8n10 x0 y0 x1 y1 lx ly hx hy x7 x8))) (fun x0 y0 x1 y1 lx ly hx hy x7 x8 => some (.cut (at_ Try.f56 8) (S56_8n11 x0 y0 x1 y1 lx ly hx hy x7 x8))) (fun x0 y0 x1 y1 lx ly hx hy x7 x8 => some (.cut (at_ Try.f56 8) (S56_8n12 x0 y0 x1 y1 lx ly hx hy x7 x8))) x0 y0 x1 y1 lx ly hx hy x7 x8 := by kernel_rfl
    rw [e]
    exact good_cut (t56_8n10 k _ _ _ _ _ _ _ _ _ _ r h)
theorem t56_5o2 : ∀ (k : Nat) (x0 : Int) (y0 : Int) (x1 : Int) (y1 : Int) (lx : Int) (ly : Int) (hx : Int) (hy : Int) (x7 : Int) (x8 : Int) (r : Bool), L56_5o2 k x0 y0 x1 y1 lx ly hx hy x7 x8 = some r → Ends Try.prog Try.f56.results.toList (at_ Try.f56 5) (S56_5o2 x0 y0 x1 y1 lx ly hx hy x7 x8) (F.bool r)
  | 0, _, _, _, _, _, _, _, _, _, _, _, h => nomatch h
  | k + 1, x0, y0, x1, y1, lx, ly, hx, hy, x7, x8, r, h => by
    refine Ends.of_cut tyOK envW2_ok (T := [(5, [3, 4, 5, 7, 8, 56, 57, 58], 4), (8, [3, 4, 5, 7, 8, 10, 56, 57, 58, 66, 67, 68], 5)]) (n := 600) ?_
    have e : runCut Try.prog (tiOf Try.prog) envW2 [(5, [3, 4, 5, 7, 8, 56, 57, 58], 4), (8, [3, 4, 5, 7, 8, 10, 56, 57, 58, 66, 67, 68], 5)] 0 Try.f56.results.toList some 600 (at_ Try.f56 5) (S56_5o2 x0 y0 x1 y1 lx ly hx hy x7 x8) = T56_5o2 (fun r => some (.ret (F.bool r))) (fun x0 y0 x1 y1 lx ly hx hy x7 x8 => some (.cut (at_ Try.f56 5) (S56_5o0 x0 y0 x1 y1 lx ly hx hy x7 x8))) (fun x0 y0 x1 y1 lx ly hx hy x7 x8 => some (.cut (at_ Try.f56 5) (S56_5o1 x0 y0 x1 y1 lx ly hx hy x7 x8))) (fun x0 y0 x1 y1 lx ly hx hy x7 x8 => some (.cut (at_ Try.f56 5) (S56_5o2 x0 y0 x1 y1 lx ly hx hy x7 x8))) (fun x0 y0 x1 y1 lx ly hx hy x7 x8 => some (.cut (at_ Try.f56 8) (S56_8n00 x0 y0 x1 y1 lx ly hx hy x7 x8))) (fun x0 y0 x1 y1 lx ly hx hy x7 x8 => some (.cut (at_ Try.f56 8) (S56_8n01 x0 y0 x1 y1 lx ly hx hy x7 x8))) (fun x0 y0 x1 y1 lx ly hx hy x7 x8 => some (.cut (at_ Try.f56 8) (S56_8n02 x0 y0 x1 y1 lx ly hx hy x7 x8))) (fun x0 y0 x1 y1 lx ly hx hy x7 x8 => some (.cut (at_ Try.f56 8) (S56_8n10 x0 y0 x1 y1 lx ly hx hy x7 x8))) (fun x0 y0 x1 y1 lx ly hx hy x7 x8 => some (.cut (at_ Try.f56 8) (S56_8n11 x0 y0 x1 y1 lx ly hx hy x7 x8))) (fun x0 y0 x1 y1 lx ly hx hy x7 x8 => some (.cut (at_ Try.f56 8) (S56_8n12 x0 y0 x1 y1 lx ly hx hy x7 x8))) x0 y0 x1 y1 lx ly hx hy x7 x8 := by kernel_rfl
    rw [e]
    exact (good_sel h (fun _ h => good_ret (by cases h; rfl)) (fun _ h => good_ret (by cases h; rfl)))
theorem t56_8n00 : ∀ (k : Nat) (x0 : Int) (y0 : Int) (x1 : Int) (y1 : Int) (lx : Int) (ly : Int) (hx : Int) (hy : Int) (x7 : Int) (x8 : Int) (r : Bool), L56_8n00 k x0 y0 x1 y1 lx ly hx hy x7 x8 = some r → Ends Try.prog Try.f56.results.toList (at_ Try.f56 8) (S56_8n00 x0 y0 x1 y1 lx ly hx hy x7 x8) (F.bool r)
  | 0, _, _, _, _, _, _, _, _, _, _, _, h => nomatch h
  | k + 1, x0, y0, x1, y1, lx, ly, hx, hy, x7, x8, r, h => by
    refine Ends.of_cut tyOK envW2_ok (T := [(5, [3, 4, 5, 7, 8, 56, 57, 58], 4), (8, [3, 4, 5, 7, 8, 10, 56, 57, 58, 66, 67, 68], 5)]) (n := 600) ?_
    have e : runCut Try.prog (tiOf Try.prog) envW2 [(5, [3, 4, 5, 7, 8, 56, 57, 58], 4), (8, [3, 4, 5, 7, 8, 10, 56, 57, 58, 66, 67, 68], 5)] 0 Try.f56.results.toList some 600 (at_ Try.f56 8) (S56_8n00 x0 y0 x1 y1 lx ly hx hy x7 x8) = T56_8n00 (fun r => some (.ret (F.bool r))) (fun x0 y0 x1 y1 lx ly hx hy x7 x8 => some (.cut (at_ Try.f56 5) (S56_5o0 x0 y0 x1 y1 lx ly hx hy x7 x8))) (fun x0 y0 x1 y1 lx ly hx hy x7 x8 => some (.cut (at_ Try.f56 5) (S56_5o1 x0 y0 x1 y1 lx ly hx hy x7 x8))) (fun x0 y0 x1 y1 lx ly hx hy x7 x8 => some (.cut (at_ Try.f56 5) (S56_5o2 x0 y0 x1 y1 lx ly hx hy x7 x8))) (fun x0 y0 x1 y1 lx ly hx hy x7 x8 => some (.cut (at_ Try.f56 8) (S56_8n00 x0 y0 x1 y1 lx ly hx hy x7 x8))) (fun x0 y0 x1 y1 lx ly hx hy x7 x8 => some (.cut (at_ Try.f56 8) (S56_8n01 x0 y0 x1 y1 lx ly hx hy x7 x8))) (fun x0 y0 x1 y1 lx ly hx hy x7 x8 => some (.cut (at_ Try.f56 8) (S56_8n02 x0 y0 x1 y1 lx ly hx hy x7 x8))) (fun x0 y0 x1 y1 lx ly hx hy x7 x8 => some (.cut (at_ Try.f56 8) (S56_8n10 x0 y0 x1 y1 lx ly hx hy x7 x8))) (fun x0 y0 x1 y1 lx ly hx hy x7 x8 => some (.cut (at_ Try.f56 8) (S56_8n11 x0 y0 x1 y1 lx ly hx hy x7 x8))) (fun x0 y0 x1 y1 lx ly hx hy x7 x8 => some (.cut (at_ Try.f56 8) (S56_8n12 x0 y0 x1 y1 lx ly hx hy x7 x8))) x0 y0 x1 y1 lx ly hx hy x7 x8 := by kernel_rfl
    rw [e]
    exact good_cut (t56_8n01 k _ _ _ _ _ _ _ _ _ _ r h)
theorem t56_8n01 : ∀ (k : Nat) (x0 : Int) (y0 : Int) (x1 : Int) (y1 : Int) (lx : Int) (ly : Int) (hx : Int) (hy : Int) (x7 : Int) (x8 : Int) (r : Bool), L56_8n01 k x0 y0 x1 y1 lx ly hx hy x7 x8 = some r → Ends Try.prog Try.f56.results.toList (at_ Try.f56 8) (S56_8n01 x0 y0 x1 y1 lx ly hx hy x7 x8) (F.bool r)
  | 0, _, _, _, _, _, _, _, _, _, _, _, h => nomatch h
  | k + 1, x0, y0, x1, y1, lx, ly, hx, hy, x7, x8, r, h => by
    refine Ends.of_cut tyOK envW2_ok (T := [(5, [3, 4, 5, 7, 8, 56, 57, 58], 4), (8, [3, 4, 5, 7, 8, 10, 56, 57, 58, 66, 67, 68], 5)]) (n := 600) ?_
    have e : runCut Try.prog (tiOf Try.prog) envW2 [(5, [3, 4, 5, 7, 8, 56, 57, 58], 4), (8, [3, 4, 5, 7, 8, 10, 56, 57, 58, 66, 67, 68], 5)] 0 Try.f56.results.toList some 600 (at_ Try.f56 8) (S56_8n01 x0 y0 x1 y1 lx ly hx hy x7 x8) = T56_8n01 (fun r => some (.ret (F.bool r))) (fun x0 y0 x1 y1 lx ly hx hy x7 x8 => some (.cut (at_ Try.f56 5) (S56_5o0 x0 y0 x1 y1 lx ly hx hy x7 x8))) (fun x0 y0 x1 y1 lx ly hx hy x7 x8 => some (.cut (at_ Try.f56 5) (S56_5o1 x0 y0 x1 y1 lx ly hx hy x7 x8))) (fun x0 y0 x1 y1 lx ly hx hy x7 x8 => some (.cut (at_ Try.f56 5) (S56_5o2 x0 y0 x1 y1 lx ly hx hy x7 x8))) (fun x0 y0 x1 y1 lx ly hx hy x7 x8 => some (.cut (at_ Try.f56 8) (S56_8n00 x0 y0 x1 y1 lx ly hx hy x7 x8))) (fun x0 y0 x1 y1 lx ly hx hy x7 x8 => some (.cut (at_ Try.f56 8) (S56_8n01 x0 y0 x1 y1 lx ly hx hy x7 x8))) (fun x0 y0 x1 y1 lx ly hx hy x7 x8 => some (.cut (at_ Try.f56 8) (S56_8n02 x0 y0 x1 y1 lx ly hx hy x7 x8))) (fun x0 y0 x1 y1 lx ly hx hy x7 x8 => some (.cut (at_ Try.f56 8) (S56_8n10 x0 y0 x1 y1 lx ly hx hy x7 x8))) (fun x0 y0 x1 y1 lx ly hx hy x7 x8 => some (.cut (at_ Try.f56 8) (S56_8n11 x0 y0 x1 y1 lx ly hx hy x7 x8))) (fun x0 y0 x1 y1 lx ly hx hy x7 x8 => some (.cut (at_ Try.f56 8) (S56_8n12 x0 y0 x1 y1 lx ly hx hy x7 x8))) x0 y0 x1 y1 lx ly hx hy x7 x8 := by kernel_rfl
    rw [e]
    exact good_cut (t56_8n02 k _ _ _ _ _ _ _ _ _ _ r h)
theorem t56_8n02 : ∀ (k : Nat) (x0 : Int) (y0 : Int) (x1 : Int) (y1 : Int) (lx : Int) (ly : Int) (hx : Int) (hy : Int) (x7 : Int) (x8 : Int) (r : Bool), L56_8n02 k x0 y0 x1 y1 lx ly hx hy x7 x8 = some r → Ends Try.prog Try.f56.results.toList (at_ Try.f56 8) (S56_8n02 x0 y0 x1 y1 lx ly hx hy x7 x8) (F.bool r)
  | 0, _, _, _, _, _, _, _, _, _, _, _, h => nomatch h
  | k + 1, x0, y0, x1, y1, lx, ly, hx, hy, x7, x8, r, h => by
    refine Ends.of_cut tyOK envW2_ok (T := [(5, [3, 4, 5, 7, 8, 56, 57, 58], 4), (8, [3, 4, 5, 7, 8, 10, 56, 57, 58, 66, 67, 68], 5)]) (n := 600) ?_
    have e : runCut Try.prog (tiOf Try.prog) envW2 [(5, [3, 4, 5, 7, 8, 56, 57, 58], 4), (8, [3, 4, 5, 7, 8, 10, 56, 57, 58, 66, 67, 68], 5)] 0 Try.f56.results.toList some 600 (at_ Try.f56 8) (S56_8n02 x0 y0 x1 y1 lx ly hx hy x7 x8) = T56_8n02 (fun r => some (.ret (F.bool r))) (fun x0 y0 x1 y1 lx ly hx hy x7 x8 => some (.cut (at_ Try.f56 5) (S56_5o0 x0 y0 x1 y1 lx ly hx hy x7 x8))) (fun x0 y0 x1 y1 lx ly hx hy x7 x8 => some (.cut (at_ Try.f56 5) (S56_5o1 x0 y0 x1 y1 lx ly hx hy x7 x8))) (fun x0 y0 x1 y1 lx ly hx hy x7 x8 => some (.cut (at_ Try.f56 5) (S56_5o2 x0 y0 x1 y1 lx ly hx hy x7 x8))) (fun x0 y0 x1 y1 lx ly hx hy x7 x8 => some (.cut (at_ Try.f56 8) (S56_8n00 x0 y0 x1 y1 lx ly hx hy x7 x8))) (fun x0 y0 x1 y1 lx ly hx hy x7 x8 => some (.cut (at_ Try.f56 8) (S56_8n01 x0 y0 x1 y1 lx ly hx hy x7 x8))) (fun x0 y0 x1 y1 lx ly hx hy x7 x8 => some (.cut (at_ Try.f56 8) (S56_8n02 x0 y0 x1 y1 lx ly hx hy x7 x8))) (fun x0 y0 x1 y1 lx ly hx hy x7 x8 => some (.cut (at_ Try.f56 8) (S56_8n10 x0 y0 x1 y1 lx ly hx hy x7 x8))) (fun x0 y0 x1 y1 lx ly hx hy x7 x8 => some (.cut (at_ Try.f56 8) (S56_8n11 x0 y0 x1 y1 lx ly hx hy x7 x8))) (fun x0 y0 x1 y1 lx ly hx hy x7 x8 => some (.cut (at_ Try.f56 8) (S56_8n12 x0 y0 x1 y1 lx ly hx hy x7 x8))) x0 y0 x1 y1 lx ly hx hy x7 x8 := by kernel_rfl
    rw [e]
    exact good_cut (t56_5o1 k _ _ _ _ _ _ _ _ _ _ r h)
theorem t56_8n10 : ∀ (k : Nat) (x0 : Int) (y0 : Int) (x1 : Int) (y1 : Int) (lx : Int) (ly : Int) (hx : Int) (hy : Int) (x7 : Int) (x8 : Int) (r : Bool), L56_8n10 k x0 y0 x1 y1 lx ly hx hy x7 x8 = some r → Ends Try.prog Try.f56.results.toList (at_ Try.f56 8) (S56_8n10 x0 y0 x1 y1 lx ly hx hy x7 x8) (F.bool r)
  | 0, _, _, _, _, _, _, _, _, _, _, _, h => nomatch h
  | k + 1, x0, y0, x1, y1, lx, ly, hx, hy, x7, x8, r, h => by
    refine Ends.of_cut tyOK envW2_ok (T := [(5, [3, 4, 5, 7, 8, 56, 57, 58], 4), (8, [3, 4, 5, 7, 8, 10, 56, 57, 58, 66, 67, 68], 5)]) (n := 600) ?_
    have e : runCut Try.prog (tiOf Try.prog) envW2 [(5, [3, 4, 5, 7, 8, 56, 57, 58], 4), (8, [3, 4, 5, 7, 8, 10, 56, 57, 58, 66, 67, 68], 5)] 0 Try.f56.results.toList some 600 (at_ Try.f56 8) (S56_8n10 x0 y0 x1 y1 lx ly hx hy x7 x8) = T56_8n10 (fun r => some (.ret (F.bool r))) (fun x0 y0 x1 y1 lx ly hx hy x7 x8 => some (.cut (at_ Try.f56 5) (S56_5o0 x0 y0 x1 y1 lx ly hx hy x7 x8))) (fun x0 y0 x1 y1 lx ly hx hy x7 x8 => some (.cut (at_ Try.f56 5) (S56_5o1 x0 y0 x1 y1 lx ly hx hy x7 x8))) (fun x0 y0 x1 y1 lx ly hx hy x7 x8 => some (.cut (at_ Try.f56 5) (S56_5o2 x0 y0 x1 y1 lx ly hx hy x7 x8))) (fun x0 y0 x1 y1 lx ly hx hy x7 x8 => some (.cut (at_ Try.f56 8) (S56_8n00 x0 y0 x1 y1 lx ly hx hy x7 x8))) (fun x0 y0 x1 y1 lx ly hx hy x7 x8 => some (.cut (at_ Try.f56 8) (S56_8n01 x0 y0 x1 y1 lx ly hx hy x7 x8))) (fun x0 y0 x1 y1 lx ly hx hy x7 x8 => some (.cut (at_ Try.f56 8) (S56_8n02 x0 y0 x1 y1 lx ly hx hy x7 x8))) (fun x0 y0 x1 y1 lx ly hx hy x7 x8 => some (.cut (at_ Try.f56 8) (S56_8n10 x0 y0 x1 y1 lx ly hx hy x7 x8))) (fun x0 y0 x1 y1 lx ly hx hy x7 x8 => some (.cut (at_ Try.f56 8) (S56_8n11 x0 y0 x1 y1 lx ly hx hy x7 x8))) (fun x0 y0 x1 y1 lx ly hx hy x7 x8 => some (.cut (at_ Try.f56 8) (S56_8n12 x0 y0 x1 y1 lx ly hx hy x7 x8))) x0 y0 x1 y1 lx ly hx hy x7 x8 := by kernel_rfl
    rw [e]
    exact good_cut (t56_8n11 k _ _ _ _ _ _ _ _ _ _ r h)
theorem t56_8n11 : ∀ (k : Nat) (x0 : Int) (y0 : Int) (x1 : Int) (y1 : Int) (lx : Int) (ly : Int) (hx : Int) (hy : Int) (x7 : Int) (x8 : Int) (r : Bool), L56_8n11 k x0 y0 x1 y1 lx ly hx hy x7 x8 = some r → Ends Try.prog Try.f56.results.toList (at_ Try.f56 8) (S56_8n11 x0 y0 x1 y1 lx ly hx hy x7 x8) (F.bool r)
  | 0, _, _, _, _, _, _, _, _, _, _, _, h => nomatch h
  | k + 1, x0, y0, x1, y1, lx, ly, hx, hy, x7, x8, r, h => by
    refine Ends.of_cut tyOK envW2_ok (T := [(5, [3, 4, 5, 7, 8, 56, 57, 58], 4), (8, [3, 4, 5, 7, 8, 10, 56, 57, 58, 66, 67, 68], 5)]) (n := 600) ?_
    have e : runCut Try.prog (tiOf Try.prog) envW2 [(5, [3, 4, 5, 7, 8, 56, 57, 58], 4), (8, [3, 4, 5, 7, 8, 10, 56, 57, 58, 66, 67, 68], 5)] 0 Try.f56.results.toList some 600 (at_ Try.f56 8) (S56_8n11 x0 y0 x1 y1 lx ly hx hy x7 x8) = T56_8n11 (fun r => some (.ret (F.bool r))) (fun x0 y0 x1 y1 lx ly hx hy x7 x8 => some (.cut (at_ Try.f56 5) (S56_5o0 x0 y0 x1 y1 lx ly hx hy x7 x8))) (fun x0 y0 x1 y1 lx ly hx hy x7 x8 => some (.cut (at_ Try.f56 5) (S56_5o1 x0 y0 x1 y1 lx ly hx hy x7 x8))) (fun x0 y0 x1 y1 lx ly hx hy x7 x8 => some (.cut (at_ Try.f56 5) (S56_5o2 x0 y0 x1 y1 lx ly hx hy x7 x8))) (fun x0 y0 x1 y1 lx ly hx hy x7 x8 => some (.cut (at_ Try.f56 8) (S56_8n00 x0 y0 x1 y1 lx ly hx hy x7 x8))) (fun x0 y0 x1 y1 lx ly hx hy x7 x8 => some (.cut (at_ Try.f56 8) (S56_8n01 x0 y0 x1 y1 lx ly hx hy x7 x8))) (fun x0 y0 x1 y1 lx ly hx hy x7 x8 => some (.cut (at_ Try.f56 8) (S56_8n02 x0 y0 x1 y1 lx ly hx hy x7 x8))) (fun x0 y0 x1 y1 lx ly hx hy x7 x8 => some (.cut (at_ Try.f56 8) (S56_8n10 x0 y0 x1 y1 lx ly hx hy x7 x8))) (fun x0 y0 x1 y1 lx ly hx hy x7 x8 => some (.cut (at_ Try.f56 8) (S56_8n11 x0 y0 x1 y1 lx ly hx hy x7 x8))) (fun x0 y0 x1 y1 lx ly hx hy x7 x8 => some (.cut (at_ Try.f56 8) (S56_8n12 x0 y0 x1 y1 lx ly hx hy x7 x8))) x0 y0 x1 y1 lx ly hx hy x7 x8 := by kernel_rfl
    rw [e]
    exact good_cut (t56_8n12 k _ _ _ _ _ _ _ _ _ _ r h)
theorem t56_8n12 : ∀ (k : Nat) (x0 : Int) (y0 : Int) (x1 : Int) (y1 : Int) (lx : Int) (ly : Int) (hx : Int) (hy : Int) (x7 : Int) (x8 : Int) (r : Bool), L56_8n12 k x0 y0 x1 y1 lx ly hx hy x7 x8 = some r → Ends Try.prog Try.f56.results.toList (at_ Try.f56 8) (S56_8n12 x0 y0 x1 y1 lx ly hx hy x7 x8) (F.bool r)
  | 0, _, _, _, _, _, _, _, _, _, _, _, h => nomatch h
  | k + 1, x0, y0, x1, y1, lx, ly, hx, hy, x7, x8, r, h => by
    refine Ends.of_cut tyOK envW2_ok (T := [(5, [3, 4, 5, 7, 8, 56, 57, 58], 4), (8, [3, 4, 5, 7, 8, 10, 56, 57, 58, 66, 67, 68], 5)]) (n := 600) ?_
    have e : runCut Try.prog (tiOf Try.prog) envW2 [(5, [3, 4, 5, 7, 8, 56, 57, 58], 4), (8, [3, 4, 5, 7, 8, 10, 56, 57, 58, 66, 67, 68], 5)] 0 Try.f56.results.toList some 600 (at_ Try.f56 8) (S56_8n12 x0 y0 x1 y1 lx ly hx hy x7 x8) = T56_8n12 (fun r => some (.ret (F.bool r))) (fun x0 y0 x1 y1 lx ly hx hy x7 x8 => some (.cut (at_ Try.f56 5) (S56_5o0 x0 y0 x1 y1 lx ly hx hy x7 x8))) (fun x0 y0 x1 y1 lx ly hx hy x7 x8 => some (.cut (at_ Try.f56 5) (S56_5o1 x0 y0 x1 y1 lx ly hx hy x7 x8))) (fun x0 y0 x1 y1 lx ly hx hy x7 x8 => some (.cut (at_ Try.f56 5) (S56_5o2 x0 y0 x1 y1 lx ly hx hy x7 x8))) (fun x0 y0 x1 y1 lx ly hx hy x7 x8 => some (.cut (at_ Try.f56 8) (S56_8n00 x0 y0 x1 y1 lx ly hx hy x7 x8))) (fun x0 y0 x1 y1 lx ly hx hy x7 x8 => some (.cut (at_ Try.f56 8) (S56_8n01 x0 y0 x1 y1 lx ly hx hy x7 x8))) (fun x0 y0 x1 y1 lx ly hx hy x7 x8 => some (.cut (at_ Try.f56 8) (S56_8n02 x0 y0 x1 y1 lx ly hx hy x7 x8))) (fun x0 y0 x1 y1 lx ly hx hy x7 x8 => some (.cut (at_ Try.f56 8) (S56_8n10 x0 y0 x1 y1 lx ly hx hy x7 x8))) (fun x0 y0 x1 y1 lx ly hx hy x7 x8 => some (.cut (at_ Try.f56 8) (S56_8n11 x0 y0 x1 y1 lx ly hx hy x7 x8))) (fun x0 y0 x1 y1 lx ly hx hy x7 x8 => some (.cut (at_ Try.f56 8) (S56_8n12 x0 y0 x1 y1 lx ly hx hy x7 x8))) x0 y0 x1 y1 lx ly hx hy x7 x8 := by kernel_rfl
    rw [e]
    exact good_cut (t56_5o2 k _ _ _ _ _ _ _ _ _ _ r h)
end
theorem t56 (k : Nat) (x0 : Int) (y0 : Int) (x1 : Int) (y1 : Int) (lx : Int) (ly : Int) (hx : Int) (hy : Int) (r : Bool) (h : G56 k x0 y0 x1 y1 lx ly hx hy = some r) : Ends Try.prog Try.f56.results.toList [.code (bodyOf Try.f56)] (start Try.f56.ntmps ([F.agg [F.int .i64 x0, F.int .i64 y0, F.int .i64 x1, F.int .i64 y1], F.agg [F.int .i64 lx, F.int .i64 ly], F.agg [F.int .i64 hx, F.int .i64 hy]].map .f)) (F.bool r) := by
  refine Ends.of_run tyOK envW2_ok (T := [(5, [3, 4, 5, 7, 8, 56, 57, 58], 4), (8, [3, 4, 5, 7, 8, 10, 56, 57, 58, 66, 67, 68], 5)]) (n := 600) ?_
  have e : run Try.prog (tiOf Try.prog) envW2 [(5, [3, 4, 5, 7, 8, 56, 57, 58], 4), (8, [3, 4, 5, 7, 8, 10, 56, 57, 58, 66, 67, 68], 5)] 0 Try.f56.results.toList some 600 [.code (bodyOf Try.f56)] (start Try.f56.ntmps ([F.agg [F.int .i64 x0, F.int .i64 y0, F.int .i64 x1, F.int .i64 y1], F.agg [F.int .i64 lx, F.int .i64 ly], F.agg [F.int .i64 hx, F.int .i64 hy]].map .f)) = T56 (fun r => some (.ret (F.bool r))) (fun x0 y0 x1 y1 lx ly hx hy x7 x8 => some (.cut (at_ Try.f56 5) (S56_5o0 x0 y0 x1 y1 lx ly hx hy x7 x8))) (fun x0 y0 x1 y1 lx ly hx hy x7 x8 => some (.cut (at_ Try.f56 5) (S56_5o1 x0 y0 x1 y1 lx ly hx hy x7 x8))) (fun x0 y0 x1 y1 lx ly hx hy x7 x8 => some (.cut (at_ Try.f56 5) (S56_5o2 x0 y0 x1 y1 lx ly hx hy x7 x8))) (fun x0 y0 x1 y1 lx ly hx hy x7 x8 => some (.cut (at_ Try.f56 8) (S56_8n00 x0 y0 x1 y1 lx ly hx hy x7 x8))) (fun x0 y0 x1 y1 lx ly hx hy x7 x8 => some (.cut (at_ Try.f56 8) (S56_8n01 x0 y0 x1 y1 lx ly hx hy x7 x8))) (fun x0 y0 x1 y1 lx ly hx hy x7 x8 => some (.cut (at_ Try.f56 8) (S56_8n02 x0 y0 x1 y1 lx ly hx hy x7 x8))) (fun x0 y0 x1 y1 lx ly hx hy x7 x8 => some (.cut (at_ Try.f56 8) (S56_8n10 x0 y0 x1 y1 lx ly hx hy x7 x8))) (fun x0 y0 x1 y1 lx ly hx hy x7 x8 => some (.cut (at_ Try.f56 8) (S56_8n11 x0 y0 x1 y1 lx ly hx hy x7 x8))) (fun x0 y0 x1 y1 lx ly hx hy x7 x8 => some (.cut (at_ Try.f56 8) (S56_8n12 x0 y0 x1 y1 lx ly hx hy x7 x8))) x0 y0 x1 y1 lx ly hx hy := by kernel_rfl
  rw [e]
  exact (good_sel h (fun _ h => (good_sel h (fun _ h => (good_sel h (fun _ h => (good_sel h (fun _ h => good_ret (by cases h; rfl)) (fun _ h => good_cut (t56_5o0 k _ _ _ _ _ _ _ _ _ _ r h)))) (fun _ h => good_ret (by cases h; rfl)))) (fun _ h => good_ret (by cases h; rfl)))) (fun _ h => good_ret (by cases h; rfl)))
def segOkV (x0 y0 x1 y1 : Int) : Bool := spotOkV x0 y0 && (spotOkV x1 y1 && lessV x0 y0 x1 y1)
theorem cmp_less (x0 y0 x1 y1 : Int) : decide (cmpV x0 y0 x1 y1 < 0) = lessV x0 y0 x1 y1 := by
  unfold cmpV
  cases h : x0 == x1 && y0 == y1 with
  | true =>
    simp only [Bool.and_eq_true, beq_iff_eq] at h
    have : lessV x0 y0 x1 y1 = false := by
      simp only [lessV, Bool.or_eq_false_iff, Bool.and_eq_false_iff, decide_eq_false_iff_not]
      omega
    rw [this]; rfl
  | false => cases lessV x0 y0 x1 y1 <;> rfl
theorem segOk_spec (x0 y0 x1 y1 : Int) : G95 x0 y0 x1 y1 = some (segOkV x0 y0 x1 y1) := by
  unfold G95 T95 segOkV
  cases spotOkV x0 y0 <;> cases spotOkV x1 y1 <;> rfl
theorem segOk_impl (x0 y0 x1 y1 : Int) : G70 x0 y0 x1 y1 = some (segOkV x0 y0 x1 y1) := by
  unfold G70 T70 segOkV
  rw [cmp_less]
  cases spotOkV x0 y0 <;> cases spotOkV x1 y1 <;> rfl
def pre1s : List F → Bool | [.agg [.int .i64 _, .int .i64 _, .int .i64 _, .int .i64 _]] => true | _ => false
def resSegOk : List F → F | [.agg [.int .i64 a, .int .i64 b, .int .i64 c, .int .i64 d]] => .bool (segOkV a b c d) | _ => .dflt
theorem okSegOkS : PureOK Try.prog 95 pre1s resSegOk :=
  fn_pure (c := bodyOf Try.f95) Try.func95 (by kernel_rfl) (by kernel_rfl) fun xs hp => match xs, hp with
  | [.agg [.int .i64 a, .int .i64 b, .int .i64 c, .int .i64 d]], hp => t95 a b c d _ (segOk_spec a b c d)
theorem okSegOkI : PureOK Try.prog 70 pre1s resSegOk :=
  fn_pure (c := bodyOf Try.f70) Try.func70 (by kernel_rfl) (by kernel_rfl) fun xs hp => match xs, hp with
  | [.agg [.int .i64 a, .int .i64 b, .int .i64 c, .int .i64 d]], hp => t70 a b c d _ (segOk_impl a b c d)
def boxOkV (lx ly hx hy : Int) : Bool := spotOkV lx ly && (spotOkV hx hy && (decide (lx ≤ hx) && decide (ly ≤ hy)))
theorem boxOk_spec (x0 y0 x1 y1 : Int) : G52 x0 y0 x1 y1 = some (boxOkV x0 y0 x1 y1) := by
  unfold G52 T52 boxOkV
  cases spotOkV x0 y0 <;> cases spotOkV x1 y1 <;> cases decide (x0 ≤ x1) <;> rfl
theorem boxOk_impl (x0 y0 x1 y1 : Int) : G55 x0 y0 x1 y1 = some (boxOkV x0 y0 x1 y1) := by
  unfold G55 T55 boxOkV
  cases spotOkV x0 y0 <;> cases spotOkV x1 y1 <;> cases decide (x0 ≤ x1) <;> rfl
def resBox : List F → F | [.agg [.int .i64 a, .int .i64 b], .agg [.int .i64 c, .int .i64 d]] => .bool (boxOkV a b c d) | _ => .dflt
theorem okBoxS : PureOK Try.prog 52 pre2p resBox :=
  fn_pure (c := bodyOf Try.f52) Try.func52 (by kernel_rfl) (by kernel_rfl) fun xs hp => match xs, hp with
  | [.agg [.int .i64 a, .int .i64 b], .agg [.int .i64 c, .int .i64 d]], hp => t52 a b c d _ (boxOk_spec a b c d)
theorem okBoxI : PureOK Try.prog 55 pre2p resBox :=
  fn_pure (c := bodyOf Try.f55) Try.func55 (by kernel_rfl) (by kernel_rfl) fun xs hp => match xs, hp with
  | [.agg [.int .i64 a, .int .i64 b], .agg [.int .i64 c, .int .i64 d]], hp => t55 a b c d _ (boxOk_impl a b c d)
/-- Apart by a side that is level or upright. -/
def apartV (x0 y0 x1 y1 lx ly hx hy : Int) : Bool := decide (x1 < lx) || (decide (x0 > hx) || (decide (y0 < ly) && decide (y1 < ly) || decide (y0 > hy) && decide (y1 > hy)))
def meetsV (x0 y0 x1 y1 lx ly hx hy : Int) : Bool := !apartV x0 y0 x1 y1 lx ly hx hy &&
  (!(turnV x0 y0 x1 y1 lx ly == 1 && turnV x0 y0 x1 y1 hx hy == 1 && turnV x0 y0 x1 y1 lx hy == 1 && turnV x0 y0 x1 y1 hx ly == 1) &&
   !(turnV x0 y0 x1 y1 lx ly == -1 && turnV x0 y0 x1 y1 hx hy == -1 && turnV x0 y0 x1 y1 lx hy == -1 && turnV x0 y0 x1 y1 hx ly == -1))
theorem turn3 (a b c d e f : Int) : turnV a b c d e f = -1 ∨ turnV a b c d e f = 0 ∨ turnV a b c d e f = 1 := by
  unfold turnV signV
  cases decide (crossW a b c d e f < 0) <;> cases decide (crossW a b c d e f > 0) <;> simp
section
variable (x0 y0 x1 y1 lx ly hx hy : Int)
def bumpU (c u : Int) : Int := bif c == 1 then u + 1 else u
def bumpD (c u : Int) : Int := bif c == 1 then u else bif c == -1 then u + 1 else u
theorem box4 (k : Nat) (u d : Int) : L53_6n4 (k + 1) x0 y0 x1 y1 lx ly hx hy u d = some (decide (u < 4) && decide (d < 4)) := by
  rw [L53_6n4, T53_6n4]
  cases decide (u < 4) <;> rfl
theorem box3 (k : Nat) (u d : Int) (h : 0 ≤ u ∧ u ≤ 9 ∧ 0 ≤ d ∧ d ≤ 9) : L53_6n3 (k + 2) x0 y0 x1 y1 lx ly hx hy u d = some (decide (bumpU (turnV x0 y0 x1 y1 hx ly) u < 4) && decide (bumpD (turnV x0 y0 x1 y1 hx ly) d < 4)) := by
  rw [L53_6n3, T53_6n3]
  simp only [box4]
  rw [wrapi (x := u + 1) (by omega) (by omega), wrapi (x := d + 1) (by omega) (by omega)]
  unfold bumpU bumpD
  cases turnV x0 y0 x1 y1 hx ly == 1 <;> cases turnV x0 y0 x1 y1 hx ly == -1 <;> rfl
theorem bump_le {c u d : Int} {n : Int} (h : 0 ≤ u ∧ u ≤ n ∧ 0 ≤ d ∧ d ≤ n) : 0 ≤ bumpU c u ∧ bumpU c u ≤ n + 1 ∧ 0 ≤ bumpD c d ∧ bumpD c d ≤ n + 1 := by
  unfold bumpU bumpD
  cases c == 1 <;> cases c == -1 <;> simp only [cond_true, cond_false] <;> omega
theorem box2 (k : Nat) (u d : Int) (h : 0 ≤ u ∧ u ≤ 8 ∧ 0 ≤ d ∧ d ≤ 8) : L53_6n2 (k + 3) x0 y0 x1 y1 lx ly hx hy u d =
    L53_6n3 (k + 2) x0 y0 x1 y1 lx ly hx hy (bumpU (turnV x0 y0 x1 y1 lx hy) u) (bumpD (turnV x0 y0 x1 y1 lx hy) d) := by
  rw [L53_6n2, T53_6n2]
  rw [wrapi (x := u + 1) (by omega) (by omega), wrapi (x := d + 1) (by omega) (by omega)]
  unfold bumpU bumpD
  cases turnV x0 y0 x1 y1 lx hy == 1 <;> cases turnV x0 y0 x1 y1 lx hy == -1 <;> rfl
theorem box1 (k : Nat) (u d : Int) (h : 0 ≤ u ∧ u ≤ 7 ∧ 0 ≤ d ∧ d ≤ 7) : L53_6n1 (k + 4) x0 y0 x1 y1 lx ly hx hy u d =
    L53_6n2 (k + 3) x0 y0 x1 y1 lx ly hx hy (bumpU (turnV x0 y0 x1 y1 hx hy) u) (bumpD (turnV x0 y0 x1 y1 hx hy) d) := by
  rw [L53_6n1, T53_6n1]
  rw [wrapi (x := u + 1) (by omega) (by omega), wrapi (x := d + 1) (by omega) (by omega)]
  unfold bumpU bumpD
  cases turnV x0 y0 x1 y1 hx hy == 1 <;> cases turnV x0 y0 x1 y1 hx hy == -1 <;> rfl
theorem box0 (k : Nat) : L53_6n0 (k + 5) x0 y0 x1 y1 lx ly hx hy 0 0 =
    L53_6n1 (k + 4) x0 y0 x1 y1 lx ly hx hy (bumpU (turnV x0 y0 x1 y1 lx ly) 0) (bumpD (turnV x0 y0 x1 y1 lx ly) 0) := by
  rw [L53_6n0, T53_6n0]
  rw [wrapi (x := 0 + 1) (by omega) (by omega)]
  unfold bumpU bumpD
  cases turnV x0 y0 x1 y1 lx ly == 1 <;> cases turnV x0 y0 x1 y1 lx ly == -1 <;> rfl
def cornersV : Bool := (!(turnV x0 y0 x1 y1 lx ly == 1 && turnV x0 y0 x1 y1 hx hy == 1 && turnV x0 y0 x1 y1 lx hy == 1 && turnV x0 y0 x1 y1 hx ly == 1) &&
   !(turnV x0 y0 x1 y1 lx ly == -1 && turnV x0 y0 x1 y1 hx hy == -1 && turnV x0 y0 x1 y1 lx hy == -1 && turnV x0 y0 x1 y1 hx ly == -1))
theorem corners_spec (k : Nat) : L53_6n0 (k + 5) x0 y0 x1 y1 lx ly hx hy 0 0 = some (cornersV x0 y0 x1 y1 lx ly hx hy) := by
  have h1 := bump_le (c := turnV x0 y0 x1 y1 lx ly) (u := 0) (d := 0) (n := 0) (by omega)
  have h2 := bump_le (c := turnV x0 y0 x1 y1 hx hy) h1
  have h3 := bump_le (c := turnV x0 y0 x1 y1 lx hy) h2
  rw [box0, box1 _ _ _ _ _ _ _ _ _ _ _ (by omega), box2 _ _ _ _ _ _ _ _ _ _ _ (by omega), box3 _ _ _ _ _ _ _ _ _ _ _ (by omega)]
  unfold cornersV
  rcases turn3 x0 y0 x1 y1 lx ly with e | e | e <;> rcases turn3 x0 y0 x1 y1 hx hy with f | f | f <;> rcases turn3 x0 y0 x1 y1 lx hy with g | g | g <;> rcases turn3 x0 y0 x1 y1 hx ly with h | h | h <;> rw [e, f, g, h] <;> rfl
theorem meets_spec : G53 5 x0 y0 x1 y1 lx ly hx hy = some (meetsV x0 y0 x1 y1 lx ly hx hy) := by
  unfold G53 T53
  simp only [corners_spec x0 y0 x1 y1 lx ly hx hy 0]
  have : meetsV x0 y0 x1 y1 lx ly hx hy = (!apartV x0 y0 x1 y1 lx ly hx hy && cornersV x0 y0 x1 y1 lx ly hx hy) := rfl
  rw [this]
  unfold apartV
  generalize cornersV x0 y0 x1 y1 lx ly hx hy = c
  cases decide (x1 < lx) <;> cases decide (x0 > hx) <;> cases decide (y0 < ly) <;> cases decide (y1 < ly) <;> cases decide (y0 > hy) <;> cases decide (y1 > hy) <;> rfl
theorem corners_impl (k : Nat) : L56_5o0 (k + 9) x0 y0 x1 y1 lx ly hx hy 1 (-1) = some (cornersV x0 y0 x1 y1 lx ly hx hy) := by
  simp only [L56_5o0, T56_5o0, L56_8n00, T56_8n00, L56_8n01, T56_8n01, L56_8n02, T56_8n02,
    L56_5o1, T56_5o1, L56_8n10, T56_8n10, L56_8n11, T56_8n11, L56_8n12, T56_8n12, L56_5o2, T56_5o2, if_true, Bool.false_eq_true, if_false]
  have t1 : signV (crossW x0 y0 x1 y1 lx ly) = turnV x0 y0 x1 y1 lx ly := rfl
  have t2 : signV (crossW x0 y0 x1 y1 lx hy) = turnV x0 y0 x1 y1 lx hy := rfl
  have t3 : signV (crossW x0 y0 x1 y1 hx ly) = turnV x0 y0 x1 y1 hx ly := rfl
  have t4 : signV (crossW x0 y0 x1 y1 hx hy) = turnV x0 y0 x1 y1 hx hy := rfl
  rw [t1, t2, t3, t4]
  unfold cornersV
  rcases turn3 x0 y0 x1 y1 lx ly with e | e | e <;> rcases turn3 x0 y0 x1 y1 hx hy with f | f | f <;> rcases turn3 x0 y0 x1 y1 lx hy with g | g | g <;> rcases turn3 x0 y0 x1 y1 hx ly with h | h | h <;> rw [e, f, g, h] <;> rfl
theorem meets_impl : G56 9 x0 y0 x1 y1 lx ly hx hy = some (meetsV x0 y0 x1 y1 lx ly hx hy) := by
  unfold G56 T56
  simp only [corners_impl x0 y0 x1 y1 lx ly hx hy 0, if_true, Bool.false_eq_true, if_false]
  have : meetsV x0 y0 x1 y1 lx ly hx hy = (!apartV x0 y0 x1 y1 lx ly hx hy && cornersV x0 y0 x1 y1 lx ly hx hy) := rfl
  rw [this]
  unfold apartV
  have e1 : decide ((if y1 > y0 then y1 else y0) < ly) = (decide (y0 < ly) && decide (y1 < ly)) := by
    rw [Bool.eq_iff_iff]; simp only [Bool.and_eq_true, decide_eq_true_eq]; split <;> omega
  have e2 : decide ((if y1 < y0 then y1 else y0) > hy) = (decide (y0 > hy) && decide (y1 > hy)) := by
    rw [Bool.eq_iff_iff]; simp only [Bool.and_eq_true, decide_eq_true_eq]; split <;> omega
  rw [e1, e2]
  generalize cornersV x0 y0 x1 y1 lx ly hx hy = c
  cases decide (x1 < lx) <;> cases decide (x0 > hx) <;> cases decide (y0 < ly) <;> cases decide (y1 < ly) <;> cases decide (y0 > hy) <;> cases decide (y1 > hy) <;> rfl
end
def preMeets : List F → Bool | [.agg [.int .i64 _, .int .i64 _, .int .i64 _, .int .i64 _], .agg [.int .i64 _, .int .i64 _], .agg [.int .i64 _, .int .i64 _]] => true | _ => false
def resMeets : List F → F | [.agg [.int .i64 a, .int .i64 b, .int .i64 c, .int .i64 d], .agg [.int .i64 e, .int .i64 f], .agg [.int .i64 g, .int .i64 h]] => .bool (meetsV a b c d e f g h) | _ => .dflt
theorem okMeetsS : PureOK Try.prog 53 preMeets resMeets :=
  fn_pure (c := bodyOf Try.f53) Try.func53 (by kernel_rfl) (by kernel_rfl) fun xs hp => match xs, hp with
  | [.agg [.int .i64 a, .int .i64 b, .int .i64 c, .int .i64 d], .agg [.int .i64 e, .int .i64 f], .agg [.int .i64 g, .int .i64 h]], hp => t53 5 a b c d e f g h _ (meets_spec a b c d e f g h)
theorem okMeetsI : PureOK Try.prog 56 preMeets resMeets :=
  fn_pure (c := bodyOf Try.f56) Try.func56 (by kernel_rfl) (by kernel_rfl) fun xs hp => match xs, hp with
  | [.agg [.int .i64 a, .int .i64 b, .int .i64 c, .int .i64 d], .agg [.int .i64 e, .int .i64 f], .agg [.int .i64 g, .int .i64 h]], hp => t56 9 a b c d e f g h _ (meets_impl a b c d e f g h)
def envW3 : Env := (((((envW2.add 95 (.pure pre1s resSegOk)).add 70 (.pure pre1s resSegOk)).add 52 (.pure pre2p resBox)).add 55 (.pure pre2p resBox)).add 53 (.pure preMeets resMeets)).add 56 (.pure preMeets resMeets)
theorem envW3_ok : EnvOK Try.prog envW3 := Env.add_ok (Env.add_ok (Env.add_ok (Env.add_ok (Env.add_ok (Env.add_ok envW2_ok okSegOkS.sp) okSegOkI.sp) okBoxS.sp) okBoxI.sp) okMeetsS.sp) okMeetsI.sp
end Go.Proofs.Ytjbilidfnfnpfaa.R
