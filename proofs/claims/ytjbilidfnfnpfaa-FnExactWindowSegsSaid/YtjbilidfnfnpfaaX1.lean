/-
  The walk of segments that meet a box, with answers that are the caller's own; what is marked and held.
-/
import Derived.Test.YtjbilidfnfnpfaaQ2
import Derived.Test.YtjbilidfnfnpfaaR28
namespace Go.Proofs.Ytjbilidfnfnpfaa.R
open Go
noncomputable section
set_option linter.unusedVariables false
set_option linter.unusedSimpArgs false
set_option maxRecDepth 100000
/-! ### function 18 -/
def S18o_5 (l : List Sg) (lx : Int) (ly : Int) (hx : Int) (hy : Int) (n : Nat) (g : Nat → F) (i : Int) : St := ⟨[.bad, .bad, .bad, .bad, (U.hp 0 0), (U.hp 1 0), .bad, .bad, (U.hs 2 n 0 n), .bad, .bad, .bad, .bad, .bad, .bad, .bad, .bad, .bad, .bad, .bad, .bad, (U.f (segsF l)), (U.f (F.int .i64 l.length)), (U.f (F.int .i64 i)), .bad, .bad, .bad, .bad, .bad, .bad, .bad, .bad, .bad, .bad, .bad, .bad, .bad, .bad], [HO.box [(U.f (F.int .i64 lx)), (U.f (F.int .i64 ly))], HO.box [(U.f (F.int .i64 hx)), (U.f (F.int .i64 hy))], HO.arr 1 n g]⟩
def T18o_5 {ρ : Type} (ret : (F) → Option ρ) (c5 : (List Sg) → (Int) → (Int) → (Int) → (Int) → (Nat) → (Nat → F) → (Int) → Option ρ) (l : List Sg) (lx : Int) (ly : Int) (hx : Int) (hy : Int) (n : Nat) (g : Nat → F) (i : Int) : Option ρ :=
  (bsel (decide (i < (↑l.length : Int)))
   (bsel (decide (0 ≤ i))
    (bsel (decide (i < (↑l.length : Int)))
     (bsel (meetsV (l.getD i.toNat Sg.zero).x0 (l.getD i.toNat Sg.zero).y0 (l.getD i.toNat Sg.zero).x1 (l.getD i.toNat Sg.zero).y1 lx ly hx hy)
      (bsel (decide (n = n))
       (bsel (decide (n = n))
        (bsel (decide ((↑(n + 1) : Int) * (((8 : Nat) : Int) + 1) ≤ (↑limit : Int)))
         (c5 (l) (lx) (ly) (hx) (hy) (n + 1) (fun j ↦ if j < n then g j else F.int IntKind.i64 i) (IntKind.i64.wrap (i + 1)))
         none)
        none)
       none)
      (c5 (l) (lx) (ly) (hx) (hy) (n) (g) (IntKind.i64.wrap (i + 1))))
     none)
    none)
   (bsel (decide (n = n) && true && decide (n = n))
    (bsel (isScal n g)
     (ret (F.tup [F.tup [F.int IntKind.i64 ((1 : Nat) : Int), F.sl n g], F.bool true]))
     none)
    none))
def L18o_5 : Nat → (List Sg) → (Int) → (Int) → (Int) → (Int) → (Nat) → (Nat → F) → (Int) → Option (F)
  | 0, _, _, _, _, _, _, _, _ => none
  | k + 1, l, lx, ly, hx, hy, n, g, i => T18o_5 some (L18o_5 k) l lx ly hx hy n g i
def T18o {ρ : Type} (ret : (F) → Option ρ) (c5 : (List Sg) → (Int) → (Int) → (Int) → (Int) → (Nat) → (Nat → F) → (Int) → Option ρ) (l : List Sg) (lx : Int) (ly : Int) (hx : Int) (hy : Int) : Option ρ :=
  (bsel (isSegs (segsF l))
   (bsel ((!segsOkV (unSegs (segsF l))) == false)
    (bsel (!boxOkV lx ly hx hy)
     (ret (F.tup [F.tup [], F.bool false]))
     (c5 (l) (lx) (ly) (hx) (hy) (0) (lget []) (0)))
    (ret (F.tup [F.tup [], F.bool false])))
   none)
def G18o (k : Nat) (l : List Sg) (lx : Int) (ly : Int) (hx : Int) (hy : Int) : Option (F) := T18o some (L18o_5 k) l lx ly hx hy
theorem t18o_5 : ∀ (k : Nat) (l : List Sg) (lx : Int) (ly : Int) (hx : Int) (hy : Int) (n : Nat) (g : Nat → F) (i : Int) (r : F), L18o_5 k l lx ly hx hy n g i = some r → Ends Try.prog (ResultVar.tmp 1000000 :: Go.Proofs.Try.f18.results.toList) (at_ Try.f18 5) (S18o_5 l lx ly hx hy n g i) (r)
  | 0, _, _, _, _, _, _, _, _, _, h => nomatch h
  | k + 1, l, lx, ly, hx, hy, n, g, i, r, h => by
    refine Ends.of_cut tyOK envW5_ok (T := [(5, [4, 5, 8, 21, 22, 23], 1000)]) (n := 200) ?_
    have e : runCut Try.prog (tiOf Try.prog) envW5 [(5, [4, 5, 8, 21, 22, 23], 1000)] 0 (ResultVar.tmp 1000000 :: Go.Proofs.Try.f18.results.toList) some 200 (at_ Try.f18 5) (S18o_5 l lx ly hx hy n g i) = T18o_5 (fun r => some (.ret (r))) (fun l lx ly hx hy n g i => some (.cut (at_ Try.f18 5) (S18o_5 l lx ly hx hy n g i))) l lx ly hx hy n g i := by kernel_rfl
    rw [e]
    exact (good_sel h (fun _ h => (good_sel h (fun _ h => (good_sel h (fun _ h => (good_sel h (fun _ h => (good_sel h (fun _ h => (good_sel h (fun _ h => (good_sel h (fun _ h => good_cut (t18o_5 k _ _ _ _ _ _ _ _ r h)) (fun _ h => nomatch h))) (fun _ h => nomatch h))) (fun _ h => nomatch h))) (fun _ h => good_cut (t18o_5 k _ _ _ _ _ _ _ _ r h)))) (fun _ h => nomatch h))) (fun _ h => nomatch h))) (fun _ h => (good_sel h (fun _ h => (good_sel h (fun _ h => good_ret (by cases h; rfl)) (fun _ h => nomatch h))) (fun _ h => nomatch h))))
theorem t18o (k : Nat) (l : List Sg) (lx : Int) (ly : Int) (hx : Int) (hy : Int) (r : F) (h : G18o k l lx ly hx hy = some r) : Ends Try.prog (ResultVar.tmp 1000000 :: Go.Proofs.Try.f18.results.toList) [.code (bodyOf Try.f18)] (start Try.f18.ntmps ([segsF l, F.agg [F.int .i64 lx, F.int .i64 ly], F.agg [F.int .i64 hx, F.int .i64 hy]].map .f)) (r) := by
  refine Ends.of_run tyOK envW5_ok (T := [(5, [4, 5, 8, 21, 22, 23], 1000)]) (n := 200) ?_
  have e : run Try.prog (tiOf Try.prog) envW5 [(5, [4, 5, 8, 21, 22, 23], 1000)] 0 (ResultVar.tmp 1000000 :: Go.Proofs.Try.f18.results.toList) some 200 [.code (bodyOf Try.f18)] (start Try.f18.ntmps ([segsF l, F.agg [F.int .i64 lx, F.int .i64 ly], F.agg [F.int .i64 hx, F.int .i64 hy]].map .f)) = T18o (fun r => some (.ret (r))) (fun l lx ly hx hy n g i => some (.cut (at_ Try.f18 5) (S18o_5 l lx ly hx hy n g i))) l lx ly hx hy := by kernel_rfl
  rw [e]
  exact (good_sel h (fun _ h => (good_sel h (fun _ h => (good_sel h (fun _ h => good_ret (by cases h; rfl)) (fun _ h => good_cut (t18o_5 k _ _ _ _ _ _ _ _ r h)))) (fun _ h => good_ret (by cases h; rfl)))) (fun _ h => nomatch h))
/-! ### function 15 -/
def S15o_5 (l : List Sg) (lx : Int) (ly : Int) (hx : Int) (hy : Int) (n : Nat) (g : Nat → F) (i : Int) : St := ⟨[(U.f (segsF l)), .bad, .bad, .bad, (U.hp 0 0), (U.hp 1 0), .bad, .bad, (U.hs 2 n 0 n), (U.f (F.int .i64 i)), .bad, .bad, .bad, .bad, .bad, .bad, .bad, .bad, .bad, .bad, .bad, .bad, .bad, .bad, .bad, .bad, .bad, .bad, .bad, .bad, .bad, .bad, .bad, .bad, .bad, .bad, .bad, .bad], [HO.box [(U.f (F.int .i64 lx)), (U.f (F.int .i64 ly))], HO.box [(U.f (F.int .i64 hx)), (U.f (F.int .i64 hy))], HO.arr 1 n g]⟩
def T15o_5 {ρ : Type} (ret : (F) → Option ρ) (c5 : (List Sg) → (Int) → (Int) → (Int) → (Int) → (Nat) → (Nat → F) → (Int) → Option ρ) (l : List Sg) (lx : Int) (ly : Int) (hx : Int) (hy : Int) (n : Nat) (g : Nat → F) (i : Int) : Option ρ :=
  (bsel (decide (i < (↑l.length : Int)))
   (bsel (decide (0 ≤ i))
    (bsel (decide (i < (↑l.length : Int)))
     (bsel (meetsV (l.getD i.toNat Sg.zero).x0 (l.getD i.toNat Sg.zero).y0 (l.getD i.toNat Sg.zero).x1 (l.getD i.toNat Sg.zero).y1 lx ly hx hy)
      (bsel (decide (n = n))
       (bsel (decide (n = n))
        (bsel (decide ((↑(n + 1) : Int) * (((8 : Nat) : Int) + 1) ≤ (↑limit : Int)))
         (c5 (l) (lx) (ly) (hx) (hy) (n + 1) (fun j ↦ if j < n then g j else F.int IntKind.i64 i) (IntKind.i64.wrap (i + 1)))
         none)
        none)
       none)
      (c5 (l) (lx) (ly) (hx) (hy) (n) (g) (IntKind.i64.wrap (i + 1))))
     none)
    none)
   (bsel (decide (n = n) && true && decide (n = n))
    (bsel (isScal n g)
     (ret (F.tup [F.tup [F.int IntKind.i64 ((1 : Nat) : Int), F.sl n g], F.bool true]))
     none)
    none))
def L15o_5 : Nat → (List Sg) → (Int) → (Int) → (Int) → (Int) → (Nat) → (Nat → F) → (Int) → Option (F)
  | 0, _, _, _, _, _, _, _, _ => none
  | k + 1, l, lx, ly, hx, hy, n, g, i => T15o_5 some (L15o_5 k) l lx ly hx hy n g i
def T15o {ρ : Type} (ret : (F) → Option ρ) (c5 : (List Sg) → (Int) → (Int) → (Int) → (Int) → (Nat) → (Nat → F) → (Int) → Option ρ) (l : List Sg) (lx : Int) (ly : Int) (hx : Int) (hy : Int) : Option ρ :=
  (bsel (isSegs (segsF l))
   (bsel ((!segsOkV (unSegs (segsF l))) == false)
    (bsel (!boxOkV lx ly hx hy)
     (ret (F.tup [F.tup [], F.bool false]))
     (c5 (l) (lx) (ly) (hx) (hy) (0) (lget []) (0)))
    (ret (F.tup [F.tup [], F.bool false])))
   none)
def G15o (k : Nat) (l : List Sg) (lx : Int) (ly : Int) (hx : Int) (hy : Int) : Option (F) := T15o some (L15o_5 k) l lx ly hx hy
theorem t15o_5 : ∀ (k : Nat) (l : List Sg) (lx : Int) (ly : Int) (hx : Int) (hy : Int) (n : Nat) (g : Nat → F) (i : Int) (r : F), L15o_5 k l lx ly hx hy n g i = some r → Ends Try.prog (ResultVar.tmp 1000000 :: Go.Proofs.Try.f15.results.toList) (at_ Try.f15 5) (S15o_5 l lx ly hx hy n g i) (r)
  | 0, _, _, _, _, _, _, _, _, _, h => nomatch h
  | k + 1, l, lx, ly, hx, hy, n, g, i, r, h => by
    refine Ends.of_cut tyOK envW5_ok (T := [(5, [0, 4, 5, 8, 9], 1000)]) (n := 200) ?_
    have e : runCut Try.prog (tiOf Try.prog) envW5 [(5, [0, 4, 5, 8, 9], 1000)] 0 (ResultVar.tmp 1000000 :: Go.Proofs.Try.f15.results.toList) some 200 (at_ Try.f15 5) (S15o_5 l lx ly hx hy n g i) = T15o_5 (fun r => some (.ret (r))) (fun l lx ly hx hy n g i => some (.cut (at_ Try.f15 5) (S15o_5 l lx ly hx hy n g i))) l lx ly hx hy n g i := by kernel_rfl
    rw [e]
    exact (good_sel h (fun _ h => (good_sel h (fun _ h => (good_sel h (fun _ h => (good_sel h (fun _ h => (good_sel h (fun _ h => (good_sel h (fun _ h => (good_sel h (fun _ h => good_cut (t15o_5 k _ _ _ _ _ _ _ _ r h)) (fun _ h => nomatch h))) (fun _ h => nomatch h))) (fun _ h => nomatch h))) (fun _ h => good_cut (t15o_5 k _ _ _ _ _ _ _ _ r h)))) (fun _ h => nomatch h))) (fun _ h => nomatch h))) (fun _ h => (good_sel h (fun _ h => (good_sel h (fun _ h => good_ret (by cases h; rfl)) (fun _ h => nomatch h))) (fun _ h => nomatch h))))
theorem t15o (k : Nat) (l : List Sg) (lx : Int) (ly : Int) (hx : Int) (hy : Int) (r : F) (h : G15o k l lx ly hx hy = some r) : Ends Try.prog (ResultVar.tmp 1000000 :: Go.Proofs.Try.f15.results.toList) [.code (bodyOf Try.f15)] (start Try.f15.ntmps ([segsF l, F.agg [F.int .i64 lx, F.int .i64 ly], F.agg [F.int .i64 hx, F.int .i64 hy]].map .f)) (r) := by
  refine Ends.of_run tyOK envW5_ok (T := [(5, [0, 4, 5, 8, 9], 1000)]) (n := 200) ?_
  have e : run Try.prog (tiOf Try.prog) envW5 [(5, [0, 4, 5, 8, 9], 1000)] 0 (ResultVar.tmp 1000000 :: Go.Proofs.Try.f15.results.toList) some 200 [.code (bodyOf Try.f15)] (start Try.f15.ntmps ([segsF l, F.agg [F.int .i64 lx, F.int .i64 ly], F.agg [F.int .i64 hx, F.int .i64 hy]].map .f)) = T15o (fun r => some (.ret (r))) (fun l lx ly hx hy n g i => some (.cut (at_ Try.f15 5) (S15o_5 l lx ly hx hy n g i))) l lx ly hx hy := by kernel_rfl
  rw [e]
  exact (good_sel h (fun _ h => (good_sel h (fun _ h => (good_sel h (fun _ h => good_ret (by cases h; rfl)) (fun _ h => good_cut (t15o_5 k _ _ _ _ _ _ _ _ r h)))) (fun _ h => good_ret (by cases h; rfl)))) (fun _ h => nomatch h))
/-! ### function 14 -/
def T14 {ρ : Type} (ret : (Int) → Option ρ) (a : List Sg) (lf : Int) : Option ρ :=
  (bsel (decide (IntKind.i64.wrap (lf - (↑a.length : Int)) < 0))
   (ret (-1))
   (ret (IntKind.i64.wrap (lf - (↑a.length : Int)))))
def G14 (a : List Sg) (lf : Int) : Option (Int) := T14 some a lf
theorem t14 (a : List Sg) (lf : Int) (r : Int) (h : G14 a lf = some r) : Ends Try.prog Try.f14.results.toList [.code (bodyOf Try.f14)] (start Try.f14.ntmps ([segsF a, F.int .i64 lf].map .f)) (F.int .i64 r) := by
  refine Ends.of_run tyOK envQ2_ok (T := []) (n := 200) ?_
  have e : run Try.prog (tiOf Try.prog) envQ2 [] 0 Try.f14.results.toList some 200 [.code (bodyOf Try.f14)] (start Try.f14.ntmps ([segsF a, F.int .i64 lf].map .f)) = T14 (fun r => some (.ret (F.int .i64 r))) a lf := by kernel_rfl
  rw [e]
  exact (good_sel h (fun _ h => good_ret (by cases h; rfl)) (fun _ h => good_ret (by cases h; rfl)))
/-! ### function 16 -/
def S16_3 (a : List Sg) (n : Nat) (g : Nat → F) (i : Int) : St := ⟨[(U.f (segsF a)), .bad, .bad, (U.hs 0 n 0 n), (U.f (F.int .i64 i)), .bad, .bad, .bad, .bad, .bad, .bad, .bad, .bad, .bad, .bad, .bad, .bad, .bad, .bad, .bad, .bad, .bad, .bad], [HO.arr 4 n g]⟩
def T16_3 {ρ : Type} (ret : (F) → Option ρ) (c3 : (List Sg) → (Nat) → (Nat → F) → (Int) → Option ρ) (a : List Sg) (n : Nat) (g : Nat → F) (i : Int) : Option ρ :=
  (bsel (decide (i < (↑a.length : Int)))
   (bsel (decide (0 ≤ i))
    (bsel (decide (i < (↑a.length : Int)))
     (bsel (decide (n = n))
      (bsel (decide (0 ≤ i))
       (bsel (decide (i < (↑n : Int)))
        (bsel (decide (n = n))
         (bsel (decide (0 + i.toNat < n))
          (bsel (decide ((g (0 + i.toNat)).cells.length = 4))
           (bsel ((isAggF (g (0 + i.toNat)) || false) && true)
            (c3 (a) (n) (fun j ↦ if j = 0 + i.toNat then F.agg [F.int IntKind.i64 (a.getD i.toNat Sg.zero).x0, F.int IntKind.i64 (a.getD i.toNat Sg.zero).y0, F.int IntKind.i64 (a.getD i.toNat Sg.zero).x1, F.int IntKind.i64 (a.getD i.toNat Sg.zero).y1] else g j) (IntKind.i64.wrap (i + 1)))
            none)
           none)
          none)
         none)
        none)
       none)
      none)
     none)
    none)
   (bsel (decide (n = n) && true && decide (n = n))
    (bsel (isScal n g)
     (ret (F.tup [F.tup [F.int IntKind.i64 ((4 : Nat) : Int), F.sl n g]]))
     none)
    none))
def L16_3 : Nat → (List Sg) → (Nat) → (Nat → F) → (Int) → Option (F)
  | 0, _, _, _, _ => none
  | k + 1, a, n, g, i => T16_3 some (L16_3 k) a n g i
def T16 {ρ : Type} (ret : (F) → Option ρ) (c3 : (List Sg) → (Nat) → (Nat → F) → (Int) → Option ρ) (a : List Sg) : Option ρ :=
  (bsel (decide ((↑a.length : Int) ≤ (↑a.length : Int)))
   (bsel (decide ((↑a.length : Int) * (((32 : Nat) : Int) + 1) ≤ (↑limit : Int)))
    (c3 (a) ((↑a.length : Int).toNat) (fun x ↦ F.agg [F.int IntKind.i64 0, F.int IntKind.i64 0, F.int IntKind.i64 0, F.int IntKind.i64 0]) (0))
    none)
   none)
def G16 (k : Nat) (a : List Sg) : Option (F) := T16 some (L16_3 k) a
theorem t16_3 : ∀ (k : Nat) (a : List Sg) (n : Nat) (g : Nat → F) (i : Int) (r : F), L16_3 k a n g i = some r → Ends Try.prog (ResultVar.tmp 1000000 :: Go.Proofs.Try.f16.results.toList) (at_ Try.f16 3) (S16_3 a n g i) (r)
  | 0, _, _, _, _, _, h => nomatch h
  | k + 1, a, n, g, i, r, h => by
    refine Ends.of_cut tyOK envQ2_ok (T := [(3, [0, 3, 4], 1000)]) (n := 200) ?_
    have e : runCut Try.prog (tiOf Try.prog) envQ2 [(3, [0, 3, 4], 1000)] 0 (ResultVar.tmp 1000000 :: Go.Proofs.Try.f16.results.toList) some 200 (at_ Try.f16 3) (S16_3 a n g i) = T16_3 (fun r => some (.ret (r))) (fun a n g i => some (.cut (at_ Try.f16 3) (S16_3 a n g i))) a n g i := by kernel_rfl
    rw [e]
    exact (good_sel h (fun _ h => (good_sel h (fun _ h => (good_sel h (fun _ h => (good_sel h (fun _ h => (good_sel h (fun _ h => (good_sel h (fun _ h => (good_sel h (fun _ h => (good_sel h (fun _ h => (good_sel h (fun _ h => (good_sel h (fun _ h => good_cut (t16_3 k _ _ _ _ r h)) (fun _ h => nomatch h))) (fun _ h => nomatch h))) (fun _ h => nomatch h))) (fun _ h => nomatch h))) (fun _ h => nomatch h))) (fun _ h => nomatch h))) (fun _ h => nomatch h))) (fun _ h => nomatch h))) (fun _ h => nomatch h))) (fun _ h => (good_sel h (fun _ h => (good_sel h (fun _ h => good_ret (by cases h; rfl)) (fun _ h => nomatch h))) (fun _ h => nomatch h))))
theorem t16 (k : Nat) (a : List Sg) (r : F) (h : G16 k a = some r) : Ends Try.prog (ResultVar.tmp 1000000 :: Go.Proofs.Try.f16.results.toList) [.code (bodyOf Try.f16)] (start Try.f16.ntmps ([segsF a].map .f)) (r) := by
  refine Ends.of_run tyOK envQ2_ok (T := [(3, [0, 3, 4], 1000)]) (n := 200) ?_
  have e : run Try.prog (tiOf Try.prog) envQ2 [(3, [0, 3, 4], 1000)] 0 (ResultVar.tmp 1000000 :: Go.Proofs.Try.f16.results.toList) some 200 [.code (bodyOf Try.f16)] (start Try.f16.ntmps ([segsF a].map .f)) = T16 (fun r => some (.ret (r))) (fun a n g i => some (.cut (at_ Try.f16 3) (S16_3 a n g i))) a := by kernel_rfl
  rw [e]
  exact (good_sel h (fun _ h => (good_sel h (fun _ h => good_cut (t16_3 k _ _ _ _ r h)) (fun _ h => nomatch h))) (fun _ h => nomatch h))
/-! ### function 20 -/
def S20_4 (a : List Sg) (b : List Sg) (i : Int) : St := ⟨[(U.f (segsF a)), (U.f (segsF b)), .bad, .bad, .bad, (U.f (F.int .i64 i)), .bad, .bad, .bad, .bad, .bad, .bad, .bad, .bad, .bad, .bad, .bad, .bad, .bad, .bad, .bad, .bad, .bad, .bad, .bad, .bad, .bad], []⟩
def T20_4 {ρ : Type} (ret : (Bool) → Option ρ) (c4 : (List Sg) → (List Sg) → (Int) → Option ρ) (a : List Sg) (b : List Sg) (i : Int) : Option ρ :=
  (bsel (decide (i < (↑a.length : Int)))
   (bsel (decide (0 ≤ i))
    (bsel (decide (i < (↑a.length : Int)))
     (bsel (decide (0 ≤ i))
      (bsel (decide (i < (↑b.length : Int)))
       (bsel (!sameSegV { x0 := (a.getD i.toNat Sg.zero).x0, y0 := (a.getD i.toNat Sg.zero).y0, x1 := (a.getD i.toNat Sg.zero).x1, y1 := (a.getD i.toNat Sg.zero).y1 } { x0 := (b.getD i.toNat Sg.zero).x0, y0 := (b.getD i.toNat Sg.zero).y0, x1 := (b.getD i.toNat Sg.zero).x1, y1 := (b.getD i.toNat Sg.zero).y1 })
        (ret (false))
        (c4 (a) (b) (IntKind.i64.wrap (i + 1))))
       none)
      none)
     none)
    none)
   (ret (true)))
def L20_4 : Nat → (List Sg) → (List Sg) → (Int) → Option (Bool)
  | 0, _, _, _ => none
  | k + 1, a, b, i => T20_4 some (L20_4 k) a b i
def T20 {ρ : Type} (ret : (Bool) → Option ρ) (c4 : (List Sg) → (List Sg) → (Int) → Option ρ) (a : List Sg) (b : List Sg) : Option ρ :=
  (bsel ((↑a.length : Int) != (↑b.length : Int))
   (ret (false))
   (c4 (a) (b) (0)))
def G20 (k : Nat) (a : List Sg) (b : List Sg) : Option (Bool) := T20 some (L20_4 k) a b
theorem t20_4 : ∀ (k : Nat) (a : List Sg) (b : List Sg) (i : Int) (r : Bool), L20_4 k a b i = some r → Ends Try.prog Try.f20.results.toList (at_ Try.f20 4) (S20_4 a b i) (F.bool r)
  | 0, _, _, _, _, h => nomatch h
  | k + 1, a, b, i, r, h => by
    refine Ends.of_cut tyOK envQ2_ok (T := [(4, [0, 1, 5], 1000)]) (n := 200) ?_
    have e : runCut Try.prog (tiOf Try.prog) envQ2 [(4, [0, 1, 5], 1000)] 0 Try.f20.results.toList some 200 (at_ Try.f20 4) (S20_4 a b i) = T20_4 (fun r => some (.ret (F.bool r))) (fun a b i => some (.cut (at_ Try.f20 4) (S20_4 a b i))) a b i := by kernel_rfl
    rw [e]
    exact (good_sel h (fun _ h => (good_sel h (fun _ h => (good_sel h (fun _ h => (good_sel h (fun _ h => (good_sel h (fun _ h => (good_sel h (fun _ h => good_ret (by cases h; rfl)) (fun _ h => good_cut (t20_4 k _ _ _ r h)))) (fun _ h => nomatch h))) (fun _ h => nomatch h))) (fun _ h => nomatch h))) (fun _ h => nomatch h))) (fun _ h => good_ret (by cases h; rfl)))
theorem t20 (k : Nat) (a : List Sg) (b : List Sg) (r : Bool) (h : G20 k a b = some r) : Ends Try.prog Try.f20.results.toList [.code (bodyOf Try.f20)] (start Try.f20.ntmps ([segsF a, segsF b].map .f)) (F.bool r) := by
  refine Ends.of_run tyOK envQ2_ok (T := [(4, [0, 1, 5], 1000)]) (n := 200) ?_
  have e : run Try.prog (tiOf Try.prog) envQ2 [(4, [0, 1, 5], 1000)] 0 Try.f20.results.toList some 200 [.code (bodyOf Try.f20)] (start Try.f20.ntmps ([segsF a, segsF b].map .f)) = T20 (fun r => some (.ret (F.bool r))) (fun a b i => some (.cut (at_ Try.f20 4) (S20_4 a b i))) a b := by kernel_rfl
  rw [e]
  exact (good_sel h (fun _ h => good_ret (by cases h; rfl)) (fun _ h => good_cut (t20_4 k _ _ _ r h)))
/-! ### function 23 -/
def S23_2 (a : List Int) (m : Int) (i : Int) : St := ⟨[(U.f (intsF a)), (U.f (F.int .i64 m)), .bad, .bad, .bad, (U.f (F.int .i64 i)), .bad, .bad, .bad, .bad, .bad, .bad, .bad, .bad, .bad, .bad, .bad, .bad, .bad, .bad, .bad], []⟩
def T23_2 {ρ : Type} (ret : (Int) → Option ρ) (c2 : (List Int) → (Int) → (Int) → Option ρ) (a : List Int) (m : Int) (i : Int) : Option ρ :=
  (bsel (decide (i < (↑a.length : Int)))
   (bsel (decide (0 ≤ i))
    (bsel (decide (i < (↑a.length : Int)))
     (bsel (a.getD i.toNat 0 != m)
      (ret (-1))
      (c2 (a) (IntKind.i64.wrap (m + 1)) (IntKind.i64.wrap (i + 1))))
     none)
    none)
   (ret (m)))
def L23_2 : Nat → (List Int) → (Int) → (Int) → Option (Int)
  | 0, _, _, _ => none
  | k + 1, a, m, i => T23_2 some (L23_2 k) a m i
def T23 {ρ : Type} (ret : (Int) → Option ρ) (c2 : (List Int) → (Int) → (Int) → Option ρ) (a : List Int) (m : Int) : Option ρ :=
  (c2 (a) (m) (0))
def G23 (k : Nat) (a : List Int) (m : Int) : Option (Int) := T23 some (L23_2 k) a m
theorem t23_2 : ∀ (k : Nat) (a : List Int) (m : Int) (i : Int) (r : Int), L23_2 k a m i = some r → Ends Try.prog Try.f23.results.toList (at_ Try.f23 2) (S23_2 a m i) (F.int .i64 r)
  | 0, _, _, _, _, h => nomatch h
  | k + 1, a, m, i, r, h => by
    refine Ends.of_cut tyOK envQ2_ok (T := [(2, [0, 1, 5], 1000)]) (n := 200) ?_
    have e : runCut Try.prog (tiOf Try.prog) envQ2 [(2, [0, 1, 5], 1000)] 0 Try.f23.results.toList some 200 (at_ Try.f23 2) (S23_2 a m i) = T23_2 (fun r => some (.ret (F.int .i64 r))) (fun a m i => some (.cut (at_ Try.f23 2) (S23_2 a m i))) a m i := by kernel_rfl
    rw [e]
    exact (good_sel h (fun _ h => (good_sel h (fun _ h => (good_sel h (fun _ h => (good_sel h (fun _ h => good_ret (by cases h; rfl)) (fun _ h => good_cut (t23_2 k _ _ _ r h)))) (fun _ h => nomatch h))) (fun _ h => nomatch h))) (fun _ h => good_ret (by cases h; rfl)))
theorem t23 (k : Nat) (a : List Int) (m : Int) (r : Int) (h : G23 k a m = some r) : Ends Try.prog Try.f23.results.toList [.code (bodyOf Try.f23)] (start Try.f23.ntmps ([intsF a, F.int .i64 m].map .f)) (F.int .i64 r) := by
  refine Ends.of_run tyOK envQ2_ok (T := [(2, [0, 1, 5], 1000)]) (n := 200) ?_
  have e : run Try.prog (tiOf Try.prog) envQ2 [(2, [0, 1, 5], 1000)] 0 Try.f23.results.toList some 200 [.code (bodyOf Try.f23)] (start Try.f23.ntmps ([intsF a, F.int .i64 m].map .f)) = T23 (fun r => some (.ret (F.int .i64 r))) (fun a m i => some (.cut (at_ Try.f23 2) (S23_2 a m i))) a m := by kernel_rfl
  rw [e]
  exact good_cut (t23_2 k _ _ _ r h)
/-! ### function 22 -/
def S22_2 (n : Nat) (g : Nat → F) (m : Int) (i : Int) : St := ⟨[(U.hs 0 n 0 n), (U.f (F.int .i64 m)), .bad, .bad, .bad, (U.f (F.int .i64 i)), .bad, .bad, .bad, .bad, .bad, .bad, .bad, .bad, .bad, .bad, .bad, .bad, .bad], [HO.arr 1 n g]⟩
def T22_2 {ρ : Type} (ret : (Int) → (Nat → F) → Option ρ) (c2 : (Nat) → (Nat → F) → (Int) → (Int) → Option ρ) (n : Nat) (g : Nat → F) (m : Int) (i : Int) : Option ρ :=
  (bsel (decide (n = n))
   (bsel (decide (i < (↑n : Int)))
    (bsel (decide (n = n))
     (bsel (decide (0 ≤ i))
      (bsel (decide (i < (↑n : Int)))
       (bsel (decide (n = n))
        (bsel (decide (0 + i.toNat < n))
         (bsel (decide ((g (0 + i.toNat)).cells.length = 1))
          (bsel ((isAggF (g (0 + i.toNat)) || true) && true)
           (c2 (n) (fun j ↦ if j = 0 + i.toNat then F.int IntKind.i64 m else g j) (IntKind.i64.wrap (m + 1)) (IntKind.i64.wrap (i + 1)))
           none)
          none)
         none)
        none)
       none)
      none)
     none)
    (ret (m) (g)))
   none)
def L22_2 : Nat → (Nat) → (Nat → F) → (Int) → (Int) → Option ((Int) × (Nat → F))
  | 0, _, _, _, _ => none
  | k + 1, n, g, m, i => T22_2 (fun r g2 => some (r, g2)) (L22_2 k) n g m i
def T22 {ρ : Type} (ret : (Int) → (Nat → F) → Option ρ) (c2 : (Nat) → (Nat → F) → (Int) → (Int) → Option ρ) (n : Nat) (g : Nat → F) (m : Int) : Option ρ :=
  (c2 (n) (g) (m) (0))
def G22 (k : Nat) (n : Nat) (g : Nat → F) (m : Int) : Option ((Int) × (Nat → F)) := T22 (fun r g2 => some (r, g2)) (L22_2 k) n g m
theorem t22_2 : ∀ (k : Nat) (n : Nat) (g : Nat → F) (m : Int) (i : Int) (r : Int) (g2 : Nat → F), L22_2 k n g m i = some (r, g2) → EndsN Try.prog 1 Try.f22.results.toList (at_ Try.f22 2) (S22_2 n g m i) (F.tup [F.int .i64 r, F.sl n g2])
  | 0, _, _, _, _, _, _, h => nomatch h
  | k + 1, n, g, m, i, r, g2, h => by
    refine Ends.of_cut tyOK envQ2_ok (T := [(2, [0, 1, 5], 1000)]) (n := 200) ?_
    have e : runCut Try.prog (tiOf Try.prog) envQ2 [(2, [0, 1, 5], 1000)] 1 Try.f22.results.toList some 200 (at_ Try.f22 2) (S22_2 n g m i) = T22_2 (fun r g2 => some (.ret (F.tup [F.int .i64 r, F.sl n g2]))) (fun n g m i => some (.cut (at_ Try.f22 2) (S22_2 n g m i))) n g m i := by kernel_rfl
    rw [e]
    exact (good_sel h (fun _ h => (good_sel h (fun _ h => (good_sel h (fun _ h => (good_sel h (fun _ h => (good_sel h (fun _ h => (good_sel h (fun _ h => (good_sel h (fun _ h => (good_sel h (fun _ h => (good_sel h (fun _ h => good_cut (t22_2 k _ _ _ _ r g2 h)) (fun _ h => nomatch h))) (fun _ h => nomatch h))) (fun _ h => nomatch h))) (fun _ h => nomatch h))) (fun _ h => nomatch h))) (fun _ h => nomatch h))) (fun _ h => nomatch h))) (fun _ h => good_ret (by cases h; rfl)))) (fun _ h => nomatch h))
theorem t22 (k : Nat) (n : Nat) (g : Nat → F) (m : Int) (r : Int) (g2 : Nat → F) (h : G22 k n g m = some (r, g2)) : EndsN Try.prog 1 Try.f22.results.toList [.code (bodyOf Try.f22)] (startN Try.f22.ntmps [U.hs 0 n 0 n, U.f (F.int .i64 m)] [HO.arr 1 n g]) (F.tup [F.int .i64 r, F.sl n g2]) := by
  refine Ends.of_run tyOK envQ2_ok (T := [(2, [0, 1, 5], 1000)]) (n := 200) ?_
  have e : run Try.prog (tiOf Try.prog) envQ2 [(2, [0, 1, 5], 1000)] 1 Try.f22.results.toList some 200 [.code (bodyOf Try.f22)] (startN Try.f22.ntmps [U.hs 0 n 0 n, U.f (F.int .i64 m)] [HO.arr 1 n g]) = T22 (fun r g2 => some (.ret (F.tup [F.int .i64 r, F.sl n g2]))) (fun n g m i => some (.cut (at_ Try.f22 2) (S22_2 n g m i))) n g m := by kernel_rfl
  rw [e]
  exact good_cut (t22_2 k _ _ _ _ r g2 h)
/-! ### function 22 -/
def S22z_2 (m : Int) : St := ⟨[(U.f (F.sl 0 (fun _ => F.dflt))), (U.f (F.int .i64 m)), .bad, .bad, .bad, (U.f (F.int .i64 0)), .bad, .bad, .bad, .bad, .bad, .bad, .bad, .bad, .bad, .bad, .bad, .bad, .bad], []⟩
def T22z_2 {ρ : Type} (ret : (Int) → Option ρ) (c2 : (Int) → Option ρ) (m : Int) : Option ρ :=
  (ret (m))
def L22z_2 : Nat → (Int) → Option (Int)
  | 0, _ => none
  | k + 1, m => T22z_2 some (L22z_2 k) m
def T22z {ρ : Type} (ret : (Int) → Option ρ) (c2 : (Int) → Option ρ) (m : Int) : Option ρ :=
  (c2 (m))
def G22z (k : Nat) (m : Int) : Option (Int) := T22z some (L22z_2 k) m
theorem t22z_2 : ∀ (k : Nat) (m : Int) (r : Int), L22z_2 k m = some r → Ends Try.prog Try.f22.results.toList (at_ Try.f22 2) (S22z_2 m) (F.int .i64 r)
  | 0, _, _, h => nomatch h
  | k + 1, m, r, h => by
    refine Ends.of_cut tyOK envQ2_ok (T := [(2, [0, 1, 5], 1000)]) (n := 200) ?_
    have e : runCut Try.prog (tiOf Try.prog) envQ2 [(2, [0, 1, 5], 1000)] 0 Try.f22.results.toList some 200 (at_ Try.f22 2) (S22z_2 m) = T22z_2 (fun r => some (.ret (F.int .i64 r))) (fun m => some (.cut (at_ Try.f22 2) (S22z_2 m))) m := by kernel_rfl
    rw [e]
    exact good_ret (by cases h; rfl)
theorem t22z (k : Nat) (m : Int) (r : Int) (h : G22z k m = some r) : Ends Try.prog Try.f22.results.toList [.code (bodyOf Try.f22)] (start Try.f22.ntmps ([F.sl 0 (fun _ => F.dflt), F.int .i64 m].map .f)) (F.int .i64 r) := by
  refine Ends.of_run tyOK envQ2_ok (T := [(2, [0, 1, 5], 1000)]) (n := 200) ?_
  have e : run Try.prog (tiOf Try.prog) envQ2 [(2, [0, 1, 5], 1000)] 0 Try.f22.results.toList some 200 [.code (bodyOf Try.f22)] (start Try.f22.ntmps ([F.sl 0 (fun _ => F.dflt), F.int .i64 m].map .f)) = T22z (fun r => some (.ret (F.int .i64 r))) (fun m => some (.cut (at_ Try.f22 2) (S22z_2 m))) m := by kernel_rfl
  rw [e]
  exact good_cut (t22z_2 k _ r h)
/-! ### function 21 -/
def S21_2 (n : Nat) (g : Nat → F) (m : Int) (i : Int) : St := ⟨[(U.hs 0 n 0 n), (U.f (F.int .i64 m)), .bad, .bad, .bad, (U.f (F.int .i64 i)), .bad, .bad, .bad, .bad, .bad, .bad, .bad, .bad, .bad, .bad, .bad, .bad, .bad, .bad, .bad, .bad, .bad, .bad, .bad, .bad, .bad, .bad, .bad, .bad, .bad, .bad, .bad, .bad, .bad, .bad, .bad, .bad, .bad, .bad, .bad, .bad, .bad, .bad, .bad], [HO.arr 4 n g]⟩
def T21_2 {ρ : Type} (ret : (Int) → (Nat → F) → Option ρ) (c2 : (Nat) → (Nat → F) → (Int) → (Int) → Option ρ) (n : Nat) (g : Nat → F) (m : Int) (i : Int) : Option ρ :=
  (bsel (decide (n = n))
   (bsel (decide (i < (↑n : Int)))
    (bsel (decide (n = n))
     (bsel (decide (0 ≤ i))
      (bsel (decide (i < (↑n : Int)))
       (bsel (decide (n = n))
        (bsel (decide (n = n))
         (bsel (decide (n = n))
          (bsel (decide (0 + i.toNat < n))
           (bsel (decide ((g (0 + i.toNat)).cells.length = 4))
            (bsel ((isAggF (g (0 + i.toNat)) || false) && true)
             (bsel (decide (n = n))
              (bsel (decide (0 ≤ i))
               (bsel (decide (i < (↑n : Int)))
                (bsel (decide (n = n))
                 (bsel (decide (n = n))
                  (bsel (decide (n = n))
                   (bsel (decide (0 + i.toNat < n))
                    (bsel (decide ((if 0 + i.toNat = 0 + i.toNat then putEl false false (g (0 + i.toNat)) (0 + 0 + 0) [F.int IntKind.i64 m] else g (0 + i.toNat)).cells.length = 4))
                     (bsel ((isAggF (if 0 + i.toNat = 0 + i.toNat then putEl false false (g (0 + i.toNat)) (0 + 0 + 0) [F.int IntKind.i64 m] else g (0 + i.toNat)) || false) && true)
                      (bsel (decide (n = n))
                       (bsel (decide (0 ≤ i))
                        (bsel (decide (i < (↑n : Int)))
                         (bsel (decide (n = n))
                          (bsel (decide (n = n))
                           (bsel (decide (n = n))
                            (bsel (decide (0 + i.toNat < n))
                             (bsel (decide ((if 0 + i.toNat = 0 + i.toNat then putEl false false (if 0 + i.toNat = 0 + i.toNat then putEl false false (g (0 + i.toNat)) (0 + 0 + 0) [F.int IntKind.i64 m] else g (0 + i.toNat)) (0 + 0 + 1) [F.int IntKind.i64 (IntKind.i64.wrap (m + 1))] else if 0 + i.toNat = 0 + i.toNat then putEl false false (g (0 + i.toNat)) (0 + 0 + 0) [F.int IntKind.i64 m] else g (0 + i.toNat)).cells.length = 4))
                              (bsel ((isAggF (if 0 + i.toNat = 0 + i.toNat then putEl false false (if 0 + i.toNat = 0 + i.toNat then putEl false false (g (0 + i.toNat)) (0 + 0 + 0) [F.int IntKind.i64 m] else g (0 + i.toNat)) (0 + 0 + 1) [F.int IntKind.i64 (IntKind.i64.wrap (m + 1))] else if 0 + i.toNat = 0 + i.toNat then putEl false false (g (0 + i.toNat)) (0 + 0 + 0) [F.int IntKind.i64 m] else g (0 + i.toNat)) || false) && true)
                               (bsel (decide (n = n))
                                (bsel (decide (0 ≤ i))
                                 (bsel (decide (i < (↑n : Int)))
                                  (bsel (decide (n = n))
                                   (bsel (decide (n = n))
                                    (bsel (decide (n = n))
                                     (bsel (decide (0 + i.toNat < n))
                                      (bsel (decide ((if 0 + i.toNat = 0 + i.toNat then putEl false false (if 0 + i.toNat = 0 + i.toNat then putEl false false (if 0 + i.toNat = 0 + i.toNat then putEl false false (g (0 + i.toNat)) (0 + 0 + 0) [F.int IntKind.i64 m] else g (0 + i.toNat)) (0 + 0 + 1) [F.int IntKind.i64 (IntKind.i64.wrap (m + 1))] else if 0 + i.toNat = 0 + i.toNat then putEl false false (g (0 + i.toNat)) (0 + 0 + 0) [F.int IntKind.i64 m] else g (0 + i.toNat)) (0 + 2 + 0) [F.int IntKind.i64 (IntKind.i64.wrap (IntKind.i64.wrap (m + 1) + 1))] else if 0 + i.toNat = 0 + i.toNat then putEl false false (if 0 + i.toNat = 0 + i.toNat then putEl false false (g (0 + i.toNat)) (0 + 0 + 0) [F.int IntKind.i64 m] else g (0 + i.toNat)) (0 + 0 + 1) [F.int IntKind.i64 (IntKind.i64.wrap (m + 1))] else if 0 + i.toNat = 0 + i.toNat then putEl false false (g (0 + i.toNat)) (0 + 0 + 0) [F.int IntKind.i64 m] else g (0 + i.toNat)).cells.length = 4))
                                       (bsel ((isAggF (if 0 + i.toNat = 0 + i.toNat then putEl false false (if 0 + i.toNat = 0 + i.toNat then putEl false false (if 0 + i.toNat = 0 + i.toNat then putEl false false (g (0 + i.toNat)) (0 + 0 + 0) [F.int IntKind.i64 m] else g (0 + i.toNat)) (0 + 0 + 1) [F.int IntKind.i64 (IntKind.i64.wrap (m + 1))] else if 0 + i.toNat = 0 + i.toNat then putEl false false (g (0 + i.toNat)) (0 + 0 + 0) [F.int IntKind.i64 m] else g (0 + i.toNat)) (0 + 2 + 0) [F.int IntKind.i64 (IntKind.i64.wrap (IntKind.i64.wrap (m + 1) + 1))] else if 0 + i.toNat = 0 + i.toNat then putEl false false (if 0 + i.toNat = 0 + i.toNat then putEl false false (g (0 + i.toNat)) (0 + 0 + 0) [F.int IntKind.i64 m] else g (0 + i.toNat)) (0 + 0 + 1) [F.int IntKind.i64 (IntKind.i64.wrap (m + 1))] else if 0 + i.toNat = 0 + i.toNat then putEl false false (g (0 + i.toNat)) (0 + 0 + 0) [F.int IntKind.i64 m] else g (0 + i.toNat)) || false) && true)
                                        (c2 (n) (fun j ↦ if j = 0 + i.toNat then putEl false false (if 0 + i.toNat = 0 + i.toNat then putEl false false (if 0 + i.toNat = 0 + i.toNat then putEl false false (if 0 + i.toNat = 0 + i.toNat then putEl false false (g (0 + i.toNat)) (0 + 0 + 0) [F.int IntKind.i64 m] else g (0 + i.toNat)) (0 + 0 + 1) [F.int IntKind.i64 (IntKind.i64.wrap (m + 1))] else if 0 + i.toNat = 0 + i.toNat then putEl false false (g (0 + i.toNat)) (0 + 0 + 0) [F.int IntKind.i64 m] else g (0 + i.toNat)) (0 + 2 + 0) [F.int IntKind.i64 (IntKind.i64.wrap (IntKind.i64.wrap (m + 1) + 1))] else if 0 + i.toNat = 0 + i.toNat then putEl false false (if 0 + i.toNat = 0 + i.toNat then putEl false false (g (0 + i.toNat)) (0 + 0 + 0) [F.int IntKind.i64 m] else g (0 + i.toNat)) (0 + 0 + 1) [F.int IntKind.i64 (IntKind.i64.wrap (m + 1))] else if 0 + i.toNat = 0 + i.toNat then putEl false false (g (0 + i.toNat)) (0 + 0 + 0) [F.int IntKind.i64 m] else g (0 + i.toNat)) (0 + 2 + 1) [F.int IntKind.i64 (IntKind.i64.wrap (IntKind.i64.wrap (IntKind.i64.wrap (m + 1) + 1) + 1))] else if j = 0 + i.toNat then putEl false false (if 0 + i.toNat = 0 + i.toNat then putEl false false (if 0 + i.toNat = 0 + i.toNat then putEl false false (g (0 + i.toNat)) (0 + 0 + 0) [F.int IntKind.i64 m] else g (0 + i.toNat)) (0 + 0 + 1) [F.int IntKind.i64 (IntKind.i64.wrap (m + 1))] else if 0 + i.toNat = 0 + i.toNat then putEl false false (g (0 + i.toNat)) (0 + 0 + 0) [F.int IntKind.i64 m] else g (0 + i.toNat)) (0 + 2 + 0) [F.int IntKind.i64 (IntKind.i64.wrap (IntKind.i64.wrap (m + 1) + 1))] else if j = 0 + i.toNat then putEl false false (if 0 + i.toNat = 0 + i.toNat then putEl false false (g (0 + i.toNat)) (0 + 0 + 0) [F.int IntKind.i64 m] else g (0 + i.toNat)) (0 + 0 + 1) [F.int IntKind.i64 (IntKind.i64.wrap (m + 1))] else if j = 0 + i.toNat then putEl false false (g (0 + i.toNat)) (0 + 0 + 0) [F.int IntKind.i64 m] else g j) (IntKind.i64.wrap (IntKind.i64.wrap (IntKind.i64.wrap (IntKind.i64.wrap (m + 1) + 1) + 1) + 1)) (IntKind.i64.wrap (i + 1)))
                                        none)
                                       none)
                                      none)
                                     none)
                                    none)
                                   none)
                                  none)
                                 none)
                                none)
                               none)
                              none)
                             none)
                            none)
                           none)
                          none)
                         none)
                        none)
                       none)
                      none)
                     none)
                    none)
                   none)
                  none)
                 none)
                none)
               none)
              none)
             none)
            none)
           none)
          none)
         none)
        none)
       none)
      none)
     none)
    (ret (m) (g)))
   none)
def L21_2 : Nat → (Nat) → (Nat → F) → (Int) → (Int) → Option ((Int) × (Nat → F))
  | 0, _, _, _, _ => none
  | k + 1, n, g, m, i => T21_2 (fun r g2 => some (r, g2)) (L21_2 k) n g m i
def T21 {ρ : Type} (ret : (Int) → (Nat → F) → Option ρ) (c2 : (Nat) → (Nat → F) → (Int) → (Int) → Option ρ) (n : Nat) (g : Nat → F) (m : Int) : Option ρ :=
  (c2 (n) (g) (m) (0))
def G21 (k : Nat) (n : Nat) (g : Nat → F) (m : Int) : Option ((Int) × (Nat → F)) := T21 (fun r g2 => some (r, g2)) (L21_2 k) n g m
theorem t21_2 : ∀ (k : Nat) (n : Nat) (g : Nat → F) (m : Int) (i : Int) (r : Int) (g2 : Nat → F), L21_2 k n g m i = some (r, g2) → EndsN Try.prog 1 Try.f21.results.toList (at_ Try.f21 2) (S21_2 n g m i) (F.tup [F.int .i64 r, F.sl n g2])
  | 0, _, _, _, _, _, _, h => nomatch h
  | k + 1, n, g, m, i, r, g2, h => by
    refine Ends.of_cut tyOK envQ2_ok (T := [(2, [0, 1, 5], 1000)]) (n := 200) ?_
    have e : runCut Try.prog (tiOf Try.prog) envQ2 [(2, [0, 1, 5], 1000)] 1 Try.f21.results.toList some 200 (at_ Try.f21 2) (S21_2 n g m i) = T21_2 (fun r g2 => some (.ret (F.tup [F.int .i64 r, F.sl n g2]))) (fun n g m i => some (.cut (at_ Try.f21 2) (S21_2 n g m i))) n g m i := by kernel_rfl
    rw [e]
    exact (good_sel h (fun _ h => (good_sel h (fun _ h => (good_sel h (fun _ h => (good_sel h (fun _ h => (good_sel h (fun _ h => (good_sel h (fun _ h => (good_sel h (fun _ h => (good_sel h (fun _ h => (good_sel h (fun _ h => (good_sel h (fun _ h => (good_sel h (fun _ h => (good_sel h (fun _ h => (good_sel h (fun _ h => (good_sel h (fun _ h => (good_sel h (fun _ h => (good_sel h (fun _ h => (good_sel h (fun _ h => (good_sel h (fun _ h => (good_sel h (fun _ h => (good_sel h (fun _ h => (good_sel h (fun _ h => (good_sel h (fun _ h => (good_sel h (fun _ h => (good_sel h (fun _ h => (good_sel h (fun _ h => (good_sel h (fun _ h => (good_sel h (fun _ h => (good_sel h (fun _ h => (good_sel h (fun _ h => (good_sel h (fun _ h => (good_sel h (fun _ h => (good_sel h (fun _ h => (good_sel h (fun _ h => (good_sel h (fun _ h => (good_sel h (fun _ h => (good_sel h (fun _ h => (good_sel h (fun _ h => (good_sel h (fun _ h => good_cut (t21_2 k _ _ _ _ r g2 h)) (fun _ h => nomatch h))) (fun _ h => nomatch h))) (fun _ h => nomatch h))) (fun _ h => nomatch h))) (fun _ h => nomatch h))) (fun _ h => nomatch h))) (fun _ h => nomatch h))) (fun _ h => nomatch h))) (fun _ h => nomatch h))) (fun _ h => nomatch h))) (fun _ h => nomatch h))) (fun _ h => nomatch h))) (fun _ h => nomatch h))) (fun _ h => nomatch h))) (fun _ h => nomatch h))) (fun _ h => nomatch h))) (fun _ h => nomatch h))) (fun _ h => nomatch h))) (fun _ h => nomatch h))) (fun _ h => nomatch h))) (fun _ h => nomatch h))) (fun _ h => nomatch h))) (fun _ h => nomatch h))) (fun _ h => nomatch h))) (fun _ h => nomatch h))) (fun _ h => nomatch h))) (fun _ h => nomatch h))) (fun _ h => nomatch h))) (fun _ h => nomatch h))) (fun _ h => nomatch h))) (fun _ h => nomatch h))) (fun _ h => nomatch h))) (fun _ h => nomatch h))) (fun _ h => nomatch h))) (fun _ h => nomatch h))) (fun _ h => nomatch h))) (fun _ h => good_ret (by cases h; rfl)))) (fun _ h => nomatch h))
theorem t21 (k : Nat) (n : Nat) (g : Nat → F) (m : Int) (r : Int) (g2 : Nat → F) (h : G21 k n g m = some (r, g2)) : EndsN Try.prog 1 Try.f21.results.toList [.code (bodyOf Try.f21)] (startN Try.f21.ntmps [U.hs 0 n 0 n, U.f (F.int .i64 m)] [HO.arr 4 n g]) (F.tup [F.int .i64 r, F.sl n g2]) := by
  refine Ends.of_run tyOK envQ2_ok (T := [(2, [0, 1, 5], 1000)]) (n := 200) ?_
  have e : run Try.prog (tiOf Try.prog) envQ2 [(2, [0, 1, 5], 1000)] 1 Try.f21.results.toList some 200 [.code (bodyOf Try.f21)] (startN Try.f21.ntmps [U.hs 0 n 0 n, U.f (F.int .i64 m)] [HO.arr 4 n g]) = T21 (fun r g2 => some (.ret (F.tup [F.int .i64 r, F.sl n g2]))) (fun n g m i => some (.cut (at_ Try.f21 2) (S21_2 n g m i))) n g m := by kernel_rfl
  rw [e]
  exact good_cut (t21_2 k _ _ _ _ r g2 h)
/-! ### function 21 -/
def S21z_2 (m : Int) : St := ⟨[(U.f (F.sl 0 (fun _ => F.dflt))), (U.f (F.int .i64 m)), .bad, .bad, .bad, (U.f (F.int .i64 0)), .bad, .bad, .bad, .bad, .bad, .bad, .bad, .bad, .bad, .bad, .bad, .bad, .bad, .bad, .bad, .bad, .bad, .bad, .bad, .bad, .bad, .bad, .bad, .bad, .bad, .bad, .bad, .bad, .bad, .bad, .bad, .bad, .bad, .bad, .bad, .bad, .bad, .bad, .bad], []⟩
def T21z_2 {ρ : Type} (ret : (Int) → Option ρ) (c2 : (Int) → Option ρ) (m : Int) : Option ρ :=
  (ret (m))
def L21z_2 : Nat → (Int) → Option (Int)
  | 0, _ => none
  | k + 1, m => T21z_2 some (L21z_2 k) m
def T21z {ρ : Type} (ret : (Int) → Option ρ) (c2 : (Int) → Option ρ) (m : Int) : Option ρ :=
  (c2 (m))
def G21z (k : Nat) (m : Int) : Option (Int) := T21z some (L21z_2 k) m
theorem t21z_2 : ∀ (k : Nat) (m : Int) (r : Int), L21z_2 k m = some r → Ends Try.prog Try.f21.results.toList (at_ Try.f21 2) (S21z_2 m) (F.int .i64 r)
  | 0, _, _, h => nomatch h
  | k + 1, m, r, h => by
    refine Ends.of_cut tyOK envQ2_ok (T := [(2, [0, 1, 5], 1000)]) (n := 200) ?_
    have e : runCut Try.prog (tiOf Try.prog) envQ2 [(2, [0, 1, 5], 1000)] 0 Try.f21.results.toList some 200 (at_ Try.f21 2) (S21z_2 m) = T21z_2 (fun r => some (.ret (F.int .i64 r))) (fun m => some (.cut (at_ Try.f21 2) (S21z_2 m))) m := by kernel_rfl
    rw [e]
    exact good_ret (by cases h; rfl)
theorem t21z (k : Nat) (m : Int) (r : Int) (h : G21z k m = some r) : Ends Try.prog Try.f21.results.toList [.code (bodyOf Try.f21)] (start Try.f21.ntmps ([F.sl 0 (fun _ => F.dflt), F.int .i64 m].map .f)) (F.int .i64 r) := by
  refine Ends.of_run tyOK envQ2_ok (T := [(2, [0, 1, 5], 1000)]) (n := 200) ?_
  have e : run Try.prog (tiOf Try.prog) envQ2 [(2, [0, 1, 5], 1000)] 0 Try.f21.results.toList some 200 [.code (bodyOf Try.f21)] (start Try.f21.ntmps ([F.sl 0 (fun _ => F.dflt), F.int .i64 m].map .f)) = T21z (fun r => some (.ret (F.int .i64 r))) (fun m => some (.cut (at_ Try.f21 2) (S21z_2 m))) m := by kernel_rfl
  rw [e]
  exact good_cut (t21z_2 k _ r h)
theorem scal_of {n : Nat} {g : Nat → F} (h : ∀ j, j < n → scalar (g j) = true) : isScal n g = true := by
  unfold isScal
  rw [List.all_eq_true]
  intro i hi
  exact h i (List.mem_range.1 hi)
theorem windowO_loop (l : List Sg) (lx ly hx hy : Int) (hl : l.length ≤ 40) : ∀ (d i n : Nat) (g : Nat → F) (o : List Int), i + d = l.length → n ≤ i → Lists i64F 0 n g o →
    ∃ n1 g1, L18o_5 (d + 1) l lx ly hx hy n g i = some (F.tup [F.tup [.int .i64 ((1 : Nat) : Int), .sl n1 g1], .bool true]) ∧ Lists i64F 0 n1 g1 (o ++ hitsFrom l lx ly hx hy i)
  | 0, i, n, g, o, h, hn, hg => by
    have c1 : decide ((i : Int) < (l.length : Int)) = false := decide_eq_false (by omega)
    have c2 : isScal n g = true := scal_of fun j hj => by rw [hg.2 j hj]; rfl
    refine ⟨n, g, ?_, ?_⟩
    · simp only [L18o_5, T18o_5, c1, c2, bsel_false, decide_true, bsel_true, Bool.and_self]
    · obtain rfl : i = l.length := by omega
      rw [hits_end, List.append_nil]
      exact hg
  | d + 1, i, n, g, o, h, hn, hg => by
    have hi : i < l.length := by omega
    have c1 : decide ((i : Int) < (l.length : Int)) = true := decide_eq_true (by omega)
    have c2 : decide (0 ≤ (i : Int)) = true := decide_eq_true (by omega)
    have hw : IntKind.i64.wrap ((i : Int) + 1) = ((i + 1 : Nat) : Int) := by rw [wrapi (by omega) (by omega)]; omega
    have c3 : decide (((n + 1 : Nat) : Int) * (((8 : Nat) : Int) + 1) ≤ (limit : Int)) = true := by rw [limit_eq]; exact decide_eq_true (by omega)
    rw [L18o_5]
    simp only [T18o_5, c1, c2, c3, hw, bsel_true, decide_true, Int.toNat_natCast]
    rw [hits_step l lx ly hx hy hi]
    have hv : meetsV (l.getD i Sg.zero).x0 (l.getD i Sg.zero).y0 (l.getD i Sg.zero).x1 (l.getD i Sg.zero).y1 lx ly hx hy = hitV lx ly hx hy (l.getD i .zero) := rfl
    rw [hv]
    cases hitV lx ly hx hy (l.getD i .zero) with
    | true =>
      obtain ⟨n1, g1, e1, e2⟩ := windowO_loop l lx ly hx hy hl d (i + 1) (n + 1) _ (o ++ [(i : Int)]) (by omega) (by omega) (hg.push (i : Int))
      refine ⟨n1, g1, e1, ?_⟩
      rw [if_pos rfl]
      rw [List.append_assoc] at e2
      exact e2
    | false =>
      obtain ⟨n1, g1, e1, e2⟩ := windowO_loop l lx ly hx hy hl d (i + 1) n g o (by omega) (by omega) hg
      exact ⟨n1, g1, e1, by simpa using e2⟩
def windowC : List F → Bool | [x, .agg [.int .i64 a, .int .i64 b], .agg [.int .i64 c, .int .i64 d]] => windowOkV (unSegs x) a b c d | _ => false
def ownWin1 : List F → F | [x, .agg [.int .i64 a, .int .i64 b], .agg [.int .i64 c, .int .i64 d]] => .tup [.tup [.int .i64 1, .sl (windowV (unSegs x) a b c d).length fun i => i64F ((windowV (unSegs x) a b c d).getD i 0)], .bool true] | _ => .dflt
def ownWin2 : List F → F := fun _ => .tup [.tup [], .bool false]
theorem okWindowO : SpOK Try.prog 18 (.own preWindow windowC ownWin1 ownWin2) :=
  fn_own (c := bodyOf Try.f18) Try.func18 (by kernel_rfl) (by kernel_rfl) fun xs hp => match xs, hp with
  | [x, .agg [.int .i64 a, .int .i64 b], .agg [.int .i64 c, .int .i64 d]], hp => by
    have hx := (segs_eqv hp).1
    have hc : windowC [x, .agg [.int .i64 a, .int .i64 b], .agg [.int .i64 c, .int .i64 d]] = windowOkV (unSegs x) a b c d := rfl
    have h1 : ownWin1 [x, .agg [.int .i64 a, .int .i64 b], .agg [.int .i64 c, .int .i64 d]] = .tup [.tup [.int .i64 1, .sl (windowV (unSegs x) a b c d).length fun i => i64F ((windowV (unSegs x) a b c d).getD i 0)], .bool true] := rfl
    rw [hc, h1]
    generalize unSegs x = l at hx ⊢
    have hg : ∀ r, G18o (l.length + 1) l a b c d = some r → Ends Try.prog (.tmp 1000000 :: Try.f18.results.toList) [.code (bodyOf Try.f18)] (start Try.f18.ntmps ([segsF l, F.agg [F.int .i64 a, F.int .i64 b], F.agg [F.int .i64 c, F.int .i64 d]].map .f)) r := fun r h => t18o _ l a b c d r h
    unfold G18o T18o at hg
    simp only [isSegs_segsF, unSegs_segsF, bsel_true] at hg
    unfold windowOkV windowV
    cases hs : segsOkV l with
    | false =>
      rw [hs] at hg
      exact ⟨[segsF l, _, _], _, [.tup [], .bool false], ⟨hx, .refl _, .refl _, trivial⟩, hg _ rfl, ⟨.nil, .dat _ rfl, trivial⟩, rfl⟩
    | true => cases hb : boxOkV a b c d with
      | false =>
        rw [hs, hb] at hg
        exact ⟨[segsF l, _, _], _, [.tup [], .bool false], ⟨hx, .refl _, .refl _, trivial⟩, hg _ rfl, ⟨.nil, .dat _ rfl, trivial⟩, rfl⟩
      | true =>
        rw [hs, hb] at hg
        obtain ⟨n1, g1, e1, e2⟩ := windowO_loop l a b c d (segsOk_iff.1 hs).1 l.length 0 0 (lget []) [] (by omega) (by omega) Lists.nil
        rw [List.nil_append] at e2
        obtain ⟨rfl, e3⟩ := e2
        exact ⟨[segsF l, _, _], _, [.tup [.int .i64 1, .sl (hitsFrom l a b c d 0).length fun i => i64F ((hitsFrom l a b c d 0).getD i 0)], .bool true], ⟨hx, .refl _, .refl _, trivial⟩, hg _ e1, ⟨.obj _ _ _ _ _ e3, .dat _ rfl, trivial⟩, rfl⟩
theorem windowO_same (l : List Sg) (lx ly hx hy : Int) : ∀ (k n : Nat) (g : Nat → F) (x : Int), L15o_5 k l lx ly hx hy n g x = L18o_5 k l lx ly hx hy n g x
  | 0, _, _, _ => rfl
  | k + 1, n, g, x => by
    rw [L18o_5, L15o_5]
    simp only [T18o_5, T15o_5, windowO_same l lx ly hx hy k]
theorem okWindowOS : SpOK Try.prog 15 (.own preWindow windowC ownWin1 ownWin2) :=
  fn_own (c := bodyOf Try.f15) Try.func15 (by kernel_rfl) (by kernel_rfl) fun xs hp => match xs, hp with
  | [x, .agg [.int .i64 a, .int .i64 b], .agg [.int .i64 c, .int .i64 d]], hp => by
    have hx := (segs_eqv hp).1
    have hc : windowC [x, .agg [.int .i64 a, .int .i64 b], .agg [.int .i64 c, .int .i64 d]] = windowOkV (unSegs x) a b c d := rfl
    have h1 : ownWin1 [x, .agg [.int .i64 a, .int .i64 b], .agg [.int .i64 c, .int .i64 d]] = .tup [.tup [.int .i64 1, .sl (windowV (unSegs x) a b c d).length fun i => i64F ((windowV (unSegs x) a b c d).getD i 0)], .bool true] := rfl
    rw [hc, h1]
    generalize unSegs x = l at hx ⊢
    have hg : ∀ r, G15o (l.length + 1) l a b c d = some r → Ends Try.prog (.tmp 1000000 :: Try.f15.results.toList) [.code (bodyOf Try.f15)] (start Try.f15.ntmps ([segsF l, F.agg [F.int .i64 a, F.int .i64 b], F.agg [F.int .i64 c, F.int .i64 d]].map .f)) r := fun r h => t15o _ l a b c d r h
    unfold G15o T15o at hg
    simp only [isSegs_segsF, unSegs_segsF, bsel_true] at hg
    unfold windowOkV windowV
    cases hs : segsOkV l with
    | false =>
      rw [hs] at hg
      exact ⟨[segsF l, _, _], _, [.tup [], .bool false], ⟨hx, .refl _, .refl _, trivial⟩, hg _ rfl, ⟨.nil, .dat _ rfl, trivial⟩, rfl⟩
    | true => cases hb : boxOkV a b c d with
      | false =>
        rw [hs, hb] at hg
        exact ⟨[segsF l, _, _], _, [.tup [], .bool false], ⟨hx, .refl _, .refl _, trivial⟩, hg _ rfl, ⟨.nil, .dat _ rfl, trivial⟩, rfl⟩
      | true =>
        rw [hs, hb] at hg
        simp only [windowO_same] at hg
        obtain ⟨n1, g1, e1, e2⟩ := windowO_loop l a b c d (segsOk_iff.1 hs).1 l.length 0 0 (lget []) [] (by omega) (by omega) Lists.nil
        rw [List.nil_append] at e2
        obtain ⟨rfl, e3⟩ := e2
        exact ⟨[segsF l, _, _], _, [.tup [.int .i64 1, .sl (hitsFrom l a b c d 0).length fun i => i64F ((hitsFrom l a b c d 0).getD i 0)], .bool true], ⟨hx, .refl _, .refl _, trivial⟩, hg _ e1, ⟨.obj _ _ _ _ _ e3, .dat _ rfl, trivial⟩, rfl⟩
def resSzSegs : List F → F | [a, .int .i64 k] => .int .i64 (leftV (unSegs a).length k) | _ => .dflt
def preSzSegs : List F → Bool | [a, .int .i64 _] => isSegs a | _ => false
theorem okSzSegs : PureOK Try.prog 14 preSzSegs resSzSegs :=
  fn_pure_at (c := bodyOf Try.f14) Try.func14 (by kernel_rfl) (by kernel_rfl) fun xs hp => match xs, hp with
  | [a, .int .i64 k], hp => ⟨[segsF (unSegs a), .int .i64 k], _, ⟨(segs_eqv hp).1, .refl _, trivial⟩, t14 _ _ (leftV (unSegs a).length k) (by
      unfold G14 T14 leftV
      cases decide (IntKind.i64.wrap (k - ((unSegs a).length : Int)) < 0) <;> rfl), .refl _⟩
def sgZ : F := F.agg [F.int IntKind.i64 0, F.int IntKind.i64 0, F.int IntKind.i64 0, F.int IntKind.i64 0]
theorem toSegs_loop (a : List Sg) (hs : a.length ≤ 1048576) : ∀ (d i : Nat) (g : Nat → F), i + d = a.length → Fills sgF .zero sgZ a i g → ∃ g1, L16_3 (d + 1) a a.length g i = some (F.tup [F.tup [.int .i64 ((4 : Nat) : Int), .sl a.length g1]]) ∧ Lists sgF .zero a.length g1 a
  | 0, i, g, h, hg => by
    have c1 : decide ((i : Int) < (a.length : Int)) = false := decide_eq_false (by omega)
    obtain rfl : i = a.length := by omega
    have c2 : isScal a.length g = true := scal_of fun j hj => by rw [(hg j).1 hj]; rfl
    exact ⟨g, by simp only [L16_3, T16_3, c1, c2, bsel_false, decide_true, bsel_true, Bool.and_self], hg.lists⟩
  | d + 1, i, g, h, hg => by
    have hi : i < a.length := by omega
    have c1 : decide ((i : Int) < (a.length : Int)) = true := decide_eq_true (by omega)
    have c2 : decide (0 ≤ (i : Int)) = true := decide_eq_true (by omega)
    have c3 : decide (i < a.length) = true := decide_eq_true hi
    have hw : IntKind.i64.wrap ((i : Int) + 1) = ((i + 1 : Nat) : Int) := by rw [wrapi (by omega) (by omega)]; omega
    have c4 : g i = sgZ := (hg i).2 (Nat.le_refl _)
    obtain ⟨g1, e1, e2⟩ := toSegs_loop a hs d (i + 1) _ (by omega) hg.set
    refine ⟨g1, ?_, e2⟩
    rw [← e1, L16_3]
    simp only [T16_3, c1, c2, c3, hw, bsel_true, decide_true, Int.toNat_natCast, Nat.zero_add, c4]
    rfl
def shortSegsV (l : List Sg) : Bool := decide (l.length ≤ 1048576)
def preToSegs : List F → Bool | [a] => isSegs a && shortSegsV (unSegs a) | _ => false
def resToSegs : List F → F | [a] => .tup [.tup [.int .i64 4, .sl (unSegs a).length fun i => sgF ((unSegs a).getD i .zero)]] | _ => .dflt
theorem okToSegs : SpOK Try.prog 16 (.own preToSegs (fun _ => true) resToSegs resToSegs) :=
  fn_own (c := bodyOf Try.f16) Try.func16 (by kernel_rfl) (by kernel_rfl) fun xs hp => match xs, hp with
  | [a], hp => by
    simp only [preToSegs, Bool.and_eq_true] at hp
    have hs := of_decide_eq_true hp.2
    have hx := (segs_eqv hp.1).1
    have h1 : resToSegs [a] = .tup [.tup [.int .i64 4, .sl (unSegs a).length fun i => sgF ((unSegs a).getD i .zero)]] := rfl
    simp only [if_true]
    rw [h1]
    generalize unSegs a = l at hx hs ⊢
    obtain ⟨g1, e1, e2⟩ := toSegs_loop l hs l.length 0 _ (by omega) Fills.zero
    have c3 : decide (((l.length : Nat) : Int) * (((32 : Nat) : Int) + 1) ≤ (limit : Int)) = true := by rw [limit_eq]; exact decide_eq_true (by omega)
    have hg : G16 (l.length + 1) l = some (F.tup [F.tup [.int .i64 ((4 : Nat) : Int), .sl l.length g1]]) := by
      unfold G16 T16
      simp only [c3, Int.le_refl, decide_true, bsel_true, Int.toNat_natCast]
      exact e1
    exact ⟨[segsF l], _, [.tup [.int .i64 4, .sl l.length fun i => sgF (l.getD i .zero)]], ⟨hx, trivial⟩, t16 _ _ _ hg, ⟨.obj _ _ _ _ _ e2.2, trivial⟩, rfl⟩
def sameSegsV : List Sg → List Sg → Bool
  | [], [] => true
  | a :: a', b :: b' => sameSegV a b && sameSegsV a' b'
  | _, _ => false
theorem sameSegs_ne : ∀ (a b : List Sg), a.length ≠ b.length → sameSegsV a b = false
  | [], [], h => absurd rfl h
  | [], _ :: _, _ => rfl
  | _ :: _, [], _ => rfl
  | a :: a', b :: b', h => by rw [sameSegsV, sameSegs_ne a' b' (by simpa using h), Bool.and_false]
theorem sameSegs_refl : ∀ a : List Sg, sameSegsV a a = true
  | [] => rfl
  | t :: a => by simp [sameSegsV, sameSegV, sameSpotV, sameSegs_refl a]
theorem eqSegs_loop (a b : List Sg) (hl : a.length = b.length) (hs : a.length ≤ 1048576) : ∀ (d i : Nat), i + d = a.length → L20_4 (d + 1) a b i = some (sameSegsV (a.drop i) (b.drop i))
  | 0, i, h => by
    have c1 : decide ((i : Int) < (a.length : Int)) = false := decide_eq_false (by omega)
    simp only [L20_4, T20_4, c1, bsel_false]
    rw [List.drop_eq_nil_of_le (by omega), List.drop_eq_nil_of_le (by omega)]
    rfl
  | d + 1, i, h => by
    have hi : i < a.length := by omega
    have c1 : decide ((i : Int) < (a.length : Int)) = true := decide_eq_true (by omega)
    have c3 : decide ((i : Int) < (b.length : Int)) = true := decide_eq_true (by omega)
    have c2 : decide (0 ≤ (i : Int)) = true := decide_eq_true (by omega)
    have hw : IntKind.i64.wrap ((i : Int) + 1) = ((i + 1 : Nat) : Int) := by rw [wrapi (by omega) (by omega)]; omega
    have h1 : a.getD i .zero = a[i] := by simp [List.getD, List.getElem?_eq_getElem hi]
    have h2 : b.getD i .zero = b[i]'(by omega) := by simp [List.getD, List.getElem?_eq_getElem (show i < b.length by omega)]
    rw [L20_4]
    simp only [T20_4, c1, c2, c3, hw, eqSegs_loop a b hl hs d (i + 1) (by omega), bsel_true, Int.toNat_natCast]
    rw [List.drop_eq_getElem_cons hi, List.drop_eq_getElem_cons (show i < b.length by omega), sameSegsV, h1, h2]
    cases sameSegV a[i] (b[i]'(by omega)) <;> rfl
def preEqSegs : List F → Bool | [a, b] => isSegs a && isSegs b && shortSegsV (unSegs a) | _ => false
def resEqSegs : List F → F | [a, b] => .bool (sameSegsV (unSegs a) (unSegs b)) | _ => .dflt
theorem eqSegs_law (a b : List Sg) (hs : shortSegsV a = true) : G20 (a.length + 1) a b = some (sameSegsV a b) := by
  unfold G20 T20
  rw [bne]
  cases h : ((a.length : Int) == (b.length : Int)) with
  | true => exact eqSegs_loop a b (by have := eq_of_beq h; omega) (of_decide_eq_true hs) a.length 0 (by omega)
  | false => rw [sameSegs_ne a b fun e => by simp [e] at h]; rfl
theorem okEqSegs : PureOK Try.prog 20 preEqSegs resEqSegs :=
  fn_pure_at (c := bodyOf Try.f20) Try.func20 (by kernel_rfl) (by kernel_rfl) fun xs hp => match xs, hp with
  | [a, b], hp => by
    simp only [preEqSegs, Bool.and_eq_true] at hp
    exact ⟨[segsF (unSegs a), segsF (unSegs b)], _, ⟨(segs_eqv hp.1.1).1, (segs_eqv hp.1.2).1, trivial⟩, t20 _ _ _ _ (eqSegs_law _ _ hp.2), .refl _⟩
def heldV : List Int → Int → Int
  | [], m => m
  | x :: xs, m => bif x != m then -1 else heldV xs (IntKind.i64.wrap (m + 1))
theorem held_loop (a : List Int) (hs : a.length ≤ 1048576) : ∀ (d i : Nat) (m : Int), i + d = a.length → L23_2 (d + 1) a m i = some (heldV (a.drop i) m)
  | 0, i, m, h => by
    have c1 : decide ((i : Int) < (a.length : Int)) = false := decide_eq_false (by omega)
    simp only [L23_2, T23_2, c1, bsel_false]
    rw [List.drop_eq_nil_of_le (by omega)]
    rfl
  | d + 1, i, m, h => by
    have hi : i < a.length := by omega
    have c1 : decide ((i : Int) < (a.length : Int)) = true := decide_eq_true (by omega)
    have c2 : decide (0 ≤ (i : Int)) = true := decide_eq_true (by omega)
    have hw : IntKind.i64.wrap ((i : Int) + 1) = ((i + 1 : Nat) : Int) := by rw [wrapi (by omega) (by omega)]; omega
    have h1 : a.getD i 0 = a[i] := by simp [List.getD, List.getElem?_eq_getElem hi]
    rw [L23_2]
    simp only [T23_2, c1, c2, hw, held_loop a hs d (i + 1) _ (by omega), bsel_true, Int.toNat_natCast]
    rw [List.drop_eq_getElem_cons hi, heldV, h1]
    cases (a[i] != m) <;> rfl
def preHeld : List F → Bool | [a, .int .i64 _] => isInts a && shortV (unInts a) | _ => false
def resHeld : List F → F | [a, .int .i64 m] => .int .i64 (heldV (unInts a) m) | _ => .dflt
theorem okHeld : PureOK Try.prog 23 preHeld resHeld :=
  fn_pure_at (c := bodyOf Try.f23) Try.func23 (by kernel_rfl) (by kernel_rfl) fun xs hp => match xs, hp with
  | [a, .int .i64 m], hp => by
    simp only [preHeld, Bool.and_eq_true] at hp
    exact ⟨[intsF (unInts a), .int .i64 m], _, ⟨(ints_eqv hp.1).1, .refl _, trivial⟩, t23 ((unInts a).length + 1) _ _ _ (held_loop _ (of_decide_eq_true hp.2) _ 0 m (by omega)), .refl _⟩
theorem markInts_loop (n : Nat) (m0 : Int) (hs : n ≤ 1048576) (hm : 0 ≤ m0 ∧ m0 ≤ 1048576) : ∀ (d i : Nat) (g : Nat → F), i + d = n → (∀ j, j < i → g j = .int .i64 (m0 + j)) → (∀ j, i ≤ j → j < n → isI64 (g j) = true) →
    ∃ g1, L22_2 (d + 1) n g (m0 + i) i = some (m0 + n, g1) ∧ ∀ j, j < n → g1 j = .int .i64 (m0 + j)
  | 0, i, g, h, hg, hz => by
    obtain rfl : i = n := by omega
    have c1 : decide ((i : Int) < (i : Int)) = false := decide_eq_false (by omega)
    exact ⟨g, by simp only [L22_2, T22_2, c1, bsel_false, decide_true, bsel_true], hg⟩
  | d + 1, i, g, h, hg, hz => by
    have hi : i < n := by omega
    have c1 : decide ((i : Int) < (n : Int)) = true := decide_eq_true (by omega)
    have c2 : decide (0 ≤ (i : Int)) = true := decide_eq_true (by omega)
    have c3 : decide (i < n) = true := decide_eq_true hi
    have hw : IntKind.i64.wrap ((i : Int) + 1) = ((i + 1 : Nat) : Int) := by rw [wrapi (by omega) (by omega)]; omega
    have hw2 : IntKind.i64.wrap (m0 + (i : Int) + 1) = m0 + ((i + 1 : Nat) : Int) := by rw [wrapi (by omega) (by omega)]; omega
    have c4 : ∃ v, g i = .int .i64 v := ⟨unI64 (g i), (i64_eq (hz i (Nat.le_refl _) hi)).symm⟩
    obtain ⟨v, c4⟩ := c4
    obtain ⟨g1, e1, e2⟩ := markInts_loop n m0 hs hm d (i + 1) (fun j => if j = i then .int .i64 (m0 + i) else g j) (by omega) (fun j hj => by
      by_cases e : j = i
      · rw [if_pos e, e]
      · rw [if_neg e]; exact hg j (by omega)) (fun j h1 h2 => by
      rw [if_neg (by omega)]; exact hz j (by omega) h2)
    refine ⟨g1, ?_, e2⟩
    rw [← e1, L22_2]
    simp only [T22_2, c1, c2, c3, hw, hw2, bsel_true, decide_true, Int.toNat_natCast, Nat.zero_add, c4]
    rfl
def preMark (n : Nat) (g : Nat → F) : List F → Bool | [.int .i64 m] => isInts (.sl n g) && decide (n ≤ 1048576) && decide (0 ≤ m) && decide (m ≤ 1048576) | _ => false
def resMark (n : Nat) (g : Nat → F) : List F → F × (Nat → F) | [.int .i64 m] => (.int .i64 (m + n), fun j => .int .i64 (m + j)) | _ => (.dflt, g)
theorem okMark : SpOK Try.prog 22 (.arrw 1 preMark resMark) :=
  fn_arrw (c := bodyOf Try.f22) Try.func22 (by kernel_rfl) (by kernel_rfl) (fun n g xs hp => match xs, hp with
    | [.int .i64 m], hp => by
      simp only [preMark, Bool.and_eq_true, decide_eq_true_eq] at hp
      obtain ⟨⟨⟨h1, h2⟩, h3⟩, h4⟩ := hp
      simp only [isInts, isSl, List.all_eq_true, List.mem_range] at h1
      obtain ⟨g1, e1, e2⟩ := markInts_loop n m h2 ⟨h3, h4⟩ n 0 g (by omega) (fun j hj => by omega) (fun j _ hj => h1 j hj)
      exact ⟨rfl, g1, t22 (n + 1) n g m _ _ (by
        unfold G22 T22
        simpa using e1), e2⟩)
    (fn_pure_at (c := bodyOf Try.f22) Try.func22 (by kernel_rfl) (by kernel_rfl) fun xs hp => match xs, hp with
    | [.sl 0 _, .int .i64 m], hp => ⟨[.sl 0 fun _ => F.dflt, .int .i64 m], _, ⟨FLe.sl fun j hj => by omega, .refl _, trivial⟩, t22z 2 m _ rfl, by
        have : resMark 0 (fun _ => F.dflt) [F.int .i64 m] = (.int .i64 (m + ((0 : Nat) : Int)), fun j => .int .i64 (m + j)) := rfl
        simp only [List.tail_cons, this]
        rw [show m + ((0 : Nat) : Int) = m by omega]
        exact .refl _⟩)
def markSg (m : Int) (j : Nat) : F := .agg [.int .i64 (m + 4 * j), .int .i64 (m + 4 * j + 1), .int .i64 (m + 4 * j + 2), .int .i64 (m + 4 * j + 3)]
theorem markSegs_loop (n : Nat) (m0 : Int) (hs : n ≤ 1048576) (hm : 0 ≤ m0 ∧ m0 ≤ 1048576) : ∀ (d i : Nat) (g : Nat → F), i + d = n → (∀ j, j < i → g j = markSg m0 j) → (∀ j, i ≤ j → j < n → isSg (g j) = true) →
    ∃ g1, L21_2 (d + 1) n g (m0 + 4 * i) i = some (m0 + 4 * n, g1) ∧ ∀ j, j < n → g1 j = markSg m0 j
  | 0, i, g, h, hg, hz => by
    obtain rfl : i = n := by omega
    have c1 : decide ((i : Int) < (i : Int)) = false := decide_eq_false (by omega)
    exact ⟨g, by simp only [L21_2, T21_2, c1, bsel_false, decide_true, bsel_true], hg⟩
  | d + 1, i, g, h, hg, hz => by
    have hi : i < n := by omega
    have c1 : decide ((i : Int) < (n : Int)) = true := decide_eq_true (by omega)
    have c2 : decide (0 ≤ (i : Int)) = true := decide_eq_true (by omega)
    have c3 : decide (i < n) = true := decide_eq_true hi
    have hw : IntKind.i64.wrap ((i : Int) + 1) = ((i + 1 : Nat) : Int) := by rw [wrapi (by omega) (by omega)]; omega
    have w1 : IntKind.i64.wrap (m0 + 4 * (i : Int) + 1) = m0 + 4 * (i : Int) + 1 := wrapi (by omega) (by omega)
    have w2 : IntKind.i64.wrap (m0 + 4 * (i : Int) + 1 + 1) = m0 + 4 * (i : Int) + 2 := by rw [wrapi (by omega) (by omega)]; omega
    have w3 : IntKind.i64.wrap (m0 + 4 * (i : Int) + 2 + 1) = m0 + 4 * (i : Int) + 3 := by rw [wrapi (by omega) (by omega)]; omega
    have w4 : IntKind.i64.wrap (m0 + 4 * (i : Int) + 3 + 1) = m0 + 4 * ((i + 1 : Nat) : Int) := by rw [wrapi (by omega) (by omega)]; omega
    obtain ⟨s, c4⟩ : ∃ s, g i = sgF s := ⟨unSg (g i), (sg_eq (hz i (Nat.le_refl _) hi)).symm⟩
    obtain ⟨g1, e1, e2⟩ := markSegs_loop n m0 hs hm d (i + 1) (fun j => if j = i then markSg m0 i else g j) (by omega) (fun j hj => by
      by_cases e : j = i
      · rw [if_pos e, e]
      · rw [if_neg e]; exact hg j (by omega)) (fun j h1 h2 => by
      rw [if_neg (by omega)]; exact hz j (by omega) h2)
    refine ⟨g1, ?_, e2⟩
    rw [← e1, L21_2]
    have p1 : ∀ (s : Sg) (v : Int), putEl false false (sgF s) 0 [.int .i64 v] = sgF ⟨v, s.y0, s.x1, s.y1⟩ := fun _ _ => rfl
    have p2 : ∀ (s : Sg) (v : Int), putEl false false (sgF s) 1 [.int .i64 v] = sgF ⟨s.x0, v, s.x1, s.y1⟩ := fun _ _ => rfl
    have p3 : ∀ (s : Sg) (v : Int), putEl false false (sgF s) 2 [.int .i64 v] = sgF ⟨s.x0, s.y0, v, s.y1⟩ := fun _ _ => rfl
    have p4 : ∀ (s : Sg) (v : Int), putEl false false (sgF s) 3 [.int .i64 v] = sgF ⟨s.x0, s.y0, s.x1, v⟩ := fun _ _ => rfl
    have q1 : ∀ s : Sg, (sgF s).cells.length = 4 := fun _ => rfl
    have q2 : ∀ s : Sg, isAggF (sgF s) = true := fun _ => rfl
    simp only [T21_2, c1, c2, c3, hw, w1, w2, w3, w4, bsel_true, decide_true, Int.toNat_natCast, Nat.zero_add, Nat.add_zero, c4, if_true, p1, p2, p3, p4, q1, q2, Bool.or_false, Bool.and_true]
    congr 1
    funext j
    by_cases e : j = i
    · simp only [e, if_true]; rfl
    · simp only [if_neg e]
def preMarkSg (n : Nat) (g : Nat → F) : List F → Bool | [.int .i64 m] => isSegs (.sl n g) && decide (n ≤ 1048576) && decide (0 ≤ m) && decide (m ≤ 1048576) | _ => false
def resMarkSg (n : Nat) (g : Nat → F) : List F → F × (Nat → F) | [.int .i64 m] => (.int .i64 (m + 4 * n), fun j => markSg m j) | _ => (.dflt, g)
theorem okMarkSg : SpOK Try.prog 21 (.arrw 4 preMarkSg resMarkSg) :=
  fn_arrw (c := bodyOf Try.f21) Try.func21 (by kernel_rfl) (by kernel_rfl) (fun n g xs hp => match xs, hp with
    | [.int .i64 m], hp => by
      simp only [preMarkSg, Bool.and_eq_true, decide_eq_true_eq] at hp
      obtain ⟨⟨⟨h1, h2⟩, h3⟩, h4⟩ := hp
      simp only [isSegs, isSl, List.all_eq_true, List.mem_range] at h1
      obtain ⟨g1, e1, e2⟩ := markSegs_loop n m h2 ⟨h3, h4⟩ n 0 g (by omega) (fun j hj => by omega) (fun j _ hj => h1 j hj)
      exact ⟨rfl, g1, t21 (n + 1) n g m _ _ (by
        unfold G21 T21
        simpa using e1), e2⟩)
    (fn_pure_at (c := bodyOf Try.f21) Try.func21 (by kernel_rfl) (by kernel_rfl) fun xs hp => match xs, hp with
    | [.sl 0 _, .int .i64 m], hp => ⟨[.sl 0 fun _ => F.dflt, .int .i64 m], _, ⟨FLe.sl fun j hj => by omega, .refl _, trivial⟩, t21z 2 m _ rfl, by
        have : resMarkSg 0 (fun _ => F.dflt) [F.int .i64 m] = (.int .i64 (m + 4 * ((0 : Nat) : Int)), fun j => markSg m j) := rfl
        simp only [List.tail_cons, this]
        rw [show m + 4 * ((0 : Nat) : Int) = m by omega]
        exact .refl _⟩)
def envX1 : Env := ((((((envQ2.add 18 (.own preWindow windowC ownWin1 ownWin2)).add 14 (.pure preSzSegs resSzSegs)).add 16 (.own preToSegs (fun _ => true) resToSegs resToSegs)).add 20 (.pure preEqSegs resEqSegs)).add 23 (.pure preHeld resHeld)).add 22 (.arrw 1 preMark resMark)).add 21 (.arrw 4 preMarkSg resMarkSg) |>.add 15 (.own preWindow windowC ownWin1 ownWin2)
theorem envX1_ok : EnvOK Try.prog envX1 := Env.add_ok (Env.add_ok (Env.add_ok (Env.add_ok (Env.add_ok (Env.add_ok (Env.add_ok (Env.add_ok envQ2_ok okWindowO) okSzSegs.sp) okToSegs) okEqSegs.sp) okHeld.sp) okMark) okMarkSg) okWindowOS
end
end Go.Proofs.Ytjbilidfnfnpfaa.R
