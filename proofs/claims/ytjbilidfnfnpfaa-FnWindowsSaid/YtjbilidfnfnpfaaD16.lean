/-
  The walk of windows: the law.
-/
import Derived.Test.YtjbilidfnfnpfaaD15
namespace Go.Proofs.Ytjbilidfnfnpfaa.R
open Go
noncomputable section
set_option linter.unusedVariables false
set_option linter.unusedSimpArgs false
set_option maxRecDepth 100000
/-! ### function 5 -/
def S5_15 (w : List Int) (m : List Int) (x12 : Bool) (x13 : Int) : St := ⟨[.bad, .bad, .bad, .bad, .bad, .bad, (U.f (intsF w)), .bad, .bad, .bad, .bad, (U.f (intsF m)), (U.f (F.bool x12)), (U.f (F.int .i64 x13)), .bad, .bad, .bad, .bad, .bad, .bad, .bad, .bad, .bad, .bad, .bad, .bad, .bad, .bad, .bad, .bad, .bad, .bad, .bad, .bad, .bad, .bad, .bad, .bad, .bad, .bad, .bad, .bad, .bad, .bad, .bad, .bad, .bad, .bad, .bad, .bad, .bad, .bad, .bad, .bad, .bad, .bad, .bad, .bad, .bad, .bad, .bad, .bad, .bad, .bad, .bad, .bad, .bad, .bad, .bad, .bad, .bad, .bad, .bad, .bad, .bad, .bad, .bad, .bad, .bad, .bad, .bad, .bad, .bad, .bad, .bad, .bad, .bad, .bad, .bad, .bad, .bad, .bad, .bad, .bad, .bad, .bad, .bad, .bad, .bad, .bad, .bad, .bad, .bad, .bad, .bad, .bad, .bad, .bad, .bad], []⟩
def S5_9 (l : List Sg) (lx : Int) (ly : Int) (hx : Int) (hy : Int) (w : List Int) (x10 : Int) : St := ⟨[.bad, .bad, .bad, (U.f (segsF l)), (U.hp 0 0), (U.hp 1 0), (U.f (intsF w)), .bad, .bad, .bad, (U.f (F.int .i64 x10)), .bad, .bad, .bad, .bad, .bad, .bad, .bad, .bad, .bad, .bad, .bad, .bad, .bad, .bad, .bad, .bad, .bad, .bad, .bad, .bad, .bad, .bad, .bad, .bad, .bad, .bad, .bad, .bad, .bad, .bad, .bad, .bad, .bad, .bad, .bad, .bad, .bad, .bad, .bad, .bad, .bad, .bad, .bad, .bad, .bad, .bad, .bad, .bad, .bad, .bad, .bad, .bad, .bad, .bad, .bad, .bad, .bad, .bad, .bad, .bad, .bad, .bad, .bad, .bad, .bad, .bad, .bad, .bad, .bad, .bad, .bad, .bad, .bad, .bad, .bad, .bad, .bad, .bad, .bad, .bad, .bad, .bad, .bad, .bad, .bad, .bad, .bad, .bad, .bad, .bad, .bad, .bad, .bad, .bad, .bad, .bad, .bad, .bad], [HO.box [U.f (F.int .i64 lx), U.f (F.int .i64 ly)], HO.box [U.f (F.int .i64 hx), U.f (F.int .i64 hy)]]⟩
def T5_15 {ρ : Type} (ret : (Bool) → Option ρ) (c15 : (List Int) → (List Int) → (Bool) → (Int) → Option ρ) (c9 : (List Sg) → (Int) → (Int) → (Int) → (Int) → (List Int) → (Int) → Option ρ) (w : List Int) (m : List Int) (x12 : Bool) (x13 : Int) : Option ρ :=
  (bsel (x12 == true)
   (bsel (decide (x13 < (↑w.length : Int)))
    (bsel (decide (0 ≤ x13))
     (bsel (decide (x13 < (↑w.length : Int)))
      (bsel (isInts (intsF m) && decide ((unInts (intsF m)).length ≤ 1000000))
       (bsel (!(unInts (intsF m)).any fun x ↦ x == w.getD x13.toNat 0)
        (ret (false))
        (c15 (w) (m) (x12) (IntKind.i64.wrap (x13 + 1))))
       none)
      none)
     none)
    (ret (true)))
   (ret (true)))
def T5_9 {ρ : Type} (ret : (Bool) → Option ρ) (c15 : (List Int) → (List Int) → (Bool) → (Int) → Option ρ) (c9 : (List Sg) → (Int) → (Int) → (Int) → (Int) → (List Int) → (Int) → Option ρ) (l : List Sg) (lx : Int) (ly : Int) (hx : Int) (hy : Int) (w : List Int) (x10 : Int) : Option ρ :=
  (bsel (decide (x10 < (↑l.length : Int)))
   (bsel (isInts (intsF w) && decide ((unInts (intsF w)).length ≤ 1000000))
    (bsel (decide (0 ≤ x10))
     (bsel (decide (x10 < (↑l.length : Int)))
      (bsel (!((unInts (intsF w)).any fun x ↦ x == x10) == meetsBoxV (l.getD x10.toNat Sg.zero).x0 (l.getD x10.toNat Sg.zero).y0 (l.getD x10.toNat Sg.zero).x1 (l.getD x10.toNat Sg.zero).y1 lx ly hx hy)
       (ret (false))
       (c9 (l) (lx) (ly) (hx) (hy) (w) (IntKind.i64.wrap (x10 + 1))))
      none)
     none)
    none)
   (bsel (isSegs (segsF l))
    (c15 (w) (windowV (unSegs (segsF l)) (IntKind.i64.wrap (lx - 1)) (IntKind.i64.wrap (ly - 1)) (IntKind.i64.wrap (hx + 1)) (IntKind.i64.wrap (hy + 1))) (windowOkV (unSegs (segsF l)) (IntKind.i64.wrap (lx - 1)) (IntKind.i64.wrap (ly - 1)) (IntKind.i64.wrap (hx + 1)) (IntKind.i64.wrap (hy + 1))) (0))
    none))
mutual
def L5_15 : Nat → (List Int) → (List Int) → (Bool) → (Int) → Option (Bool)
  | 0, _, _, _, _ => none
  | k + 1, w, m, x12, x13 => T5_15 some (L5_15 k) (L5_9 k) w m x12 x13
def L5_9 : Nat → (List Sg) → (Int) → (Int) → (Int) → (Int) → (List Int) → (Int) → Option (Bool)
  | 0, _, _, _, _, _, _, _ => none
  | k + 1, l, lx, ly, hx, hy, w, x10 => T5_9 some (L5_15 k) (L5_9 k) l lx ly hx hy w x10
end
def T5 {ρ : Type} (ret : (Bool) → Option ρ) (c15 : (List Int) → (List Int) → (Bool) → (Int) → Option ρ) (c9 : (List Sg) → (Int) → (Int) → (Int) → (Int) → (List Int) → (Int) → Option ρ) (a0 : ByteArray) : Option ρ :=
  (bsel (isBytes (bytesF a0))
   (bsel (decide ((↑(unBytes (bytesF a0)).size : Int) > 1048576))
    (ret (true))
    (bsel (isBytes (bytesF a0) && decide ((unBytes (bytesF a0)).size ≤ 1048576))
     (bsel (isSegs (segsF (drawWindowV (unBytes (bytesF a0))).fst))
      (bsel (isSegs (segsF (drawWindowV (unBytes (bytesF a0))).fst))
       (bsel ((!windowOkV (unSegs (segsF (drawWindowV (unBytes (bytesF a0))).fst)) (drawWindowV (unBytes (bytesF a0))).snd.fst (drawWindowV (unBytes (bytesF a0))).snd.snd.fst (drawWindowV (unBytes (bytesF a0))).snd.snd.snd.fst (drawWindowV (unBytes (bytesF a0))).snd.snd.snd.snd == windowOkV (unSegs (segsF (drawWindowV (unBytes (bytesF a0))).fst)) (drawWindowV (unBytes (bytesF a0))).snd.fst (drawWindowV (unBytes (bytesF a0))).snd.snd.fst (drawWindowV (unBytes (bytesF a0))).snd.snd.snd.fst (drawWindowV (unBytes (bytesF a0))).snd.snd.snd.snd) == false)
        (bsel (isInts (intsF (windowV (unSegs (segsF (drawWindowV (unBytes (bytesF a0))).fst)) (drawWindowV (unBytes (bytesF a0))).snd.fst (drawWindowV (unBytes (bytesF a0))).snd.snd.fst (drawWindowV (unBytes (bytesF a0))).snd.snd.snd.fst (drawWindowV (unBytes (bytesF a0))).snd.snd.snd.snd)) && decide ((unInts (intsF (windowV (unSegs (segsF (drawWindowV (unBytes (bytesF a0))).fst)) (drawWindowV (unBytes (bytesF a0))).snd.fst (drawWindowV (unBytes (bytesF a0))).snd.snd.fst (drawWindowV (unBytes (bytesF a0))).snd.snd.snd.fst (drawWindowV (unBytes (bytesF a0))).snd.snd.snd.snd))).length ≤ 1000000) && isInts (intsF (windowV (unSegs (segsF (drawWindowV (unBytes (bytesF a0))).fst)) (drawWindowV (unBytes (bytesF a0))).snd.fst (drawWindowV (unBytes (bytesF a0))).snd.snd.fst (drawWindowV (unBytes (bytesF a0))).snd.snd.snd.fst (drawWindowV (unBytes (bytesF a0))).snd.snd.snd.snd)))
         (bsel ((!unInts (intsF (windowV (unSegs (segsF (drawWindowV (unBytes (bytesF a0))).fst)) (drawWindowV (unBytes (bytesF a0))).snd.fst (drawWindowV (unBytes (bytesF a0))).snd.snd.fst (drawWindowV (unBytes (bytesF a0))).snd.snd.snd.fst (drawWindowV (unBytes (bytesF a0))).snd.snd.snd.snd)) == unInts (intsF (windowV (unSegs (segsF (drawWindowV (unBytes (bytesF a0))).fst)) (drawWindowV (unBytes (bytesF a0))).snd.fst (drawWindowV (unBytes (bytesF a0))).snd.snd.fst (drawWindowV (unBytes (bytesF a0))).snd.snd.snd.fst (drawWindowV (unBytes (bytesF a0))).snd.snd.snd.snd))) == false)
          (bsel (!windowOkV (unSegs (segsF (drawWindowV (unBytes (bytesF a0))).fst)) (drawWindowV (unBytes (bytesF a0))).snd.fst (drawWindowV (unBytes (bytesF a0))).snd.snd.fst (drawWindowV (unBytes (bytesF a0))).snd.snd.snd.fst (drawWindowV (unBytes (bytesF a0))).snd.snd.snd.snd)
           (bsel ((windowOkV (unSegs (segsF (drawWindowV (unBytes (bytesF a0))).fst)) (drawWindowV (unBytes (bytesF a0))).snd.fst (drawWindowV (unBytes (bytesF a0))).snd.snd.fst (drawWindowV (unBytes (bytesF a0))).snd.snd.snd.fst (drawWindowV (unBytes (bytesF a0))).snd.snd.snd.snd == windowOkV (unSegs (segsF (drawWindowV (unBytes (bytesF a0))).fst)) (drawWindowV (unBytes (bytesF a0))).snd.fst (drawWindowV (unBytes (bytesF a0))).snd.snd.fst (drawWindowV (unBytes (bytesF a0))).snd.snd.snd.fst (drawWindowV (unBytes (bytesF a0))).snd.snd.snd.snd) == true)
            (bsel (isInts (intsF (windowV (unSegs (segsF (drawWindowV (unBytes (bytesF a0))).fst)) (drawWindowV (unBytes (bytesF a0))).snd.fst (drawWindowV (unBytes (bytesF a0))).snd.snd.fst (drawWindowV (unBytes (bytesF a0))).snd.snd.snd.fst (drawWindowV (unBytes (bytesF a0))).snd.snd.snd.snd)) && decide ((unInts (intsF (windowV (unSegs (segsF (drawWindowV (unBytes (bytesF a0))).fst)) (drawWindowV (unBytes (bytesF a0))).snd.fst (drawWindowV (unBytes (bytesF a0))).snd.snd.fst (drawWindowV (unBytes (bytesF a0))).snd.snd.snd.fst (drawWindowV (unBytes (bytesF a0))).snd.snd.snd.snd))).length ≤ 1000000) && isInts (intsF (windowV (unSegs (segsF (drawWindowV (unBytes (bytesF a0))).fst)) (drawWindowV (unBytes (bytesF a0))).snd.fst (drawWindowV (unBytes (bytesF a0))).snd.snd.fst (drawWindowV (unBytes (bytesF a0))).snd.snd.snd.fst (drawWindowV (unBytes (bytesF a0))).snd.snd.snd.snd)))
             (ret (unInts (intsF (windowV (unSegs (segsF (drawWindowV (unBytes (bytesF a0))).fst)) (drawWindowV (unBytes (bytesF a0))).snd.fst (drawWindowV (unBytes (bytesF a0))).snd.snd.fst (drawWindowV (unBytes (bytesF a0))).snd.snd.snd.fst (drawWindowV (unBytes (bytesF a0))).snd.snd.snd.snd)) == unInts (intsF (windowV (unSegs (segsF (drawWindowV (unBytes (bytesF a0))).fst)) (drawWindowV (unBytes (bytesF a0))).snd.fst (drawWindowV (unBytes (bytesF a0))).snd.snd.fst (drawWindowV (unBytes (bytesF a0))).snd.snd.snd.fst (drawWindowV (unBytes (bytesF a0))).snd.snd.snd.snd))))
             none)
            (ret (false)))
           (c9 ((drawWindowV (unBytes (bytesF a0))).fst) ((drawWindowV (unBytes (bytesF a0))).snd.fst) ((drawWindowV (unBytes (bytesF a0))).snd.snd.fst) ((drawWindowV (unBytes (bytesF a0))).snd.snd.snd.fst) ((drawWindowV (unBytes (bytesF a0))).snd.snd.snd.snd) (windowV (unSegs (segsF (drawWindowV (unBytes (bytesF a0))).fst)) (drawWindowV (unBytes (bytesF a0))).snd.fst (drawWindowV (unBytes (bytesF a0))).snd.snd.fst (drawWindowV (unBytes (bytesF a0))).snd.snd.snd.fst (drawWindowV (unBytes (bytesF a0))).snd.snd.snd.snd) (0)))
          (bsel ((windowOkV (unSegs (segsF (drawWindowV (unBytes (bytesF a0))).fst)) (drawWindowV (unBytes (bytesF a0))).snd.fst (drawWindowV (unBytes (bytesF a0))).snd.snd.fst (drawWindowV (unBytes (bytesF a0))).snd.snd.snd.fst (drawWindowV (unBytes (bytesF a0))).snd.snd.snd.snd == windowOkV (unSegs (segsF (drawWindowV (unBytes (bytesF a0))).fst)) (drawWindowV (unBytes (bytesF a0))).snd.fst (drawWindowV (unBytes (bytesF a0))).snd.snd.fst (drawWindowV (unBytes (bytesF a0))).snd.snd.snd.fst (drawWindowV (unBytes (bytesF a0))).snd.snd.snd.snd) == true)
           (bsel (isInts (intsF (windowV (unSegs (segsF (drawWindowV (unBytes (bytesF a0))).fst)) (drawWindowV (unBytes (bytesF a0))).snd.fst (drawWindowV (unBytes (bytesF a0))).snd.snd.fst (drawWindowV (unBytes (bytesF a0))).snd.snd.snd.fst (drawWindowV (unBytes (bytesF a0))).snd.snd.snd.snd)) && decide ((unInts (intsF (windowV (unSegs (segsF (drawWindowV (unBytes (bytesF a0))).fst)) (drawWindowV (unBytes (bytesF a0))).snd.fst (drawWindowV (unBytes (bytesF a0))).snd.snd.fst (drawWindowV (unBytes (bytesF a0))).snd.snd.snd.fst (drawWindowV (unBytes (bytesF a0))).snd.snd.snd.snd))).length ≤ 1000000) && isInts (intsF (windowV (unSegs (segsF (drawWindowV (unBytes (bytesF a0))).fst)) (drawWindowV (unBytes (bytesF a0))).snd.fst (drawWindowV (unBytes (bytesF a0))).snd.snd.fst (drawWindowV (unBytes (bytesF a0))).snd.snd.snd.fst (drawWindowV (unBytes (bytesF a0))).snd.snd.snd.snd)))
            (ret (unInts (intsF (windowV (unSegs (segsF (drawWindowV (unBytes (bytesF a0))).fst)) (drawWindowV (unBytes (bytesF a0))).snd.fst (drawWindowV (unBytes (bytesF a0))).snd.snd.fst (drawWindowV (unBytes (bytesF a0))).snd.snd.snd.fst (drawWindowV (unBytes (bytesF a0))).snd.snd.snd.snd)) == unInts (intsF (windowV (unSegs (segsF (drawWindowV (unBytes (bytesF a0))).fst)) (drawWindowV (unBytes (bytesF a0))).snd.fst (drawWindowV (unBytes (bytesF a0))).snd.snd.fst (drawWindowV (unBytes (bytesF a0))).snd.snd.snd.fst (drawWindowV (unBytes (bytesF a0))).snd.snd.snd.snd))))
            none)
           (ret (false))))
         none)
        (bsel ((windowOkV (unSegs (segsF (drawWindowV (unBytes (bytesF a0))).fst)) (drawWindowV (unBytes (bytesF a0))).snd.fst (drawWindowV (unBytes (bytesF a0))).snd.snd.fst (drawWindowV (unBytes (bytesF a0))).snd.snd.snd.fst (drawWindowV (unBytes (bytesF a0))).snd.snd.snd.snd == windowOkV (unSegs (segsF (drawWindowV (unBytes (bytesF a0))).fst)) (drawWindowV (unBytes (bytesF a0))).snd.fst (drawWindowV (unBytes (bytesF a0))).snd.snd.fst (drawWindowV (unBytes (bytesF a0))).snd.snd.snd.fst (drawWindowV (unBytes (bytesF a0))).snd.snd.snd.snd) == true)
         (bsel (isInts (intsF (windowV (unSegs (segsF (drawWindowV (unBytes (bytesF a0))).fst)) (drawWindowV (unBytes (bytesF a0))).snd.fst (drawWindowV (unBytes (bytesF a0))).snd.snd.fst (drawWindowV (unBytes (bytesF a0))).snd.snd.snd.fst (drawWindowV (unBytes (bytesF a0))).snd.snd.snd.snd)) && decide ((unInts (intsF (windowV (unSegs (segsF (drawWindowV (unBytes (bytesF a0))).fst)) (drawWindowV (unBytes (bytesF a0))).snd.fst (drawWindowV (unBytes (bytesF a0))).snd.snd.fst (drawWindowV (unBytes (bytesF a0))).snd.snd.snd.fst (drawWindowV (unBytes (bytesF a0))).snd.snd.snd.snd))).length ≤ 1000000) && isInts (intsF (windowV (unSegs (segsF (drawWindowV (unBytes (bytesF a0))).fst)) (drawWindowV (unBytes (bytesF a0))).snd.fst (drawWindowV (unBytes (bytesF a0))).snd.snd.fst (drawWindowV (unBytes (bytesF a0))).snd.snd.snd.fst (drawWindowV (unBytes (bytesF a0))).snd.snd.snd.snd)))
          (ret (unInts (intsF (windowV (unSegs (segsF (drawWindowV (unBytes (bytesF a0))).fst)) (drawWindowV (unBytes (bytesF a0))).snd.fst (drawWindowV (unBytes (bytesF a0))).snd.snd.fst (drawWindowV (unBytes (bytesF a0))).snd.snd.snd.fst (drawWindowV (unBytes (bytesF a0))).snd.snd.snd.snd)) == unInts (intsF (windowV (unSegs (segsF (drawWindowV (unBytes (bytesF a0))).fst)) (drawWindowV (unBytes (bytesF a0))).snd.fst (drawWindowV (unBytes (bytesF a0))).snd.snd.fst (drawWindowV (unBytes (bytesF a0))).snd.snd.snd.fst (drawWindowV (unBytes (bytesF a0))).snd.snd.snd.snd))))
          none)
         (ret (false))))
       none)
      none)
     none))
   none)
def G5 (k : Nat) (a0 : ByteArray) : Option (Bool) := T5 some (L5_15 k) (L5_9 k) a0
mutual
theorem t5_15 : ∀ (k : Nat) (w : List Int) (m : List Int) (x12 : Bool) (x13 : Int) (r : Bool), L5_15 k w m x12 x13 = some r → Ends Try.prog Try.f5.results.toList (at_ Try.f5 15) (S5_15 w m x12 x13) (F.bool r)
  | 0, _, _, _, _, _, h => nomatch h
  | k + 1, w, m, x12, x13, r, h => by
    refine Ends.of_cut tyOK envD15_ok (T := [(15, [6, 11, 12, 13], 0), (9, [3, 4, 5, 6, 10], 2)]) (n := 200) ?_
    have e : runCut Try.prog (tiOf Try.prog) envD15 [(15, [6, 11, 12, 13], 0), (9, [3, 4, 5, 6, 10], 2)] 0 Try.f5.results.toList some 200 (at_ Try.f5 15) (S5_15 w m x12 x13) = T5_15 (fun r => some (.ret (F.bool r))) (fun w m x12 x13 => some (.cut (at_ Try.f5 15) (S5_15 w m x12 x13))) (fun l lx ly hx hy w x10 => some (.cut (at_ Try.f5 9) (S5_9 l lx ly hx hy w x10))) w m x12 x13 := by kernel_rfl
    rw [e]
    exact (good_sel h (fun _ h => (good_sel h (fun _ h => (good_sel h (fun _ h => (good_sel h (fun _ h => (good_sel h (fun _ h => (good_sel h (fun _ h => good_ret (by cases h; rfl)) (fun _ h => good_cut (t5_15 k _ _ _ _ r h)))) (fun _ h => nomatch h))) (fun _ h => nomatch h))) (fun _ h => nomatch h))) (fun _ h => good_ret (by cases h; rfl)))) (fun _ h => good_ret (by cases h; rfl)))
theorem t5_9 : ∀ (k : Nat) (l : List Sg) (lx : Int) (ly : Int) (hx : Int) (hy : Int) (w : List Int) (x10 : Int) (r : Bool), L5_9 k l lx ly hx hy w x10 = some r → Ends Try.prog Try.f5.results.toList (at_ Try.f5 9) (S5_9 l lx ly hx hy w x10) (F.bool r)
  | 0, _, _, _, _, _, _, _, _, h => nomatch h
  | k + 1, l, lx, ly, hx, hy, w, x10, r, h => by
    refine Ends.of_cut tyOK envD15_ok (T := [(15, [6, 11, 12, 13], 0), (9, [3, 4, 5, 6, 10], 2)]) (n := 200) ?_
    have e : runCut Try.prog (tiOf Try.prog) envD15 [(15, [6, 11, 12, 13], 0), (9, [3, 4, 5, 6, 10], 2)] 0 Try.f5.results.toList some 200 (at_ Try.f5 9) (S5_9 l lx ly hx hy w x10) = T5_9 (fun r => some (.ret (F.bool r))) (fun w m x12 x13 => some (.cut (at_ Try.f5 15) (S5_15 w m x12 x13))) (fun l lx ly hx hy w x10 => some (.cut (at_ Try.f5 9) (S5_9 l lx ly hx hy w x10))) l lx ly hx hy w x10 := by kernel_rfl
    rw [e]
    exact (good_sel h (fun _ h => (good_sel h (fun _ h => (good_sel h (fun _ h => (good_sel h (fun _ h => (good_sel h (fun _ h => good_ret (by cases h; rfl)) (fun _ h => good_cut (t5_9 k _ _ _ _ _ _ _ r h)))) (fun _ h => nomatch h))) (fun _ h => nomatch h))) (fun _ h => nomatch h))) (fun _ h => (good_sel h (fun _ h => good_cut (t5_15 k _ _ _ _ r h)) (fun _ h => nomatch h))))
end
theorem t5 (k : Nat) (a0 : ByteArray) (r : Bool) (h : G5 k a0 = some r) : Ends Try.prog Try.f5.results.toList [.code (bodyOf Try.f5)] (start Try.f5.ntmps ([bytesF a0].map .f)) (F.bool r) := by
  refine Ends.of_run tyOK envD15_ok (T := [(15, [6, 11, 12, 13], 0), (9, [3, 4, 5, 6, 10], 2)]) (n := 200) ?_
  have e : run Try.prog (tiOf Try.prog) envD15 [(15, [6, 11, 12, 13], 0), (9, [3, 4, 5, 6, 10], 2)] 0 Try.f5.results.toList some 200 [.code (bodyOf Try.f5)] (start Try.f5.ntmps ([bytesF a0].map .f)) = T5 (fun r => some (.ret (F.bool r))) (fun w m x12 x13 => some (.cut (at_ Try.f5 15) (S5_15 w m x12 x13))) (fun l lx ly hx hy w x10 => some (.cut (at_ Try.f5 9) (S5_9 l lx ly hx hy w x10))) a0 := by kernel_rfl
  rw [e]
  exact (good_sel h (fun _ h => (good_sel h (fun _ h => good_ret (by cases h; rfl)) (fun _ h => (good_sel h (fun _ h => (good_sel h (fun _ h => (good_sel h (fun _ h => (good_sel h (fun _ h => (good_sel h (fun _ h => (good_sel h (fun _ h => (good_sel h (fun _ h => (good_sel h (fun _ h => (good_sel h (fun _ h => good_ret (by cases h; rfl)) (fun _ h => nomatch h))) (fun _ h => good_ret (by cases h; rfl)))) (fun _ h => good_cut (t5_9 k _ _ _ _ _ _ _ r h)))) (fun _ h => (good_sel h (fun _ h => (good_sel h (fun _ h => good_ret (by cases h; rfl)) (fun _ h => nomatch h))) (fun _ h => good_ret (by cases h; rfl)))))) (fun _ h => nomatch h))) (fun _ h => (good_sel h (fun _ h => (good_sel h (fun _ h => good_ret (by cases h; rfl)) (fun _ h => nomatch h))) (fun _ h => good_ret (by cases h; rfl)))))) (fun _ h => nomatch h))) (fun _ h => nomatch h))) (fun _ h => nomatch h))))) (fun _ h => nomatch h))
theorem hits_len (l : List Sg) (lx ly hx hy : Int) : (hitsFrom l lx ly hx hy 0).length ≤ l.length := by
  unfold hitsFrom
  rw [List.length_map, List.drop_zero]
  exact Nat.le_trans (List.length_filter_le _ _) (by simp)
theorem mem_hits (l : List Sg) (lx ly hx hy x : Int) : x ∈ hitsFrom l lx ly hx hy 0 ↔ ∃ j : Nat, j < l.length ∧ hitV lx ly hx hy (l.getD j .zero) = true ∧ x = (j : Int) := by
  unfold hitsFrom
  rw [List.drop_zero, List.mem_map]
  constructor
  · rintro ⟨j, hj, rfl⟩
    rw [List.mem_filter, List.mem_range] at hj
    exact ⟨j, hj.1, hj.2, rfl⟩
  · rintro ⟨j, h1, h2, rfl⟩
    exact ⟨j, List.mem_filter.2 ⟨List.mem_range.2 h1, h2⟩, rfl⟩
theorem any_mem (w : List Int) (x : Int) : (w.any fun y => y == x) = decide (x ∈ w) := by
  rw [Bool.eq_iff_iff, List.any_eq_true, decide_eq_true_eq]
  constructor
  · rintro ⟨y, hy, h⟩; rw [beq_iff_eq] at h; exact h ▸ hy
  · intro h; exact ⟨x, h, by simp⟩
theorem loop15 (w m : List Int) (f : Bool) (hw : w.length ≤ 1000) (hm : m.length ≤ 1000) (h : f = true → ∀ x ∈ w, x ∈ m) : ∀ (d i : Nat), i + d = w.length → L5_15 (d + 1) w m f i = some true
  | 0, i, e => by
    have c1 : decide ((i : Int) < (w.length : Int)) = false := decide_eq_false (by omega)
    rw [L5_15]
    simp only [T5_15, c1, bsel_false]
    cases f <;> rfl
  | d + 1, i, e => by
    have hi : i < w.length := by omega
    have c1 : decide ((i : Int) < (w.length : Int)) = true := decide_eq_true (by omega)
    have c2 : decide (0 ≤ (i : Int)) = true := decide_eq_true (by omega)
    have c3 : decide (m.length ≤ 1000000) = true := decide_eq_true (by omega)
    have hwr : IntKind.i64.wrap ((i : Int) + 1) = ((i + 1 : Nat) : Int) := by rw [wrapi (by omega) (by omega)]; omega
    rw [L5_15]
    simp only [T5_15, c1, c2, c3, isInts_intsF, unInts_intsF, Bool.and_self, bsel_true, hwr, Int.toNat_natCast, loop15 w m f hw hm h d (i + 1) (by omega), any_mem]
    cases f with
    | false => rfl
    | true =>
      have hg : w.getD i 0 = w[i] := by simp [List.getD, List.getElem?_eq_getElem hi]
      have : decide (w.getD i 0 ∈ m) = true := decide_eq_true (by rw [hg]; exact h rfl _ (List.getElem_mem hi))
      rw [this]; rfl
theorem spot_bounds {x y : Int} (h : spotOkV x y = true) : -1000000 ≤ x ∧ x ≤ 1000000 ∧ -1000000 ≤ y ∧ y ≤ 1000000 := spotOk_iff.1 h
theorem box_bounds {lx ly hx hy : Int} (h : boxOkV lx ly hx hy = true) : (-1000000 ≤ lx ∧ lx ≤ 1000000 ∧ -1000000 ≤ ly ∧ ly ≤ 1000000) ∧ (-1000000 ≤ hx ∧ hx ≤ 1000000 ∧ -1000000 ≤ hy ∧ hy ≤ 1000000) ∧ lx ≤ hx ∧ ly ≤ hy := by
  simp only [boxOkV, Bool.and_eq_true, decide_eq_true_eq] at h
  exact ⟨spot_bounds h.1, spot_bounds h.2.1, h.2.2⟩
theorem seg_bounds {s : Sg} (h : sgOk s = true) : -1000000 ≤ s.x0 ∧ s.x0 ≤ 1000000 ∧ -1000000 ≤ s.y0 ∧ s.y0 ≤ 1000000 ∧ -1000000 ≤ s.x1 ∧ s.x1 ≤ 1000000 ∧ -1000000 ≤ s.y1 ∧ s.y1 ≤ 1000000 := by
  simp only [sgOk, segOkV, Bool.and_eq_true] at h
  have a := spot_bounds h.1
  have b := spot_bounds h.2.1
  omega
theorem grown_in (l : List Sg) (lx ly hx hy : Int) (hs : segsOkV l = true) (hb : boxOkV lx ly hx hy = true) (hf : windowOkV l (lx - 1) (ly - 1) (hx + 1) (hy + 1) = true) (x : Int) (h : x ∈ hitsFrom l lx ly hx hy 0) : x ∈ windowV l (lx - 1) (ly - 1) (hx + 1) (hy + 1) := by
  obtain ⟨j, hj, hit, rfl⟩ := (mem_hits l lx ly hx hy x).1 h
  simp only [windowOkV, Bool.and_eq_true] at hf
  unfold windowV
  rw [hs, hf.2, Bool.and_self, cond_true, mem_hits]
  refine ⟨j, hj, ?_, rfl⟩
  have hg : l.getD j Sg.zero = l[j] := by simp [List.getD, List.getElem?_eq_getElem hj]
  have hok := (segsOk_iff.1 hs).2 l[j] (List.getElem_mem hj)
  have sb := seg_bounds hok
  have bb := box_bounds hb
  have gb := box_bounds hf.2
  rw [hg] at hit ⊢
  exact meets_grown (by omega) (by omega) (by omega) (by omega) hit
theorem window_len (l : List Sg) (lx ly hx hy : Int) (hs : segsOkV l = true) : (windowV l lx ly hx hy).length ≤ 1000 := by
  unfold windowV
  rw [hs, Bool.true_and]
  cases boxOkV lx ly hx hy with
  | false => simp
  | true => have := hits_len l lx ly hx hy; have := (segsOk_iff.1 hs).1; rw [cond_true]; omega
theorem loop9 (l : List Sg) (lx ly hx hy : Int) (hs : segsOkV l = true) (hb : boxOkV lx ly hx hy = true) : ∀ (d i : Nat), i + d = l.length →
    L5_9 (d + ((hitsFrom l lx ly hx hy 0).length + 1) + 1) l lx ly hx hy (hitsFrom l lx ly hx hy 0) i = some true
  | 0, i, e => by
    have hl := (segsOk_iff.1 hs).1
    have bb := box_bounds hb
    have c1 : decide ((i : Int) < (l.length : Int)) = false := decide_eq_false (by omega)
    have e1 : IntKind.i64.wrap (lx - 1) = lx - 1 := wrapi (by omega) (by omega)
    have e2 : IntKind.i64.wrap (ly - 1) = ly - 1 := wrapi (by omega) (by omega)
    have e3 : IntKind.i64.wrap (hx + 1) = hx + 1 := wrapi (by omega) (by omega)
    have e4 : IntKind.i64.wrap (hy + 1) = hy + 1 := wrapi (by omega) (by omega)
    rw [Nat.zero_add, L5_9]
    simp only [T5_9, c1, bsel_false, isSegs_segsF, unSegs_segsF, bsel_true, e1, e2, e3, e4]
    have hw := hits_len l lx ly hx hy
    exact loop15 _ _ _ (by omega) (window_len l _ _ _ _ hs) (fun hf x hx' => grown_in l lx ly hx hy hs hb hf x hx') _ 0 (by omega)
  | d + 1, i, e => by
    have hl := (segsOk_iff.1 hs).1
    have hi : i < l.length := by omega
    have hw := hits_len l lx ly hx hy
    have c1 : decide ((i : Int) < (l.length : Int)) = true := decide_eq_true (by omega)
    have c2 : decide (0 ≤ (i : Int)) = true := decide_eq_true (by omega)
    have c3 : decide ((hitsFrom l lx ly hx hy 0).length ≤ 1000000) = true := decide_eq_true (by omega)
    have hwr : IntKind.i64.wrap ((i : Int) + 1) = ((i + 1 : Nat) : Int) := by rw [wrapi (by omega) (by omega)]; omega
    have ih := loop9 l lx ly hx hy hs hb d (i + 1) (by omega)
    rw [show d + 1 + ((hitsFrom l lx ly hx hy 0).length + 1) + 1 = (d + ((hitsFrom l lx ly hx hy 0).length + 1) + 1) + 1 by omega, L5_9]
    simp only [T5_9, c1, c2, c3, isInts_intsF, unInts_intsF, Bool.and_self, bsel_true, hwr, Int.toNat_natCast, any_mem, ih]
    have hg : l.getD i Sg.zero = l[i] := by simp [List.getD, List.getElem?_eq_getElem hi]
    have hok : segOkV l[i].x0 l[i].y0 l[i].x1 l[i].y1 = true := (segsOk_iff.1 hs).2 l[i] (List.getElem_mem hi)
    have key : decide ((i : Int) ∈ hitsFrom l lx ly hx hy 0) = meetsBoxV (l.getD i Sg.zero).x0 (l.getD i Sg.zero).y0 (l.getD i Sg.zero).x1 (l.getD i Sg.zero).y1 lx ly hx hy := by
      unfold meetsBoxV
      rw [hg, hok, hb, Bool.true_and, Bool.true_and, Bool.eq_iff_iff, decide_eq_true_eq, mem_hits]
      constructor
      · rintro ⟨j, _, h2, h3⟩
        obtain rfl : i = j := by omega
        rw [hg] at h2
        exact h2
      · intro h; exact ⟨i, hi, by rw [hg]; exact h, rfl⟩
    rw [key]
    have b1 : ∀ b : Bool, (!b == b) = false := by decide
    rw [b1]
    rfl
theorem windows_true (s : ByteArray) : ∃ k, G5 k s = some true := by
  unfold G5 T5
  simp only [unBytes_bytesF, isBytes_bytesF, isSegs_segsF, unSegs_segsF, isInts_intsF, unInts_intsF, bsel_true, Bool.true_and]
  by_cases hs : (s.size : Int) > 1048576
  · exact ⟨0, by rw [decide_eq_true hs]; rfl⟩
  · have c : decide (s.size ≤ 1048576) = true := decide_eq_true (by omega)
    rw [decide_eq_false hs, c]
    generalize drawWindowV s = D
    obtain ⟨l, lx, ly, hx, hy⟩ := D
    have b1 : ∀ b : Bool, (!b == b) = false := by decide
    simp only [bsel_true, bsel_false, b1]
    cases ho : windowOkV l lx ly hx hy with
    | false =>
      have hw : windowV l lx ly hx hy = [] := by
        unfold windowV windowOkV at *; rw [ho]; rfl
      exact ⟨0, by rw [hw]; rfl⟩
    | true =>
      have ho2 := ho
      simp only [windowOkV, Bool.and_eq_true] at ho
      have hw : windowV l lx ly hx hy = hitsFrom l lx ly hx hy 0 := by
        unfold windowV; rw [ho.1, ho.2]; rfl
      have hlen := window_len l lx ly hx hy ho.1
      have c3 : decide ((windowV l lx ly hx hy).length ≤ 1000000) = true := decide_eq_true (by omega)
      refine ⟨l.length + ((hitsFrom l lx ly hx hy 0).length + 1) + 1, ?_⟩
      have := loop9 l lx ly hx hy ho.1 ho.2 l.length 0 (by omega)
      have b2 : ∀ a : List Int, (!a == a) = false := fun a => by simp
      rw [c3]
      simp only [b2, bsel_true, bsel_false, Bool.not_true]
      rw [hw]
      exact this
theorem okWindows : PureOK Try.prog 5 preB (fun _ => .bool true) :=
  fn_pure_at (c := bodyOf Try.f5) Try.func5 (by kernel_rfl) (by kernel_rfl) fun xs hp => match xs, hp with
  | [b], hp => by
    obtain ⟨k, e⟩ := windows_true (unBytes b)
    exact ⟨[bytesF (unBytes b)], _, ⟨(bytes_eqv hp).1, trivial⟩, t5 k _ _ e, .refl _⟩
end
end Go.Proofs.Ytjbilidfnfnpfaa.R
