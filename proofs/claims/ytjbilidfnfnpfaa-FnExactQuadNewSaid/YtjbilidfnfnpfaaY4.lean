/-
  The law FnExactQuadNew, walked.
-/
import Derived.Test.YtjbilidfnfnpfaaY3
import Derived.Test.YtjbilidfnfnpfaaR25
namespace Go.Proofs.Ytjbilidfnfnpfaa.R
open Go
noncomputable section
set_option linter.unusedVariables false
set_option linter.unusedSimpArgs false
set_option maxRecDepth 100000
/-! ### function 4 -/
def T4 {ρ : Type} (ret : (Bool) → Option ρ) (a : Int) (b : Int) : Option ρ :=
  (bsel (limitsV a b)
   (bsel (isQd (qdF (newV a b)) && true)
    (bsel ((!sameQdV (unQd (F.agg [F.int IntKind.i64 a, F.int IntKind.i64 b, F.sl 0 fun x ↦ F.bool false, F.sl 1 (offF 0 fun x ↦ F.agg [F.int IntKind.i64 (-1048576), F.int IntKind.i64 (-1048576), F.int IntKind.i64 2097152, F.bool false, intsF []])])) (unQd (qdF (newV a b)))) == false)
     (bsel (!true == limitsV a b)
      (ret (false))
      (bsel (limitsV a b)
       (bsel (isQd (qdF (newV a b)) && true)
        (bsel ((!sameQdV (unQd (F.agg [F.int IntKind.i64 a, F.int IntKind.i64 b, F.sl 0 fun x ↦ F.bool false, F.sl 1 (offF 0 fun x ↦ F.agg [F.int IntKind.i64 (-1048576), F.int IntKind.i64 (-1048576), F.int IntKind.i64 2097152, F.bool false, intsF []])])) (unQd (qdF (newV a b)))) == false)
         (bsel (!true == limitsV a b)
          (ret (false))
          (ret (true)))
         (ret (false)))
        none)
       (bsel (isQd (qdF (newV a b)) && true)
        (bsel ((!sameQdV (unQd (F.agg [F.int IntKind.i64 0, F.int IntKind.i64 0, F.sl 0 fun x ↦ F.bool false, F.sl 0 fun x ↦ F.bool false])) (unQd (qdF (newV a b)))) == false)
         (bsel (!false == limitsV a b)
          (ret (false))
          (ret (true)))
         (ret (false)))
        none)))
     (ret (false)))
    none)
   (bsel (isQd (qdF (newV a b)) && true)
    (bsel ((!sameQdV (unQd (F.agg [F.int IntKind.i64 0, F.int IntKind.i64 0, F.sl 0 fun x ↦ F.bool false, F.sl 0 fun x ↦ F.bool false])) (unQd (qdF (newV a b)))) == false)
     (bsel (!false == limitsV a b)
      (ret (false))
      (bsel (limitsV a b)
       (bsel (isQd (qdF (newV a b)) && true)
        (bsel ((!sameQdV (unQd (F.agg [F.int IntKind.i64 a, F.int IntKind.i64 b, F.sl 0 fun x ↦ F.bool false, F.sl 1 (offF 0 fun x ↦ F.agg [F.int IntKind.i64 (-1048576), F.int IntKind.i64 (-1048576), F.int IntKind.i64 2097152, F.bool false, intsF []])])) (unQd (qdF (newV a b)))) == false)
         (bsel (!true == limitsV a b)
          (ret (false))
          (ret (true)))
         (ret (false)))
        none)
       (bsel (isQd (qdF (newV a b)) && true)
        (bsel ((!sameQdV (unQd (F.agg [F.int IntKind.i64 0, F.int IntKind.i64 0, F.sl 0 fun x ↦ F.bool false, F.sl 0 fun x ↦ F.bool false])) (unQd (qdF (newV a b)))) == false)
         (bsel (!false == limitsV a b)
          (ret (false))
          (ret (true)))
         (ret (false)))
        none)))
     (ret (false)))
    none))
def G4 (a : Int) (b : Int) : Option (Bool) := T4 some a b
theorem t4 (a : Int) (b : Int) (r : Bool) (h : G4 a b = some r) : Ends Try.prog Try.f4.results.toList [.code (bodyOf Try.f4)] (start Try.f4.ntmps ([F.int .i64 a, F.int .i64 b].map .f)) (F.bool r) := by
  refine Ends.of_run tyOK envY3_ok (T := []) (n := 200) ?_
  have e : run Try.prog (tiOf Try.prog) envY3 [] 0 Try.f4.results.toList some 200 [.code (bodyOf Try.f4)] (start Try.f4.ntmps ([F.int .i64 a, F.int .i64 b].map .f)) = T4 (fun r => some (.ret (F.bool r))) a b := by kernel_rfl
  rw [e]
  exact (good_sel h (fun _ h => (good_sel h (fun _ h => (good_sel h (fun _ h => (good_sel h (fun _ h => good_ret (by cases h; rfl)) (fun _ h => (good_sel h (fun _ h => (good_sel h (fun _ h => (good_sel h (fun _ h => (good_sel h (fun _ h => good_ret (by cases h; rfl)) (fun _ h => good_ret (by cases h; rfl)))) (fun _ h => good_ret (by cases h; rfl)))) (fun _ h => nomatch h))) (fun _ h => (good_sel h (fun _ h => (good_sel h (fun _ h => (good_sel h (fun _ h => good_ret (by cases h; rfl)) (fun _ h => good_ret (by cases h; rfl)))) (fun _ h => good_ret (by cases h; rfl)))) (fun _ h => nomatch h))))))) (fun _ h => good_ret (by cases h; rfl)))) (fun _ h => nomatch h))) (fun _ h => (good_sel h (fun _ h => (good_sel h (fun _ h => (good_sel h (fun _ h => good_ret (by cases h; rfl)) (fun _ h => (good_sel h (fun _ h => (good_sel h (fun _ h => (good_sel h (fun _ h => (good_sel h (fun _ h => good_ret (by cases h; rfl)) (fun _ h => good_ret (by cases h; rfl)))) (fun _ h => good_ret (by cases h; rfl)))) (fun _ h => nomatch h))) (fun _ h => (good_sel h (fun _ h => (good_sel h (fun _ h => (good_sel h (fun _ h => good_ret (by cases h; rfl)) (fun _ h => good_ret (by cases h; rfl)))) (fun _ h => good_ret (by cases h; rfl)))) (fun _ h => nomatch h))))))) (fun _ h => good_ret (by cases h; rfl)))) (fun _ h => nomatch h))))
theorem quadNew_law (a b : Int) : G4 a b = some true := by
  unfold G4 T4
  have e0 : unQd (F.agg [F.int IntKind.i64 0, F.int IntKind.i64 0, F.sl 0 fun x => F.bool false, F.sl 0 fun x => F.bool false]) = ⟨0, 0, [], []⟩ := rfl
  have e2 : unQd (F.agg [F.int IntKind.i64 a, F.int IntKind.i64 b, F.sl 0 fun x => F.bool false, F.sl 1 (offF 0 fun x => F.agg [F.int IntKind.i64 (-1048576), F.int IntKind.i64 (-1048576), F.int IntKind.i64 2097152, F.bool false, intsF []])]) = ⟨a, b, [], [⟨-1048576, -1048576, 2097152, false, []⟩]⟩ := rfl
  cases h : limitsV a b with
  | true =>
    have e1 : newV a b = ⟨a, b, [], [⟨-1048576, -1048576, 2097152, false, []⟩]⟩ := by
      unfold newV
      rw [h]; rfl
    simp only [e0, e1, e2, isQd_qdF, unQd_qdF, sameQd_refl, bsel_true, Bool.and_self, Bool.not_true, beq_self_eq_true]
    try rfl
  | false =>
    have e1 : newV a b = ⟨0, 0, [], []⟩ := by
      unfold newV
      rw [h]; rfl
    simp only [e0, e1, e2, isQd_qdF, unQd_qdF, sameQd_refl, bsel_true, bsel_false, Bool.and_self, Bool.not_true, beq_self_eq_true]
    try rfl
theorem okFnQuadNew : PureOK Try.prog 4 pre2i (fun _ => .bool true) :=
  fn_pure_at (c := bodyOf Try.f4) Try.func4 (by kernel_rfl) (by kernel_rfl) fun xs hp => match xs, hp with
  | [.int .i64 a, .int .i64 b], hp => ⟨[.int .i64 a, .int .i64 b], _, ⟨.refl _, .refl _, trivial⟩, t4 _ _ _ (quadNew_law a b), .refl _⟩
end
end Go.Proofs.Ytjbilidfnfnpfaa.R
