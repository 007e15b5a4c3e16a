/-
  The law FnExactQuadCount, walked.
-/
import Derived.Test.YtjbilidfnfnpfaaQ9
import Derived.Test.YtjbilidfnfnpfaaQ7
namespace Go.Proofs.Ytjbilidfnfnpfaa.R
open Go Go.ChangeShapes Go.WideShapes Go.RowKit
noncomputable section
set_option linter.unusedVariables false
set_option linter.unusedSimpArgs false
set_option maxRecDepth 100000
/-! ### function 7 -/
def T7 {ρ : Type} (ret : (Bool) → Option ρ) (q : Qd) : Option ρ :=
  (bsel (isQd (qdF q) && longV (unQd (qdF q)).blocks.length)
   (bsel (decide (szQdV (unQd (qdF q)) 1048576 < 0))
    (ret (true))
    (bsel (isQd (qdF q) && shortQdOk (unQd (qdF q)))
     (bsel (isQd (resToQd [qdF q]) && allShortV (unQd (resToQd [qdF q])).blocks)
      (bsel (isQd (qdF q) && shortQdOk (unQd (qdF q)))
       (bsel (isQd (qdF (unQd (qdF q))) && allShortV (unQd (qdF (unQd (qdF q)))).blocks)
        (bsel (((countV (unQd (qdF (unQd (qdF q))))).fst != (countV (unQd (resToQd [qdF q]))).fst) == false)
         (bsel ((countV (unQd (qdF (unQd (qdF q))))).snd != (countV (unQd (resToQd [qdF q]))).snd)
          (ret (false))
          (bsel (isQd (qdF q) && shortQdOk (unQd (qdF q)))
           (bsel (isQd (qdF (unQd (qdF q))) && isQd (resToQd [qdF q]) && shortQdOk (unQd (qdF (unQd (qdF q)))))
            (bsel (!sameQdV (unQd (qdF (unQd (qdF q)))) (unQd (resToQd [qdF q])))
             (ret (false))
             (ret (true)))
            none)
           none))
         (ret (false)))
        none)
       none)
      none)
     none))
   none)
def G7 (q : Qd) : Option (Bool) := T7 some q
theorem t7 (q : Qd) (r : Bool) (h : G7 q = some r) : Ends Try.prog Try.f7.results.toList [.code (bodyOf Try.f7)] (start Try.f7.ntmps ([qdF q].map .f)) (F.bool r) := by
  refine Ends.of_run tyOK envQ9_ok (T := []) (n := 200) ?_
  have e : run Try.prog (tiOf Try.prog) envQ9 [] 0 Try.f7.results.toList some 200 [.code (bodyOf Try.f7)] (start Try.f7.ntmps ([qdF q].map .f)) = T7 (fun r => some (.ret (F.bool r))) q := by kernel_rfl
  rw [e]
  exact (good_sel h (fun _ h => (good_sel h (fun _ h => good_ret (by cases h; rfl)) (fun _ h => (good_sel h (fun _ h => (good_sel h (fun _ h => (good_sel h (fun _ h => (good_sel h (fun _ h => (good_sel h (fun _ h => (good_sel h (fun _ h => good_ret (by cases h; rfl)) (fun _ h => (good_sel h (fun _ h => (good_sel h (fun _ h => (good_sel h (fun _ h => good_ret (by cases h; rfl)) (fun _ h => good_ret (by cases h; rfl)))) (fun _ h => nomatch h))) (fun _ h => nomatch h))))) (fun _ h => good_ret (by cases h; rfl)))) (fun _ h => nomatch h))) (fun _ h => nomatch h))) (fun _ h => nomatch h))) (fun _ h => nomatch h))))) (fun _ h => nomatch h))
theorem quadCount_law (q : Qd) (h : boundQd q = true) : G7 q = some true := by
  obtain ⟨h1, h2, h3⟩ := bound_iff.1 h
  have c1 : longV q.blocks.length = true := decide_eq_true h2
  have e : resToQd [qdF q] = qdF (unQd (qdF q)) := rfl
  unfold G7 T7
  simp only [e, isQd_qdF, unQd_qdF, c1, Bool.and_true, bsel_true, Bool.true_and]
  by_cases hs : szQdV q 1048576 < 0
  · rw [decide_eq_true hs]; rfl
  · have h4 := szQd_short q h1 h2 h3 (by omega)
    have h5 : shortQdOk q = true := h4
    have h6 : allShortV q.blocks = true := by
      simp only [shortQd, Bool.and_eq_true] at h4
      exact h4.2
    rw [decide_eq_false hs]
    simp only [h5, h6, bsel_true, bsel_false, sameQd_refl, Bool.not_true, bne_self_eq_false, beq_self_eq_true]
theorem okFnQuadCount : PureOK Try.prog 7 preLawQd (fun _ => .bool true) :=
  fn_pure_at (c := bodyOf Try.f7) Try.func7 (by kernel_rfl) (by kernel_rfl) fun xs hp => match xs, hp with
  | [q], hp => by
    simp only [preLawQd, Bool.and_eq_true] at hp
    exact ⟨[qdF (unQd q)], _, ⟨(qd_eqv hp.1).1, trivial⟩, t7 _ _ (quadCount_law _ hp.2), .refl _⟩
end
end Go.Proofs.Ytjbilidfnfnpfaa.R
