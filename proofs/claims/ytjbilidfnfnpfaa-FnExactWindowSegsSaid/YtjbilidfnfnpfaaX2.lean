/-
  The law FnExactWindowSegs, walked.
-/
import Derived.Test.YtjbilidfnfnpfaaX1
import Derived.Test.YtjbilidfnfnpfaaR26
namespace Go.Proofs.Ytjbilidfnfnpfaa.R
open Go Go.ChangeShapes Go.WideShapes Go.RowKit
noncomputable section
set_option linter.unusedVariables false
set_option linter.unusedSimpArgs false
set_option maxRecDepth 100000
set_option maxHeartbeats 1000000
/-! ### function 3 -/
def T3 {ρ : Type} (ret : (Bool) → Option ρ) (l : List Sg) (lx : Int) (ly : Int) (hx : Int) (hy : Int) : Option ρ :=
  (bsel (isSegs (segsF l))
   (bsel (decide (leftV (unSegs (segsF l)).length 1048576 < 0))
    (ret (true))
    (bsel (isSegs (segsF l) && shortSegsV (unSegs (segsF l)))
     (bsel (decide ((unSegs (segsF l)).length = (unSegs (segsF l)).length))
      (bsel (isSegs (F.sl (unSegs (segsF l)).length (offF 0 fun i ↦ sgF ((unSegs (segsF l)).getD i Sg.zero))))
       (bsel (windowOkV (unSegs (F.sl (unSegs (segsF l)).length (offF 0 fun i ↦ sgF ((unSegs (segsF l)).getD i Sg.zero)))) lx ly hx hy)
        (bsel (isSegs (segsF l) && shortSegsV (unSegs (segsF l)))
         (bsel (decide ((unSegs (segsF l)).length = (unSegs (segsF l)).length))
          (bsel (isSegs (F.sl (unSegs (segsF l)).length (offF 0 fun i ↦ F.agg [F.int IntKind.i64 ((unSegs (segsF l)).getD i Sg.zero).x0, F.int IntKind.i64 ((unSegs (segsF l)).getD i Sg.zero).y0, F.int IntKind.i64 ((unSegs (segsF l)).getD i Sg.zero).x1, F.int IntKind.i64 ((unSegs (segsF l)).getD i Sg.zero).y1])))
           (bsel (windowOkV (unSegs (F.sl (unSegs (segsF l)).length (offF 0 fun i ↦ F.agg [F.int IntKind.i64 ((unSegs (segsF l)).getD i Sg.zero).x0, F.int IntKind.i64 ((unSegs (segsF l)).getD i Sg.zero).y0, F.int IntKind.i64 ((unSegs (segsF l)).getD i Sg.zero).x1, F.int IntKind.i64 ((unSegs (segsF l)).getD i Sg.zero).y1]))) lx ly hx hy)
            (bsel (decide ((windowV (unSegs (F.sl (unSegs (segsF l)).length (offF 0 fun i ↦ F.agg [F.int IntKind.i64 ((unSegs (segsF l)).getD i Sg.zero).x0, F.int IntKind.i64 ((unSegs (segsF l)).getD i Sg.zero).y0, F.int IntKind.i64 ((unSegs (segsF l)).getD i Sg.zero).x1, F.int IntKind.i64 ((unSegs (segsF l)).getD i Sg.zero).y1]))) lx ly hx hy).length = (windowV (unSegs (F.sl (unSegs (segsF l)).length (offF 0 fun i ↦ F.agg [F.int IntKind.i64 ((unSegs (segsF l)).getD i Sg.zero).x0, F.int IntKind.i64 ((unSegs (segsF l)).getD i Sg.zero).y0, F.int IntKind.i64 ((unSegs (segsF l)).getD i Sg.zero).x1, F.int IntKind.i64 ((unSegs (segsF l)).getD i Sg.zero).y1]))) lx ly hx hy).length))
             (bsel (decide ((windowV (unSegs (F.sl (unSegs (segsF l)).length (offF 0 fun i ↦ sgF ((unSegs (segsF l)).getD i Sg.zero)))) lx ly hx hy).length = (windowV (unSegs (F.sl (unSegs (segsF l)).length (offF 0 fun i ↦ sgF ((unSegs (segsF l)).getD i Sg.zero)))) lx ly hx hy).length))
              (bsel (isInts (F.sl (windowV (unSegs (F.sl (unSegs (segsF l)).length (offF 0 fun i ↦ F.agg [F.int IntKind.i64 ((unSegs (segsF l)).getD i Sg.zero).x0, F.int IntKind.i64 ((unSegs (segsF l)).getD i Sg.zero).y0, F.int IntKind.i64 ((unSegs (segsF l)).getD i Sg.zero).x1, F.int IntKind.i64 ((unSegs (segsF l)).getD i Sg.zero).y1]))) lx ly hx hy).length (offF 0 fun i ↦ F.int IntKind.i64 ((windowV (unSegs (F.sl (unSegs (segsF l)).length (offF 0 fun i ↦ F.agg [F.int IntKind.i64 ((unSegs (segsF l)).getD i Sg.zero).x0, F.int IntKind.i64 ((unSegs (segsF l)).getD i Sg.zero).y0, F.int IntKind.i64 ((unSegs (segsF l)).getD i Sg.zero).x1, F.int IntKind.i64 ((unSegs (segsF l)).getD i Sg.zero).y1]))) lx ly hx hy).getD i 0))) && isInts (F.sl (windowV (unSegs (F.sl (unSegs (segsF l)).length (offF 0 fun i ↦ sgF ((unSegs (segsF l)).getD i Sg.zero)))) lx ly hx hy).length (offF 0 fun i ↦ F.int IntKind.i64 ((windowV (unSegs (F.sl (unSegs (segsF l)).length (offF 0 fun i ↦ sgF ((unSegs (segsF l)).getD i Sg.zero)))) lx ly hx hy).getD i 0))) && shortV (unInts (F.sl (windowV (unSegs (F.sl (unSegs (segsF l)).length (offF 0 fun i ↦ F.agg [F.int IntKind.i64 ((unSegs (segsF l)).getD i Sg.zero).x0, F.int IntKind.i64 ((unSegs (segsF l)).getD i Sg.zero).y0, F.int IntKind.i64 ((unSegs (segsF l)).getD i Sg.zero).x1, F.int IntKind.i64 ((unSegs (segsF l)).getD i Sg.zero).y1]))) lx ly hx hy).length (offF 0 fun i ↦ F.int IntKind.i64 ((windowV (unSegs (F.sl (unSegs (segsF l)).length (offF 0 fun i ↦ F.agg [F.int IntKind.i64 ((unSegs (segsF l)).getD i Sg.zero).x0, F.int IntKind.i64 ((unSegs (segsF l)).getD i Sg.zero).y0, F.int IntKind.i64 ((unSegs (segsF l)).getD i Sg.zero).x1, F.int IntKind.i64 ((unSegs (segsF l)).getD i Sg.zero).y1]))) lx ly hx hy).getD i 0)))))
               (bsel ((!sameV (unInts (F.sl (windowV (unSegs (F.sl (unSegs (segsF l)).length (offF 0 fun i ↦ F.agg [F.int IntKind.i64 ((unSegs (segsF l)).getD i Sg.zero).x0, F.int IntKind.i64 ((unSegs (segsF l)).getD i Sg.zero).y0, F.int IntKind.i64 ((unSegs (segsF l)).getD i Sg.zero).x1, F.int IntKind.i64 ((unSegs (segsF l)).getD i Sg.zero).y1]))) lx ly hx hy).length (offF 0 fun i ↦ F.int IntKind.i64 ((windowV (unSegs (F.sl (unSegs (segsF l)).length (offF 0 fun i ↦ F.agg [F.int IntKind.i64 ((unSegs (segsF l)).getD i Sg.zero).x0, F.int IntKind.i64 ((unSegs (segsF l)).getD i Sg.zero).y0, F.int IntKind.i64 ((unSegs (segsF l)).getD i Sg.zero).x1, F.int IntKind.i64 ((unSegs (segsF l)).getD i Sg.zero).y1]))) lx ly hx hy).getD i 0)))) (unInts (F.sl (windowV (unSegs (F.sl (unSegs (segsF l)).length (offF 0 fun i ↦ sgF ((unSegs (segsF l)).getD i Sg.zero)))) lx ly hx hy).length (offF 0 fun i ↦ F.int IntKind.i64 ((windowV (unSegs (F.sl (unSegs (segsF l)).length (offF 0 fun i ↦ sgF ((unSegs (segsF l)).getD i Sg.zero)))) lx ly hx hy).getD i 0))))) == false)
                (bsel (isSegs (segsF l) && shortSegsV (unSegs (segsF l)))
                 (bsel (decide ((unSegs (segsF l)).length = (unSegs (segsF l)).length))
                  (bsel (decide ((unSegs (segsF l)).length = (unSegs (segsF l)).length))
                   (bsel (isSegs (F.sl (unSegs (segsF l)).length (offF 0 fun i ↦ F.agg [F.int IntKind.i64 ((unSegs (segsF l)).getD i Sg.zero).x0, F.int IntKind.i64 ((unSegs (segsF l)).getD i Sg.zero).y0, F.int IntKind.i64 ((unSegs (segsF l)).getD i Sg.zero).x1, F.int IntKind.i64 ((unSegs (segsF l)).getD i Sg.zero).y1])) && isSegs (F.sl (unSegs (segsF l)).length (offF 0 fun i ↦ sgF ((unSegs (segsF l)).getD i Sg.zero))) && shortSegsV (unSegs (F.sl (unSegs (segsF l)).length (offF 0 fun i ↦ F.agg [F.int IntKind.i64 ((unSegs (segsF l)).getD i Sg.zero).x0, F.int IntKind.i64 ((unSegs (segsF l)).getD i Sg.zero).y0, F.int IntKind.i64 ((unSegs (segsF l)).getD i Sg.zero).x1, F.int IntKind.i64 ((unSegs (segsF l)).getD i Sg.zero).y1]))))
                    (bsel (!sameSegsV (unSegs (F.sl (unSegs (segsF l)).length (offF 0 fun i ↦ F.agg [F.int IntKind.i64 ((unSegs (segsF l)).getD i Sg.zero).x0, F.int IntKind.i64 ((unSegs (segsF l)).getD i Sg.zero).y0, F.int IntKind.i64 ((unSegs (segsF l)).getD i Sg.zero).x1, F.int IntKind.i64 ((unSegs (segsF l)).getD i Sg.zero).y1]))) (unSegs (F.sl (unSegs (segsF l)).length (offF 0 fun i ↦ sgF ((unSegs (segsF l)).getD i Sg.zero)))))
                     (ret (false))
                     (bsel (decide ((unSegs (segsF l)).length = (unSegs (segsF l)).length) && true && decide ((unSegs (segsF l)).length = (unSegs (segsF l)).length))
                      (bsel (isSegs (F.sl (unSegs (segsF l)).length fun i ↦ F.agg [F.int IntKind.i64 ((unSegs (segsF l)).getD i Sg.zero).x0, F.int IntKind.i64 ((unSegs (segsF l)).getD i Sg.zero).y0, F.int IntKind.i64 ((unSegs (segsF l)).getD i Sg.zero).x1, F.int IntKind.i64 ((unSegs (segsF l)).getD i Sg.zero).y1]) && decide ((unSegs (segsF l)).length ≤ 1048576) && true && true)
                       (bsel (decide (1 + 4 * (↑(unSegs (segsF l)).length : Int) < 0) == false)
                        (bsel (decide ((windowV (unSegs (F.sl (unSegs (segsF l)).length (offF 0 fun i ↦ F.agg [F.int IntKind.i64 ((unSegs (segsF l)).getD i Sg.zero).x0, F.int IntKind.i64 ((unSegs (segsF l)).getD i Sg.zero).y0, F.int IntKind.i64 ((unSegs (segsF l)).getD i Sg.zero).x1, F.int IntKind.i64 ((unSegs (segsF l)).getD i Sg.zero).y1]))) lx ly hx hy).length = (windowV (unSegs (F.sl (unSegs (segsF l)).length (offF 0 fun i ↦ F.agg [F.int IntKind.i64 ((unSegs (segsF l)).getD i Sg.zero).x0, F.int IntKind.i64 ((unSegs (segsF l)).getD i Sg.zero).y0, F.int IntKind.i64 ((unSegs (segsF l)).getD i Sg.zero).x1, F.int IntKind.i64 ((unSegs (segsF l)).getD i Sg.zero).y1]))) lx ly hx hy).length))
                         (bsel (decide ((windowV (unSegs (F.sl (unSegs (segsF l)).length (offF 0 fun i ↦ sgF ((unSegs (segsF l)).getD i Sg.zero)))) lx ly hx hy).length = (windowV (unSegs (F.sl (unSegs (segsF l)).length (offF 0 fun i ↦ sgF ((unSegs (segsF l)).getD i Sg.zero)))) lx ly hx hy).length))
                          (bsel (isInts (F.sl (windowV (unSegs (F.sl (unSegs (segsF l)).length (offF 0 fun i ↦ F.agg [F.int IntKind.i64 ((unSegs (segsF l)).getD i Sg.zero).x0, F.int IntKind.i64 ((unSegs (segsF l)).getD i Sg.zero).y0, F.int IntKind.i64 ((unSegs (segsF l)).getD i Sg.zero).x1, F.int IntKind.i64 ((unSegs (segsF l)).getD i Sg.zero).y1]))) lx ly hx hy).length (offF 0 fun i ↦ F.int IntKind.i64 ((windowV (unSegs (F.sl (unSegs (segsF l)).length (offF 0 fun i ↦ F.agg [F.int IntKind.i64 ((unSegs (segsF l)).getD i Sg.zero).x0, F.int IntKind.i64 ((unSegs (segsF l)).getD i Sg.zero).y0, F.int IntKind.i64 ((unSegs (segsF l)).getD i Sg.zero).x1, F.int IntKind.i64 ((unSegs (segsF l)).getD i Sg.zero).y1]))) lx ly hx hy).getD i 0))) && isInts (F.sl (windowV (unSegs (F.sl (unSegs (segsF l)).length (offF 0 fun i ↦ sgF ((unSegs (segsF l)).getD i Sg.zero)))) lx ly hx hy).length (offF 0 fun i ↦ F.int IntKind.i64 ((windowV (unSegs (F.sl (unSegs (segsF l)).length (offF 0 fun i ↦ sgF ((unSegs (segsF l)).getD i Sg.zero)))) lx ly hx hy).getD i 0))) && shortV (unInts (F.sl (windowV (unSegs (F.sl (unSegs (segsF l)).length (offF 0 fun i ↦ F.agg [F.int IntKind.i64 ((unSegs (segsF l)).getD i Sg.zero).x0, F.int IntKind.i64 ((unSegs (segsF l)).getD i Sg.zero).y0, F.int IntKind.i64 ((unSegs (segsF l)).getD i Sg.zero).x1, F.int IntKind.i64 ((unSegs (segsF l)).getD i Sg.zero).y1]))) lx ly hx hy).length (offF 0 fun i ↦ F.int IntKind.i64 ((windowV (unSegs (F.sl (unSegs (segsF l)).length (offF 0 fun i ↦ F.agg [F.int IntKind.i64 ((unSegs (segsF l)).getD i Sg.zero).x0, F.int IntKind.i64 ((unSegs (segsF l)).getD i Sg.zero).y0, F.int IntKind.i64 ((unSegs (segsF l)).getD i Sg.zero).x1, F.int IntKind.i64 ((unSegs (segsF l)).getD i Sg.zero).y1]))) lx ly hx hy).getD i 0)))))
                           (bsel ((!sameV (unInts (F.sl (windowV (unSegs (F.sl (unSegs (segsF l)).length (offF 0 fun i ↦ F.agg [F.int IntKind.i64 ((unSegs (segsF l)).getD i Sg.zero).x0, F.int IntKind.i64 ((unSegs (segsF l)).getD i Sg.zero).y0, F.int IntKind.i64 ((unSegs (segsF l)).getD i Sg.zero).x1, F.int IntKind.i64 ((unSegs (segsF l)).getD i Sg.zero).y1]))) lx ly hx hy).length (offF 0 fun i ↦ F.int IntKind.i64 ((windowV (unSegs (F.sl (unSegs (segsF l)).length (offF 0 fun i ↦ F.agg [F.int IntKind.i64 ((unSegs (segsF l)).getD i Sg.zero).x0, F.int IntKind.i64 ((unSegs (segsF l)).getD i Sg.zero).y0, F.int IntKind.i64 ((unSegs (segsF l)).getD i Sg.zero).x1, F.int IntKind.i64 ((unSegs (segsF l)).getD i Sg.zero).y1]))) lx ly hx hy).getD i 0)))) (unInts (F.sl (windowV (unSegs (F.sl (unSegs (segsF l)).length (offF 0 fun i ↦ sgF ((unSegs (segsF l)).getD i Sg.zero)))) lx ly hx hy).length (offF 0 fun i ↦ F.int IntKind.i64 ((windowV (unSegs (F.sl (unSegs (segsF l)).length (offF 0 fun i ↦ sgF ((unSegs (segsF l)).getD i Sg.zero)))) lx ly hx hy).getD i 0))))) == false)
                            (bsel (decide ((windowV (unSegs (F.sl (unSegs (segsF l)).length (offF 0 fun i ↦ F.agg [F.int IntKind.i64 ((unSegs (segsF l)).getD i Sg.zero).x0, F.int IntKind.i64 ((unSegs (segsF l)).getD i Sg.zero).y0, F.int IntKind.i64 ((unSegs (segsF l)).getD i Sg.zero).x1, F.int IntKind.i64 ((unSegs (segsF l)).getD i Sg.zero).y1]))) lx ly hx hy).length = (windowV (unSegs (F.sl (unSegs (segsF l)).length (offF 0 fun i ↦ F.agg [F.int IntKind.i64 ((unSegs (segsF l)).getD i Sg.zero).x0, F.int IntKind.i64 ((unSegs (segsF l)).getD i Sg.zero).y0, F.int IntKind.i64 ((unSegs (segsF l)).getD i Sg.zero).x1, F.int IntKind.i64 ((unSegs (segsF l)).getD i Sg.zero).y1]))) lx ly hx hy).length) && true && decide ((windowV (unSegs (F.sl (unSegs (segsF l)).length (offF 0 fun i ↦ F.agg [F.int IntKind.i64 ((unSegs (segsF l)).getD i Sg.zero).x0, F.int IntKind.i64 ((unSegs (segsF l)).getD i Sg.zero).y0, F.int IntKind.i64 ((unSegs (segsF l)).getD i Sg.zero).x1, F.int IntKind.i64 ((unSegs (segsF l)).getD i Sg.zero).y1]))) lx ly hx hy).length = (windowV (unSegs (F.sl (unSegs (segsF l)).length (offF 0 fun i ↦ F.agg [F.int IntKind.i64 ((unSegs (segsF l)).getD i Sg.zero).x0, F.int IntKind.i64 ((unSegs (segsF l)).getD i Sg.zero).y0, F.int IntKind.i64 ((unSegs (segsF l)).getD i Sg.zero).x1, F.int IntKind.i64 ((unSegs (segsF l)).getD i Sg.zero).y1]))) lx ly hx hy).length))
                             (bsel (isInts (F.sl (windowV (unSegs (F.sl (unSegs (segsF l)).length (offF 0 fun i ↦ F.agg [F.int IntKind.i64 ((unSegs (segsF l)).getD i Sg.zero).x0, F.int IntKind.i64 ((unSegs (segsF l)).getD i Sg.zero).y0, F.int IntKind.i64 ((unSegs (segsF l)).getD i Sg.zero).x1, F.int IntKind.i64 ((unSegs (segsF l)).getD i Sg.zero).y1]))) lx ly hx hy).length fun i ↦ F.int IntKind.i64 ((windowV (unSegs (F.sl (unSegs (segsF l)).length (offF 0 fun i ↦ F.agg [F.int IntKind.i64 ((unSegs (segsF l)).getD i Sg.zero).x0, F.int IntKind.i64 ((unSegs (segsF l)).getD i Sg.zero).y0, F.int IntKind.i64 ((unSegs (segsF l)).getD i Sg.zero).x1, F.int IntKind.i64 ((unSegs (segsF l)).getD i Sg.zero).y1]))) lx ly hx hy).getD i 0)) && decide ((windowV (unSegs (F.sl (unSegs (segsF l)).length (offF 0 fun i ↦ F.agg [F.int IntKind.i64 ((unSegs (segsF l)).getD i Sg.zero).x0, F.int IntKind.i64 ((unSegs (segsF l)).getD i Sg.zero).y0, F.int IntKind.i64 ((unSegs (segsF l)).getD i Sg.zero).x1, F.int IntKind.i64 ((unSegs (segsF l)).getD i Sg.zero).y1]))) lx ly hx hy).length ≤ 1048576) && true && true)
                              (bsel (decide ((windowV (unSegs (F.sl (unSegs (segsF l)).length (offF 0 fun i ↦ F.agg [F.int IntKind.i64 ((unSegs (segsF l)).getD i Sg.zero).x0, F.int IntKind.i64 ((unSegs (segsF l)).getD i Sg.zero).y0, F.int IntKind.i64 ((unSegs (segsF l)).getD i Sg.zero).x1, F.int IntKind.i64 ((unSegs (segsF l)).getD i Sg.zero).y1]))) lx ly hx hy).length = (windowV (unSegs (F.sl (unSegs (segsF l)).length (offF 0 fun i ↦ F.agg [F.int IntKind.i64 ((unSegs (segsF l)).getD i Sg.zero).x0, F.int IntKind.i64 ((unSegs (segsF l)).getD i Sg.zero).y0, F.int IntKind.i64 ((unSegs (segsF l)).getD i Sg.zero).x1, F.int IntKind.i64 ((unSegs (segsF l)).getD i Sg.zero).y1]))) lx ly hx hy).length))
                               (bsel (isInts (F.sl (windowV (unSegs (F.sl (unSegs (segsF l)).length (offF 0 fun i ↦ F.agg [F.int IntKind.i64 ((unSegs (segsF l)).getD i Sg.zero).x0, F.int IntKind.i64 ((unSegs (segsF l)).getD i Sg.zero).y0, F.int IntKind.i64 ((unSegs (segsF l)).getD i Sg.zero).x1, F.int IntKind.i64 ((unSegs (segsF l)).getD i Sg.zero).y1]))) lx ly hx hy).length (offF 0 fun j ↦ F.int IntKind.i64 (1 + (↑j : Int)))) && shortV (unInts (F.sl (windowV (unSegs (F.sl (unSegs (segsF l)).length (offF 0 fun i ↦ F.agg [F.int IntKind.i64 ((unSegs (segsF l)).getD i Sg.zero).x0, F.int IntKind.i64 ((unSegs (segsF l)).getD i Sg.zero).y0, F.int IntKind.i64 ((unSegs (segsF l)).getD i Sg.zero).x1, F.int IntKind.i64 ((unSegs (segsF l)).getD i Sg.zero).y1]))) lx ly hx hy).length (offF 0 fun j ↦ F.int IntKind.i64 (1 + (↑j : Int))))))
                                (bsel (decide (heldV (unInts (F.sl (windowV (unSegs (F.sl (unSegs (segsF l)).length (offF 0 fun i ↦ F.agg [F.int IntKind.i64 ((unSegs (segsF l)).getD i Sg.zero).x0, F.int IntKind.i64 ((unSegs (segsF l)).getD i Sg.zero).y0, F.int IntKind.i64 ((unSegs (segsF l)).getD i Sg.zero).x1, F.int IntKind.i64 ((unSegs (segsF l)).getD i Sg.zero).y1]))) lx ly hx hy).length (offF 0 fun j ↦ F.int IntKind.i64 (1 + (↑j : Int))))) 1 < 0))
                                 (ret (false))
                                 (bsel (heldV (unInts (F.sl (windowV (unSegs (F.sl (unSegs (segsF l)).length (offF 0 fun i ↦ F.agg [F.int IntKind.i64 ((unSegs (segsF l)).getD i Sg.zero).x0, F.int IntKind.i64 ((unSegs (segsF l)).getD i Sg.zero).y0, F.int IntKind.i64 ((unSegs (segsF l)).getD i Sg.zero).x1, F.int IntKind.i64 ((unSegs (segsF l)).getD i Sg.zero).y1]))) lx ly hx hy).length (offF 0 fun j ↦ F.int IntKind.i64 (1 + (↑j : Int))))) 1 != 1 + (↑(windowV (unSegs (F.sl (unSegs (segsF l)).length (offF 0 fun i ↦ F.agg [F.int IntKind.i64 ((unSegs (segsF l)).getD i Sg.zero).x0, F.int IntKind.i64 ((unSegs (segsF l)).getD i Sg.zero).y0, F.int IntKind.i64 ((unSegs (segsF l)).getD i Sg.zero).x1, F.int IntKind.i64 ((unSegs (segsF l)).getD i Sg.zero).y1]))) lx ly hx hy).length : Int))
                                  (ret (false))
                                  (bsel (isSegs (segsF l) && shortSegsV (unSegs (segsF l)))
                                   (bsel (decide ((unSegs (segsF l)).length = (unSegs (segsF l)).length))
                                    (bsel (isSegs (F.sl (unSegs (segsF l)).length (offF 0 fun i ↦ sgF ((unSegs (segsF l)).getD i Sg.zero))))
                                     (bsel (windowOkV (unSegs (F.sl (unSegs (segsF l)).length (offF 0 fun i ↦ sgF ((unSegs (segsF l)).getD i Sg.zero)))) lx ly hx hy)
                                      (bsel (decide ((windowV (unSegs (F.sl (unSegs (segsF l)).length (offF 0 fun i ↦ sgF ((unSegs (segsF l)).getD i Sg.zero)))) lx ly hx hy).length = (windowV (unSegs (F.sl (unSegs (segsF l)).length (offF 0 fun i ↦ sgF ((unSegs (segsF l)).getD i Sg.zero)))) lx ly hx hy).length))
                                       (bsel (decide ((windowV (unSegs (F.sl (unSegs (segsF l)).length (offF 0 fun i ↦ sgF ((unSegs (segsF l)).getD i Sg.zero)))) lx ly hx hy).length = (windowV (unSegs (F.sl (unSegs (segsF l)).length (offF 0 fun i ↦ sgF ((unSegs (segsF l)).getD i Sg.zero)))) lx ly hx hy).length))
                                        (bsel (isInts (F.sl (windowV (unSegs (F.sl (unSegs (segsF l)).length (offF 0 fun i ↦ sgF ((unSegs (segsF l)).getD i Sg.zero)))) lx ly hx hy).length (offF 0 fun i ↦ F.int IntKind.i64 ((windowV (unSegs (F.sl (unSegs (segsF l)).length (offF 0 fun i ↦ sgF ((unSegs (segsF l)).getD i Sg.zero)))) lx ly hx hy).getD i 0))) && isInts (F.sl (windowV (unSegs (F.sl (unSegs (segsF l)).length (offF 0 fun i ↦ sgF ((unSegs (segsF l)).getD i Sg.zero)))) lx ly hx hy).length (offF 0 fun i ↦ F.int IntKind.i64 ((windowV (unSegs (F.sl (unSegs (segsF l)).length (offF 0 fun i ↦ sgF ((unSegs (segsF l)).getD i Sg.zero)))) lx ly hx hy).getD i 0))) && shortV (unInts (F.sl (windowV (unSegs (F.sl (unSegs (segsF l)).length (offF 0 fun i ↦ sgF ((unSegs (segsF l)).getD i Sg.zero)))) lx ly hx hy).length (offF 0 fun i ↦ F.int IntKind.i64 ((windowV (unSegs (F.sl (unSegs (segsF l)).length (offF 0 fun i ↦ sgF ((unSegs (segsF l)).getD i Sg.zero)))) lx ly hx hy).getD i 0)))))
                                         (bsel ((!sameV (unInts (F.sl (windowV (unSegs (F.sl (unSegs (segsF l)).length (offF 0 fun i ↦ sgF ((unSegs (segsF l)).getD i Sg.zero)))) lx ly hx hy).length (offF 0 fun i ↦ F.int IntKind.i64 ((windowV (unSegs (F.sl (unSegs (segsF l)).length (offF 0 fun i ↦ sgF ((unSegs (segsF l)).getD i Sg.zero)))) lx ly hx hy).getD i 0)))) (unInts (F.sl (windowV (unSegs (F.sl (unSegs (segsF l)).length (offF 0 fun i ↦ sgF ((unSegs (segsF l)).getD i Sg.zero)))) lx ly hx hy).length (offF 0 fun i ↦ F.int IntKind.i64 ((windowV (unSegs (F.sl (unSegs (segsF l)).length (offF 0 fun i ↦ sgF ((unSegs (segsF l)).getD i Sg.zero)))) lx ly hx hy).getD i 0))))) == false)
                                          (bsel (decide ((windowV (unSegs (F.sl (unSegs (segsF l)).length (offF 0 fun i ↦ F.agg [F.int IntKind.i64 ((unSegs (segsF l)).getD i Sg.zero).x0, F.int IntKind.i64 ((unSegs (segsF l)).getD i Sg.zero).y0, F.int IntKind.i64 ((unSegs (segsF l)).getD i Sg.zero).x1, F.int IntKind.i64 ((unSegs (segsF l)).getD i Sg.zero).y1]))) lx ly hx hy).length = (windowV (unSegs (F.sl (unSegs (segsF l)).length (offF 0 fun i ↦ F.agg [F.int IntKind.i64 ((unSegs (segsF l)).getD i Sg.zero).x0, F.int IntKind.i64 ((unSegs (segsF l)).getD i Sg.zero).y0, F.int IntKind.i64 ((unSegs (segsF l)).getD i Sg.zero).x1, F.int IntKind.i64 ((unSegs (segsF l)).getD i Sg.zero).y1]))) lx ly hx hy).length))
                                           (bsel (isInts (F.sl (windowV (unSegs (F.sl (unSegs (segsF l)).length (offF 0 fun i ↦ F.agg [F.int IntKind.i64 ((unSegs (segsF l)).getD i Sg.zero).x0, F.int IntKind.i64 ((unSegs (segsF l)).getD i Sg.zero).y0, F.int IntKind.i64 ((unSegs (segsF l)).getD i Sg.zero).x1, F.int IntKind.i64 ((unSegs (segsF l)).getD i Sg.zero).y1]))) lx ly hx hy).length (offF 0 fun j ↦ F.int IntKind.i64 (1 + (↑j : Int)))) && shortV (unInts (F.sl (windowV (unSegs (F.sl (unSegs (segsF l)).length (offF 0 fun i ↦ F.agg [F.int IntKind.i64 ((unSegs (segsF l)).getD i Sg.zero).x0, F.int IntKind.i64 ((unSegs (segsF l)).getD i Sg.zero).y0, F.int IntKind.i64 ((unSegs (segsF l)).getD i Sg.zero).x1, F.int IntKind.i64 ((unSegs (segsF l)).getD i Sg.zero).y1]))) lx ly hx hy).length (offF 0 fun j ↦ F.int IntKind.i64 (1 + (↑j : Int))))))
                                            (bsel (decide (heldV (unInts (F.sl (windowV (unSegs (F.sl (unSegs (segsF l)).length (offF 0 fun i ↦ F.agg [F.int IntKind.i64 ((unSegs (segsF l)).getD i Sg.zero).x0, F.int IntKind.i64 ((unSegs (segsF l)).getD i Sg.zero).y0, F.int IntKind.i64 ((unSegs (segsF l)).getD i Sg.zero).x1, F.int IntKind.i64 ((unSegs (segsF l)).getD i Sg.zero).y1]))) lx ly hx hy).length (offF 0 fun j ↦ F.int IntKind.i64 (1 + (↑j : Int))))) 1 < 0))
                                             (ret (false))
                                             (bsel (heldV (unInts (F.sl (windowV (unSegs (F.sl (unSegs (segsF l)).length (offF 0 fun i ↦ F.agg [F.int IntKind.i64 ((unSegs (segsF l)).getD i Sg.zero).x0, F.int IntKind.i64 ((unSegs (segsF l)).getD i Sg.zero).y0, F.int IntKind.i64 ((unSegs (segsF l)).getD i Sg.zero).x1, F.int IntKind.i64 ((unSegs (segsF l)).getD i Sg.zero).y1]))) lx ly hx hy).length (offF 0 fun j ↦ F.int IntKind.i64 (1 + (↑j : Int))))) 1 != 1 + (↑(windowV (unSegs (F.sl (unSegs (segsF l)).length (offF 0 fun i ↦ F.agg [F.int IntKind.i64 ((unSegs (segsF l)).getD i Sg.zero).x0, F.int IntKind.i64 ((unSegs (segsF l)).getD i Sg.zero).y0, F.int IntKind.i64 ((unSegs (segsF l)).getD i Sg.zero).x1, F.int IntKind.i64 ((unSegs (segsF l)).getD i Sg.zero).y1]))) lx ly hx hy).length : Int))
                                              (ret (false))
                                              (ret (true))))
                                            none)
                                           none)
                                          (ret (false)))
                                         none)
                                        none)
                                       none)
                                      (bsel (decide ((windowV (unSegs (F.sl (unSegs (segsF l)).length (offF 0 fun i ↦ sgF ((unSegs (segsF l)).getD i Sg.zero)))) lx ly hx hy).length = (windowV (unSegs (F.sl (unSegs (segsF l)).length (offF 0 fun i ↦ sgF ((unSegs (segsF l)).getD i Sg.zero)))) lx ly hx hy).length))
                                       (bsel (isInts (F.sl (windowV (unSegs (F.sl (unSegs (segsF l)).length (offF 0 fun i ↦ sgF ((unSegs (segsF l)).getD i Sg.zero)))) lx ly hx hy).length (offF 0 fun i ↦ F.int IntKind.i64 ((windowV (unSegs (F.sl (unSegs (segsF l)).length (offF 0 fun i ↦ sgF ((unSegs (segsF l)).getD i Sg.zero)))) lx ly hx hy).getD i 0))) && true)
                                        (bsel ((!sameV (unInts (F.sl 0 fun x ↦ F.bool false)) (unInts (F.sl (windowV (unSegs (F.sl (unSegs (segsF l)).length (offF 0 fun i ↦ sgF ((unSegs (segsF l)).getD i Sg.zero)))) lx ly hx hy).length (offF 0 fun i ↦ F.int IntKind.i64 ((windowV (unSegs (F.sl (unSegs (segsF l)).length (offF 0 fun i ↦ sgF ((unSegs (segsF l)).getD i Sg.zero)))) lx ly hx hy).getD i 0))))) == false)
                                         (ret (false))
                                         (ret (false)))
                                        none)
                                       none))
                                     none)
                                    none)
                                   none)))
                                none)
                               none)
                              none)
                             none)
                            (ret (false)))
                           none)
                          none)
                         none)
                        (ret (false)))
                       none)
                      none))
                    none)
                   none)
                  none)
                 none)
                (ret (false)))
               none)
              none)
             none)
            (bsel (decide ((windowV (unSegs (F.sl (unSegs (segsF l)).length (offF 0 fun i ↦ sgF ((unSegs (segsF l)).getD i Sg.zero)))) lx ly hx hy).length = (windowV (unSegs (F.sl (unSegs (segsF l)).length (offF 0 fun i ↦ sgF ((unSegs (segsF l)).getD i Sg.zero)))) lx ly hx hy).length))
             (bsel (isInts (F.sl (windowV (unSegs (F.sl (unSegs (segsF l)).length (offF 0 fun i ↦ sgF ((unSegs (segsF l)).getD i Sg.zero)))) lx ly hx hy).length (offF 0 fun i ↦ F.int IntKind.i64 ((windowV (unSegs (F.sl (unSegs (segsF l)).length (offF 0 fun i ↦ sgF ((unSegs (segsF l)).getD i Sg.zero)))) lx ly hx hy).getD i 0))) && true)
              (bsel ((!sameV (unInts (F.sl 0 fun x ↦ F.bool false)) (unInts (F.sl (windowV (unSegs (F.sl (unSegs (segsF l)).length (offF 0 fun i ↦ sgF ((unSegs (segsF l)).getD i Sg.zero)))) lx ly hx hy).length (offF 0 fun i ↦ F.int IntKind.i64 ((windowV (unSegs (F.sl (unSegs (segsF l)).length (offF 0 fun i ↦ sgF ((unSegs (segsF l)).getD i Sg.zero)))) lx ly hx hy).getD i 0))))) == false)
               (ret (false))
               (ret (false)))
              none)
             none))
           none)
          none)
         none)
        (bsel (isSegs (segsF l) && shortSegsV (unSegs (segsF l)))
         (bsel (decide ((unSegs (segsF l)).length = (unSegs (segsF l)).length))
          (bsel (isSegs (F.sl (unSegs (segsF l)).length (offF 0 fun i ↦ F.agg [F.int IntKind.i64 ((unSegs (segsF l)).getD i Sg.zero).x0, F.int IntKind.i64 ((unSegs (segsF l)).getD i Sg.zero).y0, F.int IntKind.i64 ((unSegs (segsF l)).getD i Sg.zero).x1, F.int IntKind.i64 ((unSegs (segsF l)).getD i Sg.zero).y1])))
           (bsel (windowOkV (unSegs (F.sl (unSegs (segsF l)).length (offF 0 fun i ↦ F.agg [F.int IntKind.i64 ((unSegs (segsF l)).getD i Sg.zero).x0, F.int IntKind.i64 ((unSegs (segsF l)).getD i Sg.zero).y0, F.int IntKind.i64 ((unSegs (segsF l)).getD i Sg.zero).x1, F.int IntKind.i64 ((unSegs (segsF l)).getD i Sg.zero).y1]))) lx ly hx hy)
            (bsel (decide ((windowV (unSegs (F.sl (unSegs (segsF l)).length (offF 0 fun i ↦ F.agg [F.int IntKind.i64 ((unSegs (segsF l)).getD i Sg.zero).x0, F.int IntKind.i64 ((unSegs (segsF l)).getD i Sg.zero).y0, F.int IntKind.i64 ((unSegs (segsF l)).getD i Sg.zero).x1, F.int IntKind.i64 ((unSegs (segsF l)).getD i Sg.zero).y1]))) lx ly hx hy).length = (windowV (unSegs (F.sl (unSegs (segsF l)).length (offF 0 fun i ↦ F.agg [F.int IntKind.i64 ((unSegs (segsF l)).getD i Sg.zero).x0, F.int IntKind.i64 ((unSegs (segsF l)).getD i Sg.zero).y0, F.int IntKind.i64 ((unSegs (segsF l)).getD i Sg.zero).x1, F.int IntKind.i64 ((unSegs (segsF l)).getD i Sg.zero).y1]))) lx ly hx hy).length))
             (bsel (isInts (F.sl (windowV (unSegs (F.sl (unSegs (segsF l)).length (offF 0 fun i ↦ F.agg [F.int IntKind.i64 ((unSegs (segsF l)).getD i Sg.zero).x0, F.int IntKind.i64 ((unSegs (segsF l)).getD i Sg.zero).y0, F.int IntKind.i64 ((unSegs (segsF l)).getD i Sg.zero).x1, F.int IntKind.i64 ((unSegs (segsF l)).getD i Sg.zero).y1]))) lx ly hx hy).length (offF 0 fun i ↦ F.int IntKind.i64 ((windowV (unSegs (F.sl (unSegs (segsF l)).length (offF 0 fun i ↦ F.agg [F.int IntKind.i64 ((unSegs (segsF l)).getD i Sg.zero).x0, F.int IntKind.i64 ((unSegs (segsF l)).getD i Sg.zero).y0, F.int IntKind.i64 ((unSegs (segsF l)).getD i Sg.zero).x1, F.int IntKind.i64 ((unSegs (segsF l)).getD i Sg.zero).y1]))) lx ly hx hy).getD i 0))) && true && shortV (unInts (F.sl (windowV (unSegs (F.sl (unSegs (segsF l)).length (offF 0 fun i ↦ F.agg [F.int IntKind.i64 ((unSegs (segsF l)).getD i Sg.zero).x0, F.int IntKind.i64 ((unSegs (segsF l)).getD i Sg.zero).y0, F.int IntKind.i64 ((unSegs (segsF l)).getD i Sg.zero).x1, F.int IntKind.i64 ((unSegs (segsF l)).getD i Sg.zero).y1]))) lx ly hx hy).length (offF 0 fun i ↦ F.int IntKind.i64 ((windowV (unSegs (F.sl (unSegs (segsF l)).length (offF 0 fun i ↦ F.agg [F.int IntKind.i64 ((unSegs (segsF l)).getD i Sg.zero).x0, F.int IntKind.i64 ((unSegs (segsF l)).getD i Sg.zero).y0, F.int IntKind.i64 ((unSegs (segsF l)).getD i Sg.zero).x1, F.int IntKind.i64 ((unSegs (segsF l)).getD i Sg.zero).y1]))) lx ly hx hy).getD i 0)))))
              (bsel ((!sameV (unInts (F.sl (windowV (unSegs (F.sl (unSegs (segsF l)).length (offF 0 fun i ↦ F.agg [F.int IntKind.i64 ((unSegs (segsF l)).getD i Sg.zero).x0, F.int IntKind.i64 ((unSegs (segsF l)).getD i Sg.zero).y0, F.int IntKind.i64 ((unSegs (segsF l)).getD i Sg.zero).x1, F.int IntKind.i64 ((unSegs (segsF l)).getD i Sg.zero).y1]))) lx ly hx hy).length (offF 0 fun i ↦ F.int IntKind.i64 ((windowV (unSegs (F.sl (unSegs (segsF l)).length (offF 0 fun i ↦ F.agg [F.int IntKind.i64 ((unSegs (segsF l)).getD i Sg.zero).x0, F.int IntKind.i64 ((unSegs (segsF l)).getD i Sg.zero).y0, F.int IntKind.i64 ((unSegs (segsF l)).getD i Sg.zero).x1, F.int IntKind.i64 ((unSegs (segsF l)).getD i Sg.zero).y1]))) lx ly hx hy).getD i 0)))) (unInts (F.sl 0 fun x ↦ F.bool false))) == false)
               (ret (false))
               (ret (false)))
              none)
             none)
            (bsel (isSegs (segsF l) && shortSegsV (unSegs (segsF l)))
             (bsel (decide ((unSegs (segsF l)).length = (unSegs (segsF l)).length))
              (bsel (decide ((unSegs (segsF l)).length = (unSegs (segsF l)).length))
               (bsel (isSegs (F.sl (unSegs (segsF l)).length (offF 0 fun i ↦ F.agg [F.int IntKind.i64 ((unSegs (segsF l)).getD i Sg.zero).x0, F.int IntKind.i64 ((unSegs (segsF l)).getD i Sg.zero).y0, F.int IntKind.i64 ((unSegs (segsF l)).getD i Sg.zero).x1, F.int IntKind.i64 ((unSegs (segsF l)).getD i Sg.zero).y1])) && isSegs (F.sl (unSegs (segsF l)).length (offF 0 fun i ↦ sgF ((unSegs (segsF l)).getD i Sg.zero))) && shortSegsV (unSegs (F.sl (unSegs (segsF l)).length (offF 0 fun i ↦ F.agg [F.int IntKind.i64 ((unSegs (segsF l)).getD i Sg.zero).x0, F.int IntKind.i64 ((unSegs (segsF l)).getD i Sg.zero).y0, F.int IntKind.i64 ((unSegs (segsF l)).getD i Sg.zero).x1, F.int IntKind.i64 ((unSegs (segsF l)).getD i Sg.zero).y1]))))
                (bsel (!sameSegsV (unSegs (F.sl (unSegs (segsF l)).length (offF 0 fun i ↦ F.agg [F.int IntKind.i64 ((unSegs (segsF l)).getD i Sg.zero).x0, F.int IntKind.i64 ((unSegs (segsF l)).getD i Sg.zero).y0, F.int IntKind.i64 ((unSegs (segsF l)).getD i Sg.zero).x1, F.int IntKind.i64 ((unSegs (segsF l)).getD i Sg.zero).y1]))) (unSegs (F.sl (unSegs (segsF l)).length (offF 0 fun i ↦ sgF ((unSegs (segsF l)).getD i Sg.zero)))))
                 (ret (false))
                 (bsel (decide ((unSegs (segsF l)).length = (unSegs (segsF l)).length) && true && decide ((unSegs (segsF l)).length = (unSegs (segsF l)).length))
                  (bsel (isSegs (F.sl (unSegs (segsF l)).length fun i ↦ F.agg [F.int IntKind.i64 ((unSegs (segsF l)).getD i Sg.zero).x0, F.int IntKind.i64 ((unSegs (segsF l)).getD i Sg.zero).y0, F.int IntKind.i64 ((unSegs (segsF l)).getD i Sg.zero).x1, F.int IntKind.i64 ((unSegs (segsF l)).getD i Sg.zero).y1]) && decide ((unSegs (segsF l)).length ≤ 1048576) && true && true)
                   (bsel (decide (1 + 4 * (↑(unSegs (segsF l)).length : Int) < 0) == false)
                    (bsel (isSegs (segsF l) && shortSegsV (unSegs (segsF l)))
                     (bsel (decide ((unSegs (segsF l)).length = (unSegs (segsF l)).length))
                      (bsel (isSegs (F.sl (unSegs (segsF l)).length (offF 0 fun i ↦ sgF ((unSegs (segsF l)).getD i Sg.zero))))
                       (bsel (windowOkV (unSegs (F.sl (unSegs (segsF l)).length (offF 0 fun i ↦ sgF ((unSegs (segsF l)).getD i Sg.zero)))) lx ly hx hy)
                        (bsel (decide ((windowV (unSegs (F.sl (unSegs (segsF l)).length (offF 0 fun i ↦ sgF ((unSegs (segsF l)).getD i Sg.zero)))) lx ly hx hy).length = (windowV (unSegs (F.sl (unSegs (segsF l)).length (offF 0 fun i ↦ sgF ((unSegs (segsF l)).getD i Sg.zero)))) lx ly hx hy).length))
                         (bsel (isInts (F.sl (windowV (unSegs (F.sl (unSegs (segsF l)).length (offF 0 fun i ↦ sgF ((unSegs (segsF l)).getD i Sg.zero)))) lx ly hx hy).length (offF 0 fun i ↦ F.int IntKind.i64 ((windowV (unSegs (F.sl (unSegs (segsF l)).length (offF 0 fun i ↦ sgF ((unSegs (segsF l)).getD i Sg.zero)))) lx ly hx hy).getD i 0))) && true && shortV (unInts (F.sl (windowV (unSegs (F.sl (unSegs (segsF l)).length (offF 0 fun i ↦ sgF ((unSegs (segsF l)).getD i Sg.zero)))) lx ly hx hy).length (offF 0 fun i ↦ F.int IntKind.i64 ((windowV (unSegs (F.sl (unSegs (segsF l)).length (offF 0 fun i ↦ sgF ((unSegs (segsF l)).getD i Sg.zero)))) lx ly hx hy).getD i 0)))))
                          (bsel ((!sameV (unInts (F.sl (windowV (unSegs (F.sl (unSegs (segsF l)).length (offF 0 fun i ↦ sgF ((unSegs (segsF l)).getD i Sg.zero)))) lx ly hx hy).length (offF 0 fun i ↦ F.int IntKind.i64 ((windowV (unSegs (F.sl (unSegs (segsF l)).length (offF 0 fun i ↦ sgF ((unSegs (segsF l)).getD i Sg.zero)))) lx ly hx hy).getD i 0)))) (unInts (F.sl 0 fun x ↦ F.bool false))) == false)
                           (ret (false))
                           (ret (false)))
                          none)
                         none)
                        (ret (true)))
                       none)
                      none)
                     none)
                    (ret (false)))
                   none)
                  none))
                none)
               none)
              none)
             none))
           none)
          none)
         none))
       none)
      none)
     none))
   none)
def G3 (l : List Sg) (lx : Int) (ly : Int) (hx : Int) (hy : Int) : Option (Bool) := T3 some l lx ly hx hy
theorem t3 (l : List Sg) (lx : Int) (ly : Int) (hx : Int) (hy : Int) (r : Bool) (h : G3 l lx ly hx hy = some r) : Ends Try.prog Try.f3.results.toList [.code (bodyOf Try.f3)] (start Try.f3.ntmps ([segsF l, F.agg [F.int .i64 lx, F.int .i64 ly], F.agg [F.int .i64 hx, F.int .i64 hy]].map .f)) (F.bool r) := by
  refine Ends.of_run tyOK envX1_ok (T := []) (n := 200) ?_
  have e : run Try.prog (tiOf Try.prog) envX1 [] 0 Try.f3.results.toList some 200 [.code (bodyOf Try.f3)] (start Try.f3.ntmps ([segsF l, F.agg [F.int .i64 lx, F.int .i64 ly], F.agg [F.int .i64 hx, F.int .i64 hy]].map .f)) = T3 (fun r => some (.ret (F.bool r))) l lx ly hx hy := by kernel_rfl
  rw [e]
  exact (good_sel h (fun _ h => (good_sel h (fun _ h => good_ret (by cases h; rfl)) (fun _ h => (good_sel h (fun _ h => (good_sel h (fun _ h => (good_sel h (fun _ h => (good_sel h (fun _ h => (good_sel h (fun _ h => (good_sel h (fun _ h => (good_sel h (fun _ h => (good_sel h (fun _ h => (good_sel h (fun _ h => (good_sel h (fun _ h => (good_sel h (fun _ h => (good_sel h (fun _ h => (good_sel h (fun _ h => (good_sel h (fun _ h => (good_sel h (fun _ h => (good_sel h (fun _ h => (good_sel h (fun _ h => good_ret (by cases h; rfl)) (fun _ h => (good_sel h (fun _ h => (good_sel h (fun _ h => (good_sel h (fun _ h => (good_sel h (fun _ h => (good_sel h (fun _ h => (good_sel h (fun _ h => (good_sel h (fun _ h => (good_sel h (fun _ h => (good_sel h (fun _ h => (good_sel h (fun _ h => (good_sel h (fun _ h => (good_sel h (fun _ h => good_ret (by cases h; rfl)) (fun _ h => (good_sel h (fun _ h => good_ret (by cases h; rfl)) (fun _ h => (good_sel h (fun _ h => (good_sel h (fun _ h => (good_sel h (fun _ h => (good_sel h (fun _ h => (good_sel h (fun _ h => (good_sel h (fun _ h => (good_sel h (fun _ h => (good_sel h (fun _ h => (good_sel h (fun _ h => (good_sel h (fun _ h => (good_sel h (fun _ h => good_ret (by cases h; rfl)) (fun _ h => (good_sel h (fun _ h => good_ret (by cases h; rfl)) (fun _ h => good_ret (by cases h; rfl)))))) (fun _ h => nomatch h))) (fun _ h => nomatch h))) (fun _ h => good_ret (by cases h; rfl)))) (fun _ h => nomatch h))) (fun _ h => nomatch h))) (fun _ h => nomatch h))) (fun _ h => (good_sel h (fun _ h => (good_sel h (fun _ h => (good_sel h (fun _ h => good_ret (by cases h; rfl)) (fun _ h => good_ret (by cases h; rfl)))) (fun _ h => nomatch h))) (fun _ h => nomatch h))))) (fun _ h => nomatch h))) (fun _ h => nomatch h))) (fun _ h => nomatch h))))))) (fun _ h => nomatch h))) (fun _ h => nomatch h))) (fun _ h => nomatch h))) (fun _ h => nomatch h))) (fun _ h => good_ret (by cases h; rfl)))) (fun _ h => nomatch h))) (fun _ h => nomatch h))) (fun _ h => nomatch h))) (fun _ h => good_ret (by cases h; rfl)))) (fun _ h => nomatch h))) (fun _ h => nomatch h))))) (fun _ h => nomatch h))) (fun _ h => nomatch h))) (fun _ h => nomatch h))) (fun _ h => nomatch h))) (fun _ h => good_ret (by cases h; rfl)))) (fun _ h => nomatch h))) (fun _ h => nomatch h))) (fun _ h => nomatch h))) (fun _ h => (good_sel h (fun _ h => (good_sel h (fun _ h => (good_sel h (fun _ h => good_ret (by cases h; rfl)) (fun _ h => good_ret (by cases h; rfl)))) (fun _ h => nomatch h))) (fun _ h => nomatch h))))) (fun _ h => nomatch h))) (fun _ h => nomatch h))) (fun _ h => nomatch h))) (fun _ h => (good_sel h (fun _ h => (good_sel h (fun _ h => (good_sel h (fun _ h => (good_sel h (fun _ h => (good_sel h (fun _ h => (good_sel h (fun _ h => (good_sel h (fun _ h => good_ret (by cases h; rfl)) (fun _ h => good_ret (by cases h; rfl)))) (fun _ h => nomatch h))) (fun _ h => nomatch h))) (fun _ h => (good_sel h (fun _ h => (good_sel h (fun _ h => (good_sel h (fun _ h => (good_sel h (fun _ h => (good_sel h (fun _ h => good_ret (by cases h; rfl)) (fun _ h => (good_sel h (fun _ h => (good_sel h (fun _ h => (good_sel h (fun _ h => (good_sel h (fun _ h => (good_sel h (fun _ h => (good_sel h (fun _ h => (good_sel h (fun _ h => (good_sel h (fun _ h => (good_sel h (fun _ h => (good_sel h (fun _ h => good_ret (by cases h; rfl)) (fun _ h => good_ret (by cases h; rfl)))) (fun _ h => nomatch h))) (fun _ h => nomatch h))) (fun _ h => good_ret (by cases h; rfl)))) (fun _ h => nomatch h))) (fun _ h => nomatch h))) (fun _ h => nomatch h))) (fun _ h => good_ret (by cases h; rfl)))) (fun _ h => nomatch h))) (fun _ h => nomatch h))))) (fun _ h => nomatch h))) (fun _ h => nomatch h))) (fun _ h => nomatch h))) (fun _ h => nomatch h))))) (fun _ h => nomatch h))) (fun _ h => nomatch h))) (fun _ h => nomatch h))))) (fun _ h => nomatch h))) (fun _ h => nomatch h))) (fun _ h => nomatch h))))) (fun _ h => nomatch h))
theorem leftS_val {n : Nat} {k : Int} (hk : 0 ≤ k ∧ k ≤ 1048576) (hn : n ≤ 9223372036854775807) (h : ¬ leftV n k < 0) : (n : Int) ≤ k := by
  unfold leftV at h
  rw [wrapi (x := k - n) (by omega) (by omega)] at h
  by_cases hc : k - (n : Int) < 0
  · rw [decide_eq_true hc] at h; simp at h
  · omega
theorem hits_len (l : List Sg) (lx ly hx hy : Int) : (windowV l lx ly hx hy).length ≤ l.length := by
  unfold windowV
  cases (segsOkV l && boxOkV lx ly hx hy) with
  | false => simp
  | true =>
    simp only [cond_true]
    unfold hitsFrom
    rw [List.length_map]
    refine Nat.le_trans (List.length_filter_le _ _) ?_
    simp
theorem held_marks : ∀ (n i : Nat), n + i ≤ 1048576 → heldV ((List.range' i n).map fun j : Nat => 1 + (j : Int)) (1 + i) = 1 + (n : Int) + i
  | 0, i, h => by simp [heldV]
  | n + 1, i, h => by
    rw [List.range'_succ, List.map_cons, heldV]
    have h1 : ((1 + (i : Int)) != 1 + (i : Int)) = false := by simp
    have hw : IntKind.i64.wrap (1 + (i : Int) + 1) = 1 + ((i + 1 : Nat) : Int) := by rw [wrapi (by omega) (by omega)]; omega
    rw [h1, cond_false, hw, held_marks n (i + 1) (by omega)]
    omega
theorem marks_held (n : Nat) (h : n ≤ 1048576) : heldV (unInts (.sl n fun j => .int .i64 (1 + (j : Int)))) 1 = 1 + (n : Int) := by
  have := held_marks n 0 (by omega)
  have e : unInts (.sl n fun j => .int .i64 (1 + (j : Int))) = (List.range' 0 n).map fun j : Nat => 1 + (j : Int) := by
    rw [← List.range_eq_range']; rfl
  rw [e]
  simpa using this
theorem marks_ints (n : Nat) : isInts (.sl n fun j => .int .i64 (1 + (j : Int))) = true := by
  simp only [isInts, isSl, List.all_eq_true, List.mem_range]
  intro i _
  rfl
theorem marks_short (n : Nat) (h : n ≤ 1048576) : shortV (unInts (.sl n fun j => .int .i64 (1 + (j : Int)))) = true := by
  unfold shortV
  rw [unInts, unSl_len]
  exact decide_eq_true h
theorem sameV_refl (l : List Int) : sameV l l = true := by simp [sameV]
theorem windowSegs_law (l : List Sg) (lx ly hx hy : Int) (hb : l.length ≤ 9223372036854775807) : G3 l lx ly hx hy = some true := by
  unfold G3 T3
  have off : ∀ g : Nat → F, offF 0 g = g := fun _ => rfl
  have e1 : ∀ l : List Sg, (F.sl l.length fun i => sgF (l.getD i Sg.zero)) = segsF l := fun _ => rfl
  have e2 : ∀ l : List Sg, (F.sl l.length fun i => F.agg [F.int IntKind.i64 (l.getD i Sg.zero).x0, F.int IntKind.i64 (l.getD i Sg.zero).y0, F.int IntKind.i64 (l.getD i Sg.zero).x1, F.int IntKind.i64 (l.getD i Sg.zero).y1]) = segsF l := fun _ => rfl
  have e3 : ∀ l : List Int, (F.sl l.length fun i => F.int IntKind.i64 (l.getD i 0)) = intsF l := fun _ => rfl
  have e4 : isInts (F.sl 0 fun _ => F.bool false) = true := rfl
  have e5 : unInts (F.sl 0 fun _ => F.bool false) = [] := rfl
  simp only [isSegs_segsF, unSegs_segsF, bsel_true, off]
  by_cases hs : leftV l.length 1048576 < 0
  · rw [decide_eq_true hs]; rfl
  · have hlen := leftS_val ⟨by omega, by omega⟩ hb hs
    rw [decide_eq_false hs]
    have c1 : shortSegsV l = true := decide_eq_true (by omega)
    have c2 : decide (l.length ≤ 1048576) = true := decide_eq_true (by omega)
    have c3 : decide (1 + 4 * (l.length : Int) < 0) = false := decide_eq_false (by omega)
    have hwl := hits_len l lx ly hx hy
    cases hW : windowOkV l lx ly hx hy with
    | false =>
      have h0 : windowV l lx ly hx hy = [] := by
        unfold windowOkV at hW
        unfold windowV
        rw [hW]; rfl
      simp only [e1, e2, e3, e4, e5, hW, h0, c1, c2, c3, isSegs_segsF, unSegs_segsF, bsel_true, bsel_false, sameSegs_refl, sameV_refl, decide_true, Bool.and_self, Bool.and_true, Bool.not_true, Bool.not_false, beq_self_eq_true, isInts_intsF, unInts_intsF]
      try rfl
    | true =>
      have c4 : shortV (windowV l lx ly hx hy) = true := decide_eq_true (by omega)
      have c5 : decide ((windowV l lx ly hx hy).length ≤ 1048576) = true := decide_eq_true (by omega)
      have c6 := marks_held (windowV l lx ly hx hy).length (by omega)
      have c7 := marks_short (windowV l lx ly hx hy).length (by omega)
      have c8 : decide (1 + ((windowV l lx ly hx hy).length : Int) < 0) = false := decide_eq_false (by omega)
      simp only [e1, e2, e3, e4, e5, hW, c1, c2, c3, c4, c5, c6, c7, c8, marks_ints, isSegs_segsF, unSegs_segsF, bsel_true, bsel_false, sameSegs_refl, sameV_refl, decide_true, Bool.and_self, Bool.and_true, Bool.true_and, Bool.not_true, Bool.not_false, beq_self_eq_true, bne_self_eq_false, isInts_intsF, unInts_intsF]
      try rfl
def boundSg (l : List Sg) : Bool := decide (l.length ≤ maxLen)
def preLawW : List F → Bool | [x, .agg [.int .i64 _, .int .i64 _], .agg [.int .i64 _, .int .i64 _]] => isSegs x && boundSg (unSegs x) | _ => false
theorem okFnWindowSegs : PureOK Try.prog 3 preLawW (fun _ => .bool true) :=
  fn_pure_at (c := bodyOf Try.f3) Try.func3 (by kernel_rfl) (by kernel_rfl) fun xs hp => match xs, hp with
  | [x, .agg [.int .i64 a, .int .i64 b], .agg [.int .i64 c, .int .i64 d]], hp => by
    simp only [preLawW, Bool.and_eq_true] at hp
    have hm : maxLen = 9223372036854775807 := by decide
    have h2 : (unSegs x).length ≤ maxLen := of_decide_eq_true hp.2
    exact ⟨[segsF (unSegs x), _, _], _, ⟨(segs_eqv hp.1).1, .refl _, .refl _, trivial⟩, t3 _ _ _ _ _ _ (windowSegs_law _ a b c d (by omega)), .refl _⟩

/-! The law's arguments, read. -/
def isSpot : F → Bool | .agg [.int .i64 _, .int .i64 _] => true | _ => false
def preSegsArg (x : F) : Bool := isSegs x && boundSg (unSegs x)
theorem preLawW_of {x0 x1 x2 : F} (h0 : preSegsArg x0 = true) (h1 : isSpot x1 = true) (h2 : isSpot x2 = true) : preLawW [x0, x1, x2] = true := by
  unfold isSpot at h1 h2
  split at h1
  · split at h2
    · exact h0
    · cases h2
  · cases h1
def shSg : List Sh := [.int .i64, .int .i64, .int .i64, .int .i64]
theorem fit_segs {x : F} (h : fitC (.sl true shSg) x = true) : preSegsArg x = true := by
  obtain ⟨n, g, rfl, h1, h2⟩ := fit_sl h
  unfold preSegsArg
  rw [Bool.and_eq_true]
  refine ⟨?_, decide_eq_true (by rw [unSegs, unSl_len]; exact h1)⟩
  simp only [isSegs, isSl, List.all_eq_true, List.mem_range]
  intro i hi
  obtain ⟨h3, h4⟩ := h2 i hi
  rw [agg_cells h4]
  obtain ⟨x1, r1, e, h5, h3⟩ := fit_cons h3
  obtain ⟨x2, r2, rfl, h6, h3⟩ := fit_cons h3
  obtain ⟨x3, r3, rfl, h7, h3⟩ := fit_cons h3
  obtain ⟨x4, r4, rfl, h8, h3⟩ := fit_cons h3
  obtain rfl := fit_nil h3
  obtain ⟨_, rfl⟩ := fit_int h5
  obtain ⟨_, rfl⟩ := fit_int h6
  obtain ⟨_, rfl⟩ := fit_int h7
  obtain ⟨_, rfl⟩ := fit_int h8
  rw [e]; rfl
theorem fit_spot {fs : List F} (h : fitL [.int .i64, .int .i64] fs = true) : isSpot (.agg fs) = true := by
  obtain ⟨x1, r1, rfl, h5, h3⟩ := fit_cons h
  obtain ⟨x2, r2, rfl, h6, h3⟩ := fit_cons h3
  obtain rfl := fit_nil h3
  obtain ⟨_, rfl⟩ := fit_int h5
  obtain ⟨_, rfl⟩ := fit_int h6
  rfl
theorem open_segs {H : Type} {enc : TypeId × Value → H} {W : World} {base : Nat} {v : Value} {d : DataW H} {ps : List MemPlace} (hval : Value.okWide Try.prog W .any base 22 v) (h : DataW.Trod enc Try.prog W 0 (fun _ => true) true 22 v d ps) :
    ∃ x, preSegsArg x = true ∧ RepF W (fun b => b < W.heap.size) x v := by
  obtain ⟨x, h1, h2⟩ := open_sliceF (k := 6) (s := .sl true shSg) Try.underlying22 (by kernel_rfl) hval h
  exact ⟨x, fit_segs h1, h2⟩
theorem open_spot {H : Type} {enc : TypeId × Value → H} {W : World} {base : Nat} {v : Value} {d : DataW H} {ps : List MemPlace} (hval : Value.okWide Try.prog W .any base 24 v) (h : DataW.Trod enc Try.prog W 0 (fun _ => true) true 24 v d ps) :
    ∃ x, isSpot x = true ∧ RepF W (fun b => b < W.heap.size) x v := by
  obtain ⟨fs, h1, h2⟩ := open_structF (k := 6) (l := [.int .i64, .int .i64]) Try.underlying24 (by kernel_rfl) hval h
  exact ⟨_, fit_spot h1, h2⟩
end
end Go.Proofs.Ytjbilidfnfnpfaa.R
