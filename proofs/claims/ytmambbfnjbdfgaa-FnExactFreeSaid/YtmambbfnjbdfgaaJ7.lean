/-
  The own walk and what it shows, part 7 of 8.
-/
import Derived.Test.YtmambbfnjbdfgaaJ1
import Derived.Test.YtmambbfnjbdfgaaJ2
import Derived.Test.YtmambbfnjbdfgaaJ3
import Derived.Test.YtmambbfnjbdfgaaJ4
import Derived.Test.YtmambbfnjbdfgaaJ5
import Derived.Test.YtmambbfnjbdfgaaJ6
set_option exponentiation.threshold 30000
namespace Go.Proofs.Ytmambbfnjbdfgaa.R
open Go
noncomputable section
set_option linter.unusedVariables false
set_option linter.unusedSimpArgs false
set_option maxRecDepth 100000
set_option maxHeartbeats 1000000
/-! ### function 54 -/
def T54 {ρ : Type} (ret : (F) → Option ρ) (x0 : Int) (y0 : Int) (x1 : Int) (y1 : Int) (u0 : Int) (v0 : Int) (u1 : Int) (v1 : Int) : Option ρ :=
 (bsel ((turnV x0 y0 x1 y1 u0 v0 == 0) == true)
 (bsel (turnV x0 y0 x1 y1 u1 v1 == 0)
 (bsel (lessV x0 y0 u0 v0)
 (bsel (lessV u1 v1 x1 y1)
 (bsel (lessV u1 v1 u0 v0)
 (ret (F.tup [F.int .i64 0, F.agg [F.bool false, F.sl 0 fun x ↦ F.bool false, F.bool false, F.sl 0 fun x ↦ F.bool false, F.bool false, F.sl 0 fun x ↦ F.bool false], F.agg [F.bool false, F.sl 0 fun x ↦ F.bool false, F.bool false, F.sl 0 fun x ↦ F.bool false, F.bool false, F.sl 0 fun x ↦ F.bool false]]))
 (bsel (u0 == u1 && (v0 == v1 && true))
 (bsel (isI64 u0 && isI64 v0)
 (ret (F.tup [F.int .i64 1, l3pF u0 v0 1, F.agg [F.bool false, F.sl 0 fun x ↦ F.bool false, F.bool false, F.sl 0 fun x ↦ F.bool false, F.bool false, F.sl 0 fun x ↦ F.bool false]]))
 none)
 (bsel (isI64 u0 && isI64 v0)
 (bsel (isI64 u1 && isI64 v1)
 (ret (F.tup [F.int .i64 2, l3pF u0 v0 1, l3pF u1 v1 1]))
 none)
 none)))
 (bsel (lessV x1 y1 u0 v0)
 (ret (F.tup [F.int .i64 0, F.agg [F.bool false, F.sl 0 fun x ↦ F.bool false, F.bool false, F.sl 0 fun x ↦ F.bool false, F.bool false, F.sl 0 fun x ↦ F.bool false], F.agg [F.bool false, F.sl 0 fun x ↦ F.bool false, F.bool false, F.sl 0 fun x ↦ F.bool false, F.bool false, F.sl 0 fun x ↦ F.bool false]]))
 (bsel (u0 == x1 && (v0 == y1 && true))
 (bsel (isI64 u0 && isI64 v0)
 (ret (F.tup [F.int .i64 1, l3pF u0 v0 1, F.agg [F.bool false, F.sl 0 fun x ↦ F.bool false, F.bool false, F.sl 0 fun x ↦ F.bool false, F.bool false, F.sl 0 fun x ↦ F.bool false]]))
 none)
 (bsel (isI64 u0 && isI64 v0)
 (bsel (isI64 x1 && isI64 y1)
 (ret (F.tup [F.int .i64 2, l3pF u0 v0 1, l3pF x1 y1 1]))
 none)
 none))))
 (bsel (lessV u1 v1 x1 y1)
 (bsel (lessV u1 v1 x0 y0)
 (ret (F.tup [F.int .i64 0, F.agg [F.bool false, F.sl 0 fun x ↦ F.bool false, F.bool false, F.sl 0 fun x ↦ F.bool false, F.bool false, F.sl 0 fun x ↦ F.bool false], F.agg [F.bool false, F.sl 0 fun x ↦ F.bool false, F.bool false, F.sl 0 fun x ↦ F.bool false, F.bool false, F.sl 0 fun x ↦ F.bool false]]))
 (bsel (x0 == u1 && (y0 == v1 && true))
 (bsel (isI64 x0 && isI64 y0)
 (ret (F.tup [F.int .i64 1, l3pF x0 y0 1, F.agg [F.bool false, F.sl 0 fun x ↦ F.bool false, F.bool false, F.sl 0 fun x ↦ F.bool false, F.bool false, F.sl 0 fun x ↦ F.bool false]]))
 none)
 (bsel (isI64 x0 && isI64 y0)
 (bsel (isI64 u1 && isI64 v1)
 (ret (F.tup [F.int .i64 2, l3pF x0 y0 1, l3pF u1 v1 1]))
 none)
 none)))
 (bsel (lessV x1 y1 x0 y0)
 (ret (F.tup [F.int .i64 0, F.agg [F.bool false, F.sl 0 fun x ↦ F.bool false, F.bool false, F.sl 0 fun x ↦ F.bool false, F.bool false, F.sl 0 fun x ↦ F.bool false], F.agg [F.bool false, F.sl 0 fun x ↦ F.bool false, F.bool false, F.sl 0 fun x ↦ F.bool false, F.bool false, F.sl 0 fun x ↦ F.bool false]]))
 (bsel (x0 == x1 && (y0 == y1 && true))
 (bsel (isI64 x0 && isI64 y0)
 (ret (F.tup [F.int .i64 1, l3pF x0 y0 1, F.agg [F.bool false, F.sl 0 fun x ↦ F.bool false, F.bool false, F.sl 0 fun x ↦ F.bool false, F.bool false, F.sl 0 fun x ↦ F.bool false]]))
 none)
 (bsel (isI64 x0 && isI64 y0)
 (bsel (isI64 x1 && isI64 y1)
 (ret (F.tup [F.int .i64 2, l3pF x0 y0 1, l3pF x1 y1 1]))
 none)
 none)))))
 (bsel (decide (IntKind.i64.wrap (turnV x0 y0 x1 y1 u0 v0 * turnV x0 y0 x1 y1 u1 v1) > 0) == false)
 (bsel (decide (IntKind.i64.wrap (turnV u0 v0 u1 v1 x0 y0 * turnV u0 v0 u1 v1 x1 y1) > 0))
 (ret (F.tup [F.int .i64 0, F.agg [F.bool false, F.sl 0 fun x ↦ F.bool false, F.bool false, F.sl 0 fun x ↦ F.bool false, F.bool false, F.sl 0 fun x ↦ F.bool false], F.agg [F.bool false, F.sl 0 fun x ↦ F.bool false, F.bool false, F.sl 0 fun x ↦ F.bool false, F.bool false, F.sl 0 fun x ↦ F.bool false]]))
 (bsel (isI64 (IntKind.i64.wrap (IntKind.i64.wrap (IntKind.i64.wrap (x1 - x0) * IntKind.i64.wrap (v1 - v0)) - IntKind.i64.wrap (IntKind.i64.wrap (y1 - y0) * IntKind.i64.wrap (u1 - u0)))))
 (bsel (isI64 (IntKind.i64.wrap (IntKind.i64.wrap (IntKind.i64.wrap (u0 - x0) * IntKind.i64.wrap (v1 - v0)) - IntKind.i64.wrap (IntKind.i64.wrap (v0 - y0) * IntKind.i64.wrap (u1 - u0)))))
 (bsel (isI64 x0)
 (bsel (isL1n 900 (resInt3 [F.int .i64 x0]) && isL1n 900 (l1nF (IntKind.i64.wrap (IntKind.i64.wrap (IntKind.i64.wrap (x1 - x0) * IntKind.i64.wrap (v1 - v0)) - IntKind.i64.wrap (IntKind.i64.wrap (y1 - y0) * IntKind.i64.wrap (u1 - u0))))))
 (bsel (isI64 (IntKind.i64.wrap (x1 - x0)))
 (bsel (isL1n 900 (resInt3 [F.int .i64 (IntKind.i64.wrap (x1 - x0))]) && isL1n 900 (l1nF (IntKind.i64.wrap (IntKind.i64.wrap (IntKind.i64.wrap (u0 - x0) * IntKind.i64.wrap (v1 - v0)) - IntKind.i64.wrap (IntKind.i64.wrap (v0 - y0) * IntKind.i64.wrap (u1 - u0))))))
 (bsel (isL1n 800 (resMulZ [resInt3 [F.int .i64 x0], l1nF (IntKind.i64.wrap (IntKind.i64.wrap (IntKind.i64.wrap (x1 - x0) * IntKind.i64.wrap (v1 - v0)) - IntKind.i64.wrap (IntKind.i64.wrap (y1 - y0) * IntKind.i64.wrap (u1 - u0))))]) && isL1n 800 (resMulZ [resInt3 [F.int .i64 (IntKind.i64.wrap (x1 - x0))], l1nF (IntKind.i64.wrap (IntKind.i64.wrap (IntKind.i64.wrap (u0 - x0) * IntKind.i64.wrap (v1 - v0)) - IntKind.i64.wrap (IntKind.i64.wrap (v0 - y0) * IntKind.i64.wrap (u1 - u0))))]))
 (bsel (isI64 y0)
 (bsel (isL1n 900 (resInt3 [F.int .i64 y0]) && isL1n 900 (l1nF (IntKind.i64.wrap (IntKind.i64.wrap (IntKind.i64.wrap (x1 - x0) * IntKind.i64.wrap (v1 - v0)) - IntKind.i64.wrap (IntKind.i64.wrap (y1 - y0) * IntKind.i64.wrap (u1 - u0))))))
 (bsel (isI64 (IntKind.i64.wrap (y1 - y0)))
 (bsel (isL1n 900 (resInt3 [F.int .i64 (IntKind.i64.wrap (y1 - y0))]) && isL1n 900 (l1nF (IntKind.i64.wrap (IntKind.i64.wrap (IntKind.i64.wrap (u0 - x0) * IntKind.i64.wrap (v1 - v0)) - IntKind.i64.wrap (IntKind.i64.wrap (v0 - y0) * IntKind.i64.wrap (u1 - u0))))))
 (bsel (isL1n 800 (resMulZ [resInt3 [F.int .i64 y0], l1nF (IntKind.i64.wrap (IntKind.i64.wrap (IntKind.i64.wrap (x1 - x0) * IntKind.i64.wrap (v1 - v0)) - IntKind.i64.wrap (IntKind.i64.wrap (y1 - y0) * IntKind.i64.wrap (u1 - u0))))]) && isL1n 800 (resMulZ [resInt3 [F.int .i64 (IntKind.i64.wrap (y1 - y0))], l1nF (IntKind.i64.wrap (IntKind.i64.wrap (IntKind.i64.wrap (u0 - x0) * IntKind.i64.wrap (v1 - v0)) - IntKind.i64.wrap (IntKind.i64.wrap (v0 - y0) * IntKind.i64.wrap (u1 - u0))))]))
 (bsel (isL1n 600 (l1nF (unL1n (resMulZ [resInt3 [F.int .i64 x0], l1nF (IntKind.i64.wrap (IntKind.i64.wrap (IntKind.i64.wrap (x1 - x0) * IntKind.i64.wrap (v1 - v0)) - IntKind.i64.wrap (IntKind.i64.wrap (y1 - y0) * IntKind.i64.wrap (u1 - u0))))]) + unL1n (resMulZ [resInt3 [F.int .i64 (IntKind.i64.wrap (x1 - x0))], l1nF (IntKind.i64.wrap (IntKind.i64.wrap (IntKind.i64.wrap (u0 - x0) * IntKind.i64.wrap (v1 - v0)) - IntKind.i64.wrap (IntKind.i64.wrap (v0 - y0) * IntKind.i64.wrap (u1 - u0))))]))) && isL1n 600 (l1nF (unL1n (resMulZ [resInt3 [F.int .i64 y0], l1nF (IntKind.i64.wrap (IntKind.i64.wrap (IntKind.i64.wrap (x1 - x0) * IntKind.i64.wrap (v1 - v0)) - IntKind.i64.wrap (IntKind.i64.wrap (y1 - y0) * IntKind.i64.wrap (u1 - u0))))]) + unL1n (resMulZ [resInt3 [F.int .i64 (IntKind.i64.wrap (y1 - y0))], l1nF (IntKind.i64.wrap (IntKind.i64.wrap (IntKind.i64.wrap (u0 - x0) * IntKind.i64.wrap (v1 - v0)) - IntKind.i64.wrap (IntKind.i64.wrap (v0 - y0) * IntKind.i64.wrap (u1 - u0))))]))) && isL1n 600 (l1nF (IntKind.i64.wrap (IntKind.i64.wrap (IntKind.i64.wrap (x1 - x0) * IntKind.i64.wrap (v1 - v0)) - IntKind.i64.wrap (IntKind.i64.wrap (y1 - y0) * IntKind.i64.wrap (u1 - u0))))) && isNon0 (unL1n (l1nF (IntKind.i64.wrap (IntKind.i64.wrap (IntKind.i64.wrap (x1 - x0) * IntKind.i64.wrap (v1 - v0)) - IntKind.i64.wrap (IntKind.i64.wrap (y1 - y0) * IntKind.i64.wrap (u1 - u0)))))))
 (ret (F.tup [F.int .i64 1, l3pF (mkXV (unL1n (l1nF (unL1n (resMulZ [resInt3 [F.int .i64 x0], l1nF (IntKind.i64.wrap (IntKind.i64.wrap (IntKind.i64.wrap (x1 - x0) * IntKind.i64.wrap (v1 - v0)) - IntKind.i64.wrap (IntKind.i64.wrap (y1 - y0) * IntKind.i64.wrap (u1 - u0))))]) + unL1n (resMulZ [resInt3 [F.int .i64 (IntKind.i64.wrap (x1 - x0))], l1nF (IntKind.i64.wrap (IntKind.i64.wrap (IntKind.i64.wrap (u0 - x0) * IntKind.i64.wrap (v1 - v0)) - IntKind.i64.wrap (IntKind.i64.wrap (v0 - y0) * IntKind.i64.wrap (u1 - u0))))])))) (unL1n (l1nF (unL1n (resMulZ [resInt3 [F.int .i64 y0], l1nF (IntKind.i64.wrap (IntKind.i64.wrap (IntKind.i64.wrap (x1 - x0) * IntKind.i64.wrap (v1 - v0)) - IntKind.i64.wrap (IntKind.i64.wrap (y1 - y0) * IntKind.i64.wrap (u1 - u0))))]) + unL1n (resMulZ [resInt3 [F.int .i64 (IntKind.i64.wrap (y1 - y0))], l1nF (IntKind.i64.wrap (IntKind.i64.wrap (IntKind.i64.wrap (u0 - x0) * IntKind.i64.wrap (v1 - v0)) - IntKind.i64.wrap (IntKind.i64.wrap (v0 - y0) * IntKind.i64.wrap (u1 - u0))))])))) (unL1n (l1nF (IntKind.i64.wrap (IntKind.i64.wrap (IntKind.i64.wrap (x1 - x0) * IntKind.i64.wrap (v1 - v0)) - IntKind.i64.wrap (IntKind.i64.wrap (y1 - y0) * IntKind.i64.wrap (u1 - u0))))))) (mkYV (unL1n (l1nF (unL1n (resMulZ [resInt3 [F.int .i64 x0], l1nF (IntKind.i64.wrap (IntKind.i64.wrap (IntKind.i64.wrap (x1 - x0) * IntKind.i64.wrap (v1 - v0)) - IntKind.i64.wrap (IntKind.i64.wrap (y1 - y0) * IntKind.i64.wrap (u1 - u0))))]) + unL1n (resMulZ [resInt3 [F.int .i64 (IntKind.i64.wrap (x1 - x0))], l1nF (IntKind.i64.wrap (IntKind.i64.wrap (IntKind.i64.wrap (u0 - x0) * IntKind.i64.wrap (v1 - v0)) - IntKind.i64.wrap (IntKind.i64.wrap (v0 - y0) * IntKind.i64.wrap (u1 - u0))))])))) (unL1n (l1nF (unL1n (resMulZ [resInt3 [F.int .i64 y0], l1nF (IntKind.i64.wrap (IntKind.i64.wrap (IntKind.i64.wrap (x1 - x0) * IntKind.i64.wrap (v1 - v0)) - IntKind.i64.wrap (IntKind.i64.wrap (y1 - y0) * IntKind.i64.wrap (u1 - u0))))]) + unL1n (resMulZ [resInt3 [F.int .i64 (IntKind.i64.wrap (y1 - y0))], l1nF (IntKind.i64.wrap (IntKind.i64.wrap (IntKind.i64.wrap (u0 - x0) * IntKind.i64.wrap (v1 - v0)) - IntKind.i64.wrap (IntKind.i64.wrap (v0 - y0) * IntKind.i64.wrap (u1 - u0))))])))) (unL1n (l1nF (IntKind.i64.wrap (IntKind.i64.wrap (IntKind.i64.wrap (x1 - x0) * IntKind.i64.wrap (v1 - v0)) - IntKind.i64.wrap (IntKind.i64.wrap (y1 - y0) * IntKind.i64.wrap (u1 - u0))))))) (mkWV (unL1n (l1nF (unL1n (resMulZ [resInt3 [F.int .i64 x0], l1nF (IntKind.i64.wrap (IntKind.i64.wrap (IntKind.i64.wrap (x1 - x0) * IntKind.i64.wrap (v1 - v0)) - IntKind.i64.wrap (IntKind.i64.wrap (y1 - y0) * IntKind.i64.wrap (u1 - u0))))]) + unL1n (resMulZ [resInt3 [F.int .i64 (IntKind.i64.wrap (x1 - x0))], l1nF (IntKind.i64.wrap (IntKind.i64.wrap (IntKind.i64.wrap (u0 - x0) * IntKind.i64.wrap (v1 - v0)) - IntKind.i64.wrap (IntKind.i64.wrap (v0 - y0) * IntKind.i64.wrap (u1 - u0))))])))) (unL1n (l1nF (unL1n (resMulZ [resInt3 [F.int .i64 y0], l1nF (IntKind.i64.wrap (IntKind.i64.wrap (IntKind.i64.wrap (x1 - x0) * IntKind.i64.wrap (v1 - v0)) - IntKind.i64.wrap (IntKind.i64.wrap (y1 - y0) * IntKind.i64.wrap (u1 - u0))))]) + unL1n (resMulZ [resInt3 [F.int .i64 (IntKind.i64.wrap (y1 - y0))], l1nF (IntKind.i64.wrap (IntKind.i64.wrap (IntKind.i64.wrap (u0 - x0) * IntKind.i64.wrap (v1 - v0)) - IntKind.i64.wrap (IntKind.i64.wrap (v0 - y0) * IntKind.i64.wrap (u1 - u0))))])))) (unL1n (l1nF (IntKind.i64.wrap (IntKind.i64.wrap (IntKind.i64.wrap (x1 - x0) * IntKind.i64.wrap (v1 - v0)) - IntKind.i64.wrap (IntKind.i64.wrap (y1 - y0) * IntKind.i64.wrap (u1 - u0))))))), F.agg [F.bool false, F.sl 0 fun x ↦ F.bool false, F.bool false, F.sl 0 fun x ↦ F.bool false, F.bool false, F.sl 0 fun x ↦ F.bool false]]))
 none)
 none)
 none)
 none)
 none)
 none)
 none)
 none)
 none)
 none)
 none)
 none)
 none))
 (ret (F.tup [F.int .i64 0, F.agg [F.bool false, F.sl 0 fun x ↦ F.bool false, F.bool false, F.sl 0 fun x ↦ F.bool false, F.bool false, F.sl 0 fun x ↦ F.bool false], F.agg [F.bool false, F.sl 0 fun x ↦ F.bool false, F.bool false, F.sl 0 fun x ↦ F.bool false, F.bool false, F.sl 0 fun x ↦ F.bool false]]))))
 (bsel (decide (IntKind.i64.wrap (turnV x0 y0 x1 y1 u0 v0 * turnV x0 y0 x1 y1 u1 v1) > 0) == false)
 (bsel (decide (IntKind.i64.wrap (turnV u0 v0 u1 v1 x0 y0 * turnV u0 v0 u1 v1 x1 y1) > 0))
 (ret (F.tup [F.int .i64 0, F.agg [F.bool false, F.sl 0 fun x ↦ F.bool false, F.bool false, F.sl 0 fun x ↦ F.bool false, F.bool false, F.sl 0 fun x ↦ F.bool false], F.agg [F.bool false, F.sl 0 fun x ↦ F.bool false, F.bool false, F.sl 0 fun x ↦ F.bool false, F.bool false, F.sl 0 fun x ↦ F.bool false]]))
 (bsel (isI64 (IntKind.i64.wrap (IntKind.i64.wrap (IntKind.i64.wrap (x1 - x0) * IntKind.i64.wrap (v1 - v0)) - IntKind.i64.wrap (IntKind.i64.wrap (y1 - y0) * IntKind.i64.wrap (u1 - u0)))))
 (bsel (isI64 (IntKind.i64.wrap (IntKind.i64.wrap (IntKind.i64.wrap (u0 - x0) * IntKind.i64.wrap (v1 - v0)) - IntKind.i64.wrap (IntKind.i64.wrap (v0 - y0) * IntKind.i64.wrap (u1 - u0)))))
 (bsel (isI64 x0)
 (bsel (isL1n 900 (resInt3 [F.int .i64 x0]) && isL1n 900 (l1nF (IntKind.i64.wrap (IntKind.i64.wrap (IntKind.i64.wrap (x1 - x0) * IntKind.i64.wrap (v1 - v0)) - IntKind.i64.wrap (IntKind.i64.wrap (y1 - y0) * IntKind.i64.wrap (u1 - u0))))))
 (bsel (isI64 (IntKind.i64.wrap (x1 - x0)))
 (bsel (isL1n 900 (resInt3 [F.int .i64 (IntKind.i64.wrap (x1 - x0))]) && isL1n 900 (l1nF (IntKind.i64.wrap (IntKind.i64.wrap (IntKind.i64.wrap (u0 - x0) * IntKind.i64.wrap (v1 - v0)) - IntKind.i64.wrap (IntKind.i64.wrap (v0 - y0) * IntKind.i64.wrap (u1 - u0))))))
 (bsel (isL1n 800 (resMulZ [resInt3 [F.int .i64 x0], l1nF (IntKind.i64.wrap (IntKind.i64.wrap (IntKind.i64.wrap (x1 - x0) * IntKind.i64.wrap (v1 - v0)) - IntKind.i64.wrap (IntKind.i64.wrap (y1 - y0) * IntKind.i64.wrap (u1 - u0))))]) && isL1n 800 (resMulZ [resInt3 [F.int .i64 (IntKind.i64.wrap (x1 - x0))], l1nF (IntKind.i64.wrap (IntKind.i64.wrap (IntKind.i64.wrap (u0 - x0) * IntKind.i64.wrap (v1 - v0)) - IntKind.i64.wrap (IntKind.i64.wrap (v0 - y0) * IntKind.i64.wrap (u1 - u0))))]))
 (bsel (isI64 y0)
 (bsel (isL1n 900 (resInt3 [F.int .i64 y0]) && isL1n 900 (l1nF (IntKind.i64.wrap (IntKind.i64.wrap (IntKind.i64.wrap (x1 - x0) * IntKind.i64.wrap (v1 - v0)) - IntKind.i64.wrap (IntKind.i64.wrap (y1 - y0) * IntKind.i64.wrap (u1 - u0))))))
 (bsel (isI64 (IntKind.i64.wrap (y1 - y0)))
 (bsel (isL1n 900 (resInt3 [F.int .i64 (IntKind.i64.wrap (y1 - y0))]) && isL1n 900 (l1nF (IntKind.i64.wrap (IntKind.i64.wrap (IntKind.i64.wrap (u0 - x0) * IntKind.i64.wrap (v1 - v0)) - IntKind.i64.wrap (IntKind.i64.wrap (v0 - y0) * IntKind.i64.wrap (u1 - u0))))))
 (bsel (isL1n 800 (resMulZ [resInt3 [F.int .i64 y0], l1nF (IntKind.i64.wrap (IntKind.i64.wrap (IntKind.i64.wrap (x1 - x0) * IntKind.i64.wrap (v1 - v0)) - IntKind.i64.wrap (IntKind.i64.wrap (y1 - y0) * IntKind.i64.wrap (u1 - u0))))]) && isL1n 800 (resMulZ [resInt3 [F.int .i64 (IntKind.i64.wrap (y1 - y0))], l1nF (IntKind.i64.wrap (IntKind.i64.wrap (IntKind.i64.wrap (u0 - x0) * IntKind.i64.wrap (v1 - v0)) - IntKind.i64.wrap (IntKind.i64.wrap (v0 - y0) * IntKind.i64.wrap (u1 - u0))))]))
 (bsel (isL1n 600 (l1nF (unL1n (resMulZ [resInt3 [F.int .i64 x0], l1nF (IntKind.i64.wrap (IntKind.i64.wrap (IntKind.i64.wrap (x1 - x0) * IntKind.i64.wrap (v1 - v0)) - IntKind.i64.wrap (IntKind.i64.wrap (y1 - y0) * IntKind.i64.wrap (u1 - u0))))]) + unL1n (resMulZ [resInt3 [F.int .i64 (IntKind.i64.wrap (x1 - x0))], l1nF (IntKind.i64.wrap (IntKind.i64.wrap (IntKind.i64.wrap (u0 - x0) * IntKind.i64.wrap (v1 - v0)) - IntKind.i64.wrap (IntKind.i64.wrap (v0 - y0) * IntKind.i64.wrap (u1 - u0))))]))) && isL1n 600 (l1nF (unL1n (resMulZ [resInt3 [F.int .i64 y0], l1nF (IntKind.i64.wrap (IntKind.i64.wrap (IntKind.i64.wrap (x1 - x0) * IntKind.i64.wrap (v1 - v0)) - IntKind.i64.wrap (IntKind.i64.wrap (y1 - y0) * IntKind.i64.wrap (u1 - u0))))]) + unL1n (resMulZ [resInt3 [F.int .i64 (IntKind.i64.wrap (y1 - y0))], l1nF (IntKind.i64.wrap (IntKind.i64.wrap (IntKind.i64.wrap (u0 - x0) * IntKind.i64.wrap (v1 - v0)) - IntKind.i64.wrap (IntKind.i64.wrap (v0 - y0) * IntKind.i64.wrap (u1 - u0))))]))) && isL1n 600 (l1nF (IntKind.i64.wrap (IntKind.i64.wrap (IntKind.i64.wrap (x1 - x0) * IntKind.i64.wrap (v1 - v0)) - IntKind.i64.wrap (IntKind.i64.wrap (y1 - y0) * IntKind.i64.wrap (u1 - u0))))) && isNon0 (unL1n (l1nF (IntKind.i64.wrap (IntKind.i64.wrap (IntKind.i64.wrap (x1 - x0) * IntKind.i64.wrap (v1 - v0)) - IntKind.i64.wrap (IntKind.i64.wrap (y1 - y0) * IntKind.i64.wrap (u1 - u0)))))))
 (ret (F.tup [F.int .i64 1, l3pF (mkXV (unL1n (l1nF (unL1n (resMulZ [resInt3 [F.int .i64 x0], l1nF (IntKind.i64.wrap (IntKind.i64.wrap (IntKind.i64.wrap (x1 - x0) * IntKind.i64.wrap (v1 - v0)) - IntKind.i64.wrap (IntKind.i64.wrap (y1 - y0) * IntKind.i64.wrap (u1 - u0))))]) + unL1n (resMulZ [resInt3 [F.int .i64 (IntKind.i64.wrap (x1 - x0))], l1nF (IntKind.i64.wrap (IntKind.i64.wrap (IntKind.i64.wrap (u0 - x0) * IntKind.i64.wrap (v1 - v0)) - IntKind.i64.wrap (IntKind.i64.wrap (v0 - y0) * IntKind.i64.wrap (u1 - u0))))])))) (unL1n (l1nF (unL1n (resMulZ [resInt3 [F.int .i64 y0], l1nF (IntKind.i64.wrap (IntKind.i64.wrap (IntKind.i64.wrap (x1 - x0) * IntKind.i64.wrap (v1 - v0)) - IntKind.i64.wrap (IntKind.i64.wrap (y1 - y0) * IntKind.i64.wrap (u1 - u0))))]) + unL1n (resMulZ [resInt3 [F.int .i64 (IntKind.i64.wrap (y1 - y0))], l1nF (IntKind.i64.wrap (IntKind.i64.wrap (IntKind.i64.wrap (u0 - x0) * IntKind.i64.wrap (v1 - v0)) - IntKind.i64.wrap (IntKind.i64.wrap (v0 - y0) * IntKind.i64.wrap (u1 - u0))))])))) (unL1n (l1nF (IntKind.i64.wrap (IntKind.i64.wrap (IntKind.i64.wrap (x1 - x0) * IntKind.i64.wrap (v1 - v0)) - IntKind.i64.wrap (IntKind.i64.wrap (y1 - y0) * IntKind.i64.wrap (u1 - u0))))))) (mkYV (unL1n (l1nF (unL1n (resMulZ [resInt3 [F.int .i64 x0], l1nF (IntKind.i64.wrap (IntKind.i64.wrap (IntKind.i64.wrap (x1 - x0) * IntKind.i64.wrap (v1 - v0)) - IntKind.i64.wrap (IntKind.i64.wrap (y1 - y0) * IntKind.i64.wrap (u1 - u0))))]) + unL1n (resMulZ [resInt3 [F.int .i64 (IntKind.i64.wrap (x1 - x0))], l1nF (IntKind.i64.wrap (IntKind.i64.wrap (IntKind.i64.wrap (u0 - x0) * IntKind.i64.wrap (v1 - v0)) - IntKind.i64.wrap (IntKind.i64.wrap (v0 - y0) * IntKind.i64.wrap (u1 - u0))))])))) (unL1n (l1nF (unL1n (resMulZ [resInt3 [F.int .i64 y0], l1nF (IntKind.i64.wrap (IntKind.i64.wrap (IntKind.i64.wrap (x1 - x0) * IntKind.i64.wrap (v1 - v0)) - IntKind.i64.wrap (IntKind.i64.wrap (y1 - y0) * IntKind.i64.wrap (u1 - u0))))]) + unL1n (resMulZ [resInt3 [F.int .i64 (IntKind.i64.wrap (y1 - y0))], l1nF (IntKind.i64.wrap (IntKind.i64.wrap (IntKind.i64.wrap (u0 - x0) * IntKind.i64.wrap (v1 - v0)) - IntKind.i64.wrap (IntKind.i64.wrap (v0 - y0) * IntKind.i64.wrap (u1 - u0))))])))) (unL1n (l1nF (IntKind.i64.wrap (IntKind.i64.wrap (IntKind.i64.wrap (x1 - x0) * IntKind.i64.wrap (v1 - v0)) - IntKind.i64.wrap (IntKind.i64.wrap (y1 - y0) * IntKind.i64.wrap (u1 - u0))))))) (mkWV (unL1n (l1nF (unL1n (resMulZ [resInt3 [F.int .i64 x0], l1nF (IntKind.i64.wrap (IntKind.i64.wrap (IntKind.i64.wrap (x1 - x0) * IntKind.i64.wrap (v1 - v0)) - IntKind.i64.wrap (IntKind.i64.wrap (y1 - y0) * IntKind.i64.wrap (u1 - u0))))]) + unL1n (resMulZ [resInt3 [F.int .i64 (IntKind.i64.wrap (x1 - x0))], l1nF (IntKind.i64.wrap (IntKind.i64.wrap (IntKind.i64.wrap (u0 - x0) * IntKind.i64.wrap (v1 - v0)) - IntKind.i64.wrap (IntKind.i64.wrap (v0 - y0) * IntKind.i64.wrap (u1 - u0))))])))) (unL1n (l1nF (unL1n (resMulZ [resInt3 [F.int .i64 y0], l1nF (IntKind.i64.wrap (IntKind.i64.wrap (IntKind.i64.wrap (x1 - x0) * IntKind.i64.wrap (v1 - v0)) - IntKind.i64.wrap (IntKind.i64.wrap (y1 - y0) * IntKind.i64.wrap (u1 - u0))))]) + unL1n (resMulZ [resInt3 [F.int .i64 (IntKind.i64.wrap (y1 - y0))], l1nF (IntKind.i64.wrap (IntKind.i64.wrap (IntKind.i64.wrap (u0 - x0) * IntKind.i64.wrap (v1 - v0)) - IntKind.i64.wrap (IntKind.i64.wrap (v0 - y0) * IntKind.i64.wrap (u1 - u0))))])))) (unL1n (l1nF (IntKind.i64.wrap (IntKind.i64.wrap (IntKind.i64.wrap (x1 - x0) * IntKind.i64.wrap (v1 - v0)) - IntKind.i64.wrap (IntKind.i64.wrap (y1 - y0) * IntKind.i64.wrap (u1 - u0))))))), F.agg [F.bool false, F.sl 0 fun x ↦ F.bool false, F.bool false, F.sl 0 fun x ↦ F.bool false, F.bool false, F.sl 0 fun x ↦ F.bool false]]))
 none)
 none)
 none)
 none)
 none)
 none)
 none)
 none)
 none)
 none)
 none)
 none)
 none))
 (ret (F.tup [F.int .i64 0, F.agg [F.bool false, F.sl 0 fun x ↦ F.bool false, F.bool false, F.sl 0 fun x ↦ F.bool false, F.bool false, F.sl 0 fun x ↦ F.bool false], F.agg [F.bool false, F.sl 0 fun x ↦ F.bool false, F.bool false, F.sl 0 fun x ↦ F.bool false, F.bool false, F.sl 0 fun x ↦ F.bool false]]))))
def G54 (x0 : Int) (y0 : Int) (x1 : Int) (y1 : Int) (u0 : Int) (v0 : Int) (u1 : Int) (v1 : Int) : Option (F) := T54 some x0 y0 x1 y1 u0 v0 u1 v1
theorem t54 (x0 : Int) (y0 : Int) (x1 : Int) (y1 : Int) (u0 : Int) (v0 : Int) (u1 : Int) (v1 : Int) (r : F) (h : G54 x0 y0 x1 y1 u0 v0 u1 v1 = some r) : Ends Try.prog Try.f54.results.toList [.code (bodyOf Try.f54)] (start Try.f54.ntmps ([F.agg [F.int .i64 x0, F.int .i64 y0, F.int .i64 x1, F.int .i64 y1], F.agg [F.int .i64 u0, F.int .i64 v0, F.int .i64 u1, F.int .i64 v1]].map .f)) (r) := by
  refine Ends.of_run tyOK envH4a_ok (T := []) (n := 200) ?_
  have e : run Try.prog (tiOf Try.prog) envH4a [] 0 Try.f54.results.toList some 200 [.code (bodyOf Try.f54)] (start Try.f54.ntmps ([F.agg [F.int .i64 x0, F.int .i64 y0, F.int .i64 x1, F.int .i64 y1], F.agg [F.int .i64 u0, F.int .i64 v0, F.int .i64 u1, F.int .i64 v1]].map .f)) = T54 (fun r => some (.ret (r))) x0 y0 x1 y1 u0 v0 u1 v1 := by kernel_rfl
  rw [e]
  exact (good_sel h (fun _ h => (good_sel h (fun _ h => (good_sel h (fun _ h => (good_sel h (fun _ h => (good_sel h (fun _ h => good_ret (by cases h; rfl)) (fun _ h => (good_sel h (fun _ h => (good_sel h (fun _ h => good_ret (by cases h; rfl)) (fun _ h => nomatch h))) (fun _ h => (good_sel h (fun _ h => (good_sel h (fun _ h => good_ret (by cases h; rfl)) (fun _ h => nomatch h))) (fun _ h => nomatch h))))))) (fun _ h => (good_sel h (fun _ h => good_ret (by cases h; rfl)) (fun _ h => (good_sel h (fun _ h => (good_sel h (fun _ h => good_ret (by cases h; rfl)) (fun _ h => nomatch h))) (fun _ h => (good_sel h (fun _ h => (good_sel h (fun _ h => good_ret (by cases h; rfl)) (fun _ h => nomatch h))) (fun _ h => nomatch h))))))))) (fun _ h => (good_sel h (fun _ h => (good_sel h (fun _ h => good_ret (by cases h; rfl)) (fun _ h => (good_sel h (fun _ h => (good_sel h (fun _ h => good_ret (by cases h; rfl)) (fun _ h => nomatch h))) (fun _ h => (good_sel h (fun _ h => (good_sel h (fun _ h => good_ret (by cases h; rfl)) (fun _ h => nomatch h))) (fun _ h => nomatch h))))))) (fun _ h => (good_sel h (fun _ h => good_ret (by cases h; rfl)) (fun _ h => (good_sel h (fun _ h => (good_sel h (fun _ h => good_ret (by cases h; rfl)) (fun _ h => nomatch h))) (fun _ h => (good_sel h (fun _ h => (good_sel h (fun _ h => good_ret (by cases h; rfl)) (fun _ h => nomatch h))) (fun _ h => nomatch h))))))))))) (fun _ h => (good_sel h (fun _ h => (good_sel h (fun _ h => good_ret (by cases h; rfl)) (fun _ h => (good_sel h (fun _ h => (good_sel h (fun _ h => (good_sel h (fun _ h => (good_sel h (fun _ h => (good_sel h (fun _ h => (good_sel h (fun _ h => (good_sel h (fun _ h => (good_sel h (fun _ h => (good_sel h (fun _ h => (good_sel h (fun _ h => (good_sel h (fun _ h => (good_sel h (fun _ h => (good_sel h (fun _ h => good_ret (by cases h; rfl)) (fun _ h => nomatch h))) (fun _ h => nomatch h))) (fun _ h => nomatch h))) (fun _ h => nomatch h))) (fun _ h => nomatch h))) (fun _ h => nomatch h))) (fun _ h => nomatch h))) (fun _ h => nomatch h))) (fun _ h => nomatch h))) (fun _ h => nomatch h))) (fun _ h => nomatch h))) (fun _ h => nomatch h))) (fun _ h => nomatch h))))) (fun _ h => good_ret (by cases h; rfl)))))) (fun _ h => (good_sel h (fun _ h => (good_sel h (fun _ h => good_ret (by cases h; rfl)) (fun _ h => (good_sel h (fun _ h => (good_sel h (fun _ h => (good_sel h (fun _ h => (good_sel h (fun _ h => (good_sel h (fun _ h => (good_sel h (fun _ h => (good_sel h (fun _ h => (good_sel h (fun _ h => (good_sel h (fun _ h => (good_sel h (fun _ h => (good_sel h (fun _ h => (good_sel h (fun _ h => (good_sel h (fun _ h => good_ret (by cases h; rfl)) (fun _ h => nomatch h))) (fun _ h => nomatch h))) (fun _ h => nomatch h))) (fun _ h => nomatch h))) (fun _ h => nomatch h))) (fun _ h => nomatch h))) (fun _ h => nomatch h))) (fun _ h => nomatch h))) (fun _ h => nomatch h))) (fun _ h => nomatch h))) (fun _ h => nomatch h))) (fun _ h => nomatch h))) (fun _ h => nomatch h))))) (fun _ h => good_ret (by cases h; rfl)))))
theorem signV_sign (n : Int) : signV n = n.sign := by
  unfold signV
  rcases Int.lt_trichotomy n 0 with h | h | h
  · rw [decide_eq_true h, Int.sign_eq_neg_one_of_neg h]; rfl
  · subst h; rfl
  · rw [decide_eq_false (show ¬ n < 0 by omega), decide_eq_true (show n > 0 by omega), Int.sign_eq_one_of_pos h]; rfl
theorem turnV_eq {x0 y0 x1 y1 u v : Int} (h0 : spotIn x0 y0) (h1 : spotIn x1 y1) (h2 : spotIn u v) : turnV x0 y0 x1 y1 u v = (crossZ x0 y0 x1 y1 u v).sign := by
  unfold turnV
  rw [(crossW_eq h0 h1 h2).1, signV_sign]
theorem sign3 (a : Int) : (a < 0 ∧ a.sign = -1) ∨ (a = 0 ∧ a.sign = 0) ∨ (0 < a ∧ a.sign = 1) := by
  rcases Int.lt_trichotomy a 0 with h | h | h
  · exact .inl ⟨h, Int.sign_eq_neg_one_of_neg h⟩
  · subst h; exact .inr (.inl ⟨rfl, rfl⟩)
  · exact .inr (.inr ⟨h, Int.sign_eq_one_of_pos h⟩)
theorem apart_yes {a b : Int} (h : apart a b) : decide (IntKind.i64.wrap (a.sign * b.sign) > 0) = false := by
  unfold apart at h
  rcases sign3 a with ⟨k, e⟩ | ⟨k, e⟩ | ⟨k, e⟩ <;> rcases sign3 b with ⟨m, f⟩ | ⟨m, f⟩ | ⟨m, f⟩ <;> rw [e, f] <;> first | rfl | (exfalso; omega)
theorem apart_no {a b : Int} (h : ¬ apart a b) : decide (IntKind.i64.wrap (a.sign * b.sign) > 0) = true := by
  unfold apart at h
  rcases sign3 a with ⟨k, e⟩ | ⟨k, e⟩ | ⟨k, e⟩ <;> rcases sign3 b with ⟨m, f⟩ | ⟨m, f⟩ | ⟨m, f⟩ <;> rw [e, f] <;> first | rfl | (exfalso; omega)
theorem lessV_lt {a b c d : Int} : lessV a b c d = true ↔ lexLt a b c d := by
  unfold lessV lexLt
  rw [Bool.or_eq_true, Bool.and_eq_true, decide_eq_true_eq, decide_eq_true_eq, beq_iff_eq]
theorem lessV_no {a b c d : Int} : lessV a b c d = false ↔ lexLe c d a b := by
  rw [← Bool.not_eq_true, lessV_lt]
  unfold lexLt lexLe
  omega
def spans (x0 y0 x1 y1 u0 v0 u1 v1 : Int) : Prop := crossZ x0 y0 x1 y1 u0 v0 = 0 ∧ crossZ x0 y0 x1 y1 u1 v1 = 0 ∧ lexLt u0 v0 x1 y1 ∧ lexLt x0 y0 u1 v1
def kindOk (k : Int) (M S : Prop) : Prop := (k = 0 ∨ k = 1 ∨ k = 2) ∧ (k ≠ 0 ↔ M) ∧ (k = 2 ↔ S)
theorem kindOk_of {k : Int} {M S : Prop} (h : ∀ j, j = k → ((j = 0 ∨ j = 1 ∨ j = 2) ∧ (j ≠ 0 ↔ M) ∧ (j = 2 ↔ S))) : kindOk k M S := h k rfl
def is3 (p : F) : Prop := ∃ X Y W, FLe p (l3pF X Y W)
theorem is3_pt (X Y W : Int) : is3 (l3pF X Y W) := ⟨X, Y, W, .refl _⟩
theorem is3_zero : is3 (F.agg [F.bool false, F.sl 0 fun x ↦ F.bool false, F.bool false, F.sl 0 fun x ↦ F.bool false, F.bool false, F.sl 0 fun x ↦ F.bool false]) := ⟨_, _, _, (l3p_eqv (n := 100) (by rfl)).1⟩
def goodM (X : Option F) (M S : Prop) : Prop := ∃ k p q, X = some (F.tup [F.int .i64 k, p, q]) ∧ kindOk k M S ∧ is3 p ∧ is3 q
theorem ends3 {c e : Bool} {X Y : Option F} {M S : Prop} (h1 : c = true → goodM X M S) (h2 : c = false → goodM Y M S) : goodM (bsel c X Y) M S := by
  cases c
  · exact h2 rfl
  · exact h1 rfl
theorem good_pt {k : Int} {X Y W : Int} {M S : Prop} (h : kindOk k M S) : goodM (some (F.tup [F.int .i64 k, l3pF X Y W, F.agg [F.bool false, F.sl 0 fun x ↦ F.bool false, F.bool false, F.sl 0 fun x ↦ F.bool false, F.bool false, F.sl 0 fun x ↦ F.bool false]])) M S := ⟨_, _, _, rfl, h, is3_pt _ _ _, is3_zero⟩
theorem good_two {k : Int} {X Y W X' Y' W' : Int} {M S : Prop} (h : kindOk k M S) : goodM (some (F.tup [F.int .i64 k, l3pF X Y W, l3pF X' Y' W'])) M S := ⟨_, _, _, rfl, h, is3_pt _ _ _, is3_pt _ _ _⟩
theorem good_no {k : Int} {M S : Prop} (h : kindOk k M S) : goodM (some (F.tup [F.int .i64 k, F.agg [F.bool false, F.sl 0 fun x ↦ F.bool false, F.bool false, F.sl 0 fun x ↦ F.bool false, F.bool false, F.sl 0 fun x ↦ F.bool false], F.agg [F.bool false, F.sl 0 fun x ↦ F.bool false, F.bool false, F.sl 0 fun x ↦ F.bool false, F.bool false, F.sl 0 fun x ↦ F.bool false]])) M S := ⟨_, _, _, rfl, h, is3_zero, is3_zero⟩
theorem l4meet_col {x0 y0 x1 y1 u0 v0 u1 v1 : Int} (h0 : spotIn x0 y0) (h1 : spotIn x1 y1) (k0 : spotIn u0 v0) (k1 : spotIn u1 v1) (hs : lexLt x0 y0 x1 y1) (ht : lexLt u0 v0 u1 v1) (ha : crossZ x0 y0 x1 y1 u0 v0 = 0) (hb : crossZ x0 y0 x1 y1 u1 v1 = 0) :
    goodM (G54 x0 y0 x1 y1 u0 v0 u1 v1) (meets x0 y0 x1 y1 u0 v0 u1 v1) (spans x0 y0 x1 y1 u0 v0 u1 v1) := by
  have i : ∀ {x y : Int}, spotIn x y → isI64 x = true ∧ isI64 y = true := fun h => by
    unfold spotIn at h
    exact ⟨isI64_iff.2 (by omega), isI64_iff.2 (by omega)⟩
  have hm : meets x0 y0 x1 y1 u0 v0 u1 v1 ↔ (lexLe u0 v0 x1 y1 ∧ lexLe x0 y0 u1 v1) := by
    unfold meets
    rw [ha, hb]
    constructor
    · rintro (⟨_, _, h⟩ | ⟨h, _⟩)
      · exact h
      · exact absurd ⟨rfl, rfl⟩ h
    · exact fun h => .inl ⟨rfl, rfl, h⟩
  unfold G54 T54
  rw [turnV_eq h0 h1 k0, turnV_eq h0 h1 k1, ha, hb]
  simp only [Int.sign_zero, beq_self_eq_true, bsel_true, i h0, i h1, i k0, i k1, Bool.and_self]
  unfold lexLt at hs ht
  have hsp : spans x0 y0 x1 y1 u0 v0 u1 v1 ↔ (lexLt u0 v0 x1 y1 ∧ lexLt x0 y0 u1 v1) := by
    unfold spans
    rw [ha, hb]
    exact ⟨fun h => h.2.2, fun h => ⟨rfl, rfl, h⟩⟩
  repeat' first
    | (refine ends3 (e := true) (fun _ => ?_) (fun _ => ?_))
    | (refine good_no ?_; refine kindOk_of fun j hj => ?_; rw [hm, hsp]; clear hm hsp ha hb i h0 h1 k0 k1; simp only [lessV_lt, lessV_no, Bool.and_true, Bool.and_eq_true, Bool.and_eq_false_iff, beq_iff_eq, beq_eq_false_iff_ne, ne_eq] at *; unfold lexLe at *; unfold lexLt at *; omega)
    | (refine good_pt ?_; refine kindOk_of fun j hj => ?_; rw [hm, hsp]; clear hm hsp ha hb i h0 h1 k0 k1; simp only [lessV_lt, lessV_no, Bool.and_true, Bool.and_eq_true, Bool.and_eq_false_iff, beq_iff_eq, beq_eq_false_iff_ne, ne_eq] at *; unfold lexLe at *; unfold lexLt at *; omega)
    | (refine good_two ?_; refine kindOk_of fun j hj => ?_; rw [hm, hsp]; clear hm hsp ha hb i h0 h1 k0 k1; simp only [lessV_lt, lessV_no, Bool.and_true, Bool.and_eq_true, Bool.and_eq_false_iff, beq_iff_eq, beq_eq_false_iff_ne, ne_eq] at *; unfold lexLe at *; unfold lexLt at *; omega)
theorem sign_eq0 (a : Int) : (a.sign == 0) = (a == 0) := by
  rcases sign3 a with ⟨h, e⟩ | ⟨h, e⟩ | ⟨h, e⟩
  · rw [e, show (a == 0) = false by simp only [beq_eq_false_iff_ne, ne_eq]; omega]; rfl
  · rw [h]; rfl
  · rw [e, show (a == 0) = false by simp only [beq_eq_false_iff_ne, ne_eq]; omega]; rfl
theorem l4meet_off {x0 y0 x1 y1 u0 v0 u1 v1 : Int} (h0 : spotIn x0 y0) (h1 : spotIn x1 y1) (k0 : spotIn u0 v0) (k1 : spotIn u1 v1) (hn : ¬ (crossZ x0 y0 x1 y1 u0 v0 = 0 ∧ crossZ x0 y0 x1 y1 u1 v1 = 0))
    (ho : ¬ (apart (crossZ x0 y0 x1 y1 u0 v0) (crossZ x0 y0 x1 y1 u1 v1) ∧ apart (crossZ u0 v0 u1 v1 x0 y0) (crossZ u0 v0 u1 v1 x1 y1))) :
    goodM (G54 x0 y0 x1 y1 u0 v0 u1 v1) (meets x0 y0 x1 y1 u0 v0 u1 v1) (spans x0 y0 x1 y1 u0 v0 u1 v1) := by
  have hm : ¬ meets x0 y0 x1 y1 u0 v0 u1 v1 := by
    unfold meets
    rintro (⟨a, b, _⟩ | ⟨_, h⟩)
    · exact hn ⟨a, b⟩
    · exact ho h
  have hsp : ¬ spans x0 y0 x1 y1 u0 v0 u1 v1 := fun h => hn ⟨h.1, h.2.1⟩
  have z : kindOk 0 (meets x0 y0 x1 y1 u0 v0 u1 v1) (spans x0 y0 x1 y1 u0 v0 u1 v1) := ⟨.inl rfl, by simp [hm], by simp [hsp]⟩
  have tt : (true == true) = true := rfl
  have ft : (false == true) = false := rfl
  have tf : (true == false) = false := rfl
  have ff : (false == false) = true := rfl
  unfold G54 T54
  rw [turnV_eq h0 h1 k0, turnV_eq h0 h1 k1, turnV_eq k0 k1 h0, turnV_eq k0 k1 h1]
  simp only [sign_eq0]
  generalize crossZ x0 y0 x1 y1 u0 v0 = A at *
  generalize crossZ x0 y0 x1 y1 u1 v1 = B at *
  generalize crossZ u0 v0 u1 v1 x0 y0 = C at *
  generalize crossZ u0 v0 u1 v1 x1 y1 = D at *
  by_cases ap : apart A B
  · have cd : ¬ apart C D := fun h => ho ⟨ap, h⟩
    rw [apart_yes ap, apart_no cd]
    by_cases hA : A = 0
    · have hB : ¬ B = 0 := fun h => hn ⟨hA, h⟩
      rw [show (A == 0) = true from beq_iff_eq.2 hA, show (B == 0) = false from beq_eq_false_iff_ne.2 hB]
      simp only [tt, ff, bsel_true, bsel_false]
      exact good_no z
    · rw [show (A == 0) = false from beq_eq_false_iff_ne.2 hA]
      simp only [ft, ff, bsel_true, bsel_false]
      exact good_no z
  · rw [apart_no ap]
    by_cases hA : A = 0
    · exact absurd (show apart A B by unfold apart; omega) ap
    · rw [show (A == 0) = false from beq_eq_false_iff_ne.2 hA]
      simp only [ft, tf, bsel_true, bsel_false]
      exact good_no z
theorem mulB {a b : Int} (ha : -2000000 ≤ a ∧ a ≤ 2000000) (hb : -2000000 ≤ b ∧ b ≤ 2000000) : -8000000000000 ≤ a * b ∧ a * b ≤ 8000000000000 := by
  have := (dotW (a := a) (b := b) (c := 0) (d := 0) (by omega) (by omega) (by omega) (by omega)).2
  simp only [Int.mul_zero, Int.add_zero] at this
  exact this
theorem diffW {a b c d : Int} (ha : -2000000 ≤ a ∧ a ≤ 2000000) (hb : -2000000 ≤ b ∧ b ≤ 2000000) (hc : -2000000 ≤ c ∧ c ≤ 2000000) (hd : -2000000 ≤ d ∧ d ≤ 2000000) :
    IntKind.i64.wrap (IntKind.i64.wrap (IntKind.i64.wrap a * IntKind.i64.wrap b) - IntKind.i64.wrap (IntKind.i64.wrap c * IntKind.i64.wrap d)) = a * b - c * d ∧ isI64 (a * b - c * d) = true := by
  have m1 := mulB ha hb
  have m2 := mulB hc hd
  rw [wrapI (x := a) (by omega) (by omega), wrapI (x := b) (by omega) (by omega), wrapI (x := c) (by omega) (by omega), wrapI (x := d) (by omega) (by omega), wrapI (x := a * b) (by omega) (by omega), wrapI (x := c * d) (by omega) (by omega), wrapI (by omega) (by omega)]
  exact ⟨rfl, isI64_iff.2 (by omega)⟩
theorem l4meet_in {x0 y0 x1 y1 u0 v0 u1 v1 : Int} (h0 : spotIn x0 y0) (h1 : spotIn x1 y1) (k0 : spotIn u0 v0) (k1 : spotIn u1 v1) (hn : ¬ (crossZ x0 y0 x1 y1 u0 v0 = 0 ∧ crossZ x0 y0 x1 y1 u1 v1 = 0))
    (ho : apart (crossZ x0 y0 x1 y1 u0 v0) (crossZ x0 y0 x1 y1 u1 v1) ∧ apart (crossZ u0 v0 u1 v1 x0 y0) (crossZ u0 v0 u1 v1 x1 y1)) :
    goodM (G54 x0 y0 x1 y1 u0 v0 u1 v1) (meets x0 y0 x1 y1 u0 v0 u1 v1) (spans x0 y0 x1 y1 u0 v0 u1 v1) := by
  have hm : meets x0 y0 x1 y1 u0 v0 u1 v1 := .inr ⟨hn, ho⟩
  have hsp : ¬ spans x0 y0 x1 y1 u0 v0 u1 v1 := fun h => hn ⟨h.1, h.2.1⟩
  have z : kindOk 1 (meets x0 y0 x1 y1 u0 v0 u1 v1) (spans x0 y0 x1 y1 u0 v0 u1 v1) := ⟨.inr (.inl rfl), by simp [hm], by simp [hsp]⟩
  have tt : (true == true) = true := rfl
  have ft : (false == true) = false := rfl
  have ff : (false == false) = true := rfl
  have hden : crossZ x0 y0 x1 y1 u1 v1 - crossZ x0 y0 x1 y1 u0 v0 = (x1 - x0) * (v1 - v0) - (y1 - y0) * (u1 - u0) := by unfold crossZ; grind
  have hne : (x1 - x0) * (v1 - v0) - (y1 - y0) * (u1 - u0) ≠ 0 := by
    rw [← hden]
    have := ho.1
    unfold apart at this
    omega
  have s0 := h0
  have s1 := h1
  have t0 := k0
  have t1 := k1
  unfold spotIn at s0 s1 t0 t1
  obtain ⟨d1, d2⟩ := diffW (a := x1 - x0) (b := v1 - v0) (c := y1 - y0) (d := u1 - u0) (by omega) (by omega) (by omega) (by omega)
  obtain ⟨e1, e2⟩ := diffW (a := u0 - x0) (b := v1 - v0) (c := v0 - y0) (d := u1 - u0) (by omega) (by omega) (by omega) (by omega)
  have b2 : ∀ {w : Int}, isI64 w = true → w.natAbs < 4294967296 ^ 2 := fun h => by have := isI64_iff.1 h; omega
  have i9 : ∀ {w : Int}, isI64 w = true → isL1n 900 (l1nF w) = true := fun h => isL1n_l1nF (boundC_up (b2 h) (by omega))
  have p8 : ∀ {w r : Int}, isI64 w = true → isI64 r = true → isL1n 800 (l1nF (w * r)) = true := fun h g => isL1n_l1nF (boundC_up (boundC_mul (b2 h) (b2 g)) (by omega))
  have p6 : ∀ {w r m o : Int}, isI64 w = true → isI64 r = true → isI64 m = true → isI64 o = true → isL1n 600 (l1nF (w * r + m * o)) = true := fun h g i j => isL1n_l1nF (boundC_up (boundC_add (boundC_mul (b2 h) (b2 g)) (boundC_mul (b2 i) (b2 j))) (by omega))
  have ix : isI64 x0 = true := isI64_iff.2 (by omega)
  have iy : isI64 y0 = true := isI64_iff.2 (by omega)
  have wx : IntKind.i64.wrap (x1 - x0) = x1 - x0 := wrapI (by omega) (by omega)
  have wy : IntKind.i64.wrap (y1 - y0) = y1 - y0 := wrapI (by omega) (by omega)
  have jx : isI64 (x1 - x0) = true := isI64_iff.2 (by omega)
  have jy : isI64 (y1 - y0) = true := isI64_iff.2 (by omega)
  have r3 : ∀ n : Int, resInt3 [F.int .i64 n] = l1nF n := fun _ => rfl
  unfold G54 T54
  rw [turnV_eq h0 h1 k0, turnV_eq h0 h1 k1, turnV_eq k0 k1 h0, turnV_eq k0 k1 h1, apart_yes ho.1, apart_yes ho.2]
  simp only [sign_eq0, d1, e1]
  simp only [wx, wy, r3, resMulZ_eq, unL1n_l1nF]
  generalize (x1 - x0) * (v1 - v0) - (y1 - y0) * (u1 - u0) = dn at *
  generalize (u0 - x0) * (v1 - v0) - (v0 - y0) * (u1 - u0) = nm at *
  have nz : isNon0 dn = true := by unfold isNon0; rw [show (dn == 0) = false from beq_eq_false_iff_ne.2 hne]; rfl
  simp only [ix, iy, jx, jy, d2, e2, i9 ix, i9 iy, i9 jx, i9 jy, i9 d2, i9 e2, p8 ix d2, p8 iy d2, p8 jx e2, p8 jy e2, p6 ix d2 jx e2, p6 iy d2 jy e2, nz, isL1n_l1nF (boundC_up (b2 d2) (show 2 ≤ 600 by omega)), Bool.and_self, bsel_true, ff, bsel_false]
  by_cases hA : crossZ x0 y0 x1 y1 u0 v0 = 0
  · have hB : ¬ crossZ x0 y0 x1 y1 u1 v1 = 0 := fun h => hn ⟨hA, h⟩
    rw [show (crossZ x0 y0 x1 y1 u0 v0 == 0) = true from beq_iff_eq.2 hA, show (crossZ x0 y0 x1 y1 u1 v1 == 0) = false from beq_eq_false_iff_ne.2 hB]
    simp only [tt, ff, bsel_true, bsel_false]
    exact good_pt z
  · rw [show (crossZ x0 y0 x1 y1 u0 v0 == 0) = false from beq_eq_false_iff_ne.2 hA]
    simp only [ft, ff, bsel_true, bsel_false]
    exact good_pt z
theorem l4meet_law {x0 y0 x1 y1 u0 v0 u1 v1 : Int} (h0 : spotIn x0 y0) (h1 : spotIn x1 y1) (k0 : spotIn u0 v0) (k1 : spotIn u1 v1) (hs : lexLt x0 y0 x1 y1) (ht : lexLt u0 v0 u1 v1) :
    goodM (G54 x0 y0 x1 y1 u0 v0 u1 v1) (meets x0 y0 x1 y1 u0 v0 u1 v1) (spans x0 y0 x1 y1 u0 v0 u1 v1) := by
  by_cases hn : crossZ x0 y0 x1 y1 u0 v0 = 0 ∧ crossZ x0 y0 x1 y1 u1 v1 = 0
  · exact l4meet_col h0 h1 k0 k1 hs ht hn.1 hn.2
  · by_cases ho : apart (crossZ x0 y0 x1 y1 u0 v0) (crossZ x0 y0 x1 y1 u1 v1) ∧ apart (crossZ u0 v0 u1 v1 x0 y0) (crossZ u0 v0 u1 v1 x1 y1)
    · exact l4meet_in h0 h1 k0 k1 hn ho
    · exact l4meet_off h0 h1 k0 k1 hn ho
theorem sgOk_parts {x0 y0 x1 y1 : Int} (h : segOkV x0 y0 x1 y1 = true) : spotIn x0 y0 ∧ spotIn x1 y1 ∧ lexLt x0 y0 x1 y1 := by
  unfold segOkV at h
  simp only [Bool.and_eq_true] at h
  exact ⟨spotOk_iff.1 h.1, spotOk_iff.1 h.2.1, lessV_lt.1 h.2.2⟩
open Classical in
def of3 (p : F) : Int × Int × Int := if h : is3 p then ⟨h.choose, h.choose_spec.choose, h.choose_spec.choose_spec.choose⟩ else (0, 0, 0)
theorem of3_le {p : F} (h : is3 p) : FLe p (l3pF (of3 p).1 (of3 p).2.1 (of3 p).2.2) := by
  unfold of3
  rw [dif_pos h]
  exact h.choose_spec.choose_spec.choose_spec
def kind3V (x0 y0 x1 y1 u0 v0 u1 v1 : Int) : Int := match G54 x0 y0 x1 y1 u0 v0 u1 v1 with | some (.tup [.int _ k, _, _]) => k | _ => 0
def pick3V (i : Nat) (x0 y0 x1 y1 u0 v0 u1 v1 : Int) : Int := match G54 x0 y0 x1 y1 u0 v0 u1 v1 with | some (.tup [_, p, q]) => ([(of3 p).1, (of3 p).2.1, (of3 p).2.2, (of3 q).1, (of3 q).2.1, (of3 q).2.2] : List Int).getD i 0 | _ => 0
theorem kind3_ok {x0 y0 x1 y1 u0 v0 u1 v1 : Int} (hs : segOkV x0 y0 x1 y1 = true) (ht : segOkV u0 v0 u1 v1 = true) : kindOk (kind3V x0 y0 x1 y1 u0 v0 u1 v1) (meets x0 y0 x1 y1 u0 v0 u1 v1) (spans x0 y0 x1 y1 u0 v0 u1 v1) := by
  obtain ⟨h0, h1, h2⟩ := sgOk_parts hs
  obtain ⟨k0, k1, k2⟩ := sgOk_parts ht
  obtain ⟨k, p, q, e, h, _⟩ := l4meet_law h0 h1 k0 k1 h2 k2
  unfold kind3V
  rw [e]
  exact h
theorem kind3_iff {x0 y0 x1 y1 u0 v0 u1 v1 : Int} (hs : segOkV x0 y0 x1 y1 = true) (ht : segOkV u0 v0 u1 v1 = true) : kind3V x0 y0 x1 y1 u0 v0 u1 v1 ≠ 0 ↔ meets x0 y0 x1 y1 u0 v0 u1 v1 := (kind3_ok hs ht).2.1
def preMeet3 : List F → Bool | [.agg [.int .i64 a, .int .i64 b, .int .i64 c, .int .i64 d], .agg [.int .i64 e, .int .i64 f, .int .i64 g, .int .i64 h]] => segOkV a b c d && segOkV e f g h | _ => false
def resMeet3 : List F → F | [.agg [.int .i64 a, .int .i64 b, .int .i64 c, .int .i64 d], .agg [.int .i64 e, .int .i64 f, .int .i64 g, .int .i64 h]] => .tup [.int .i64 (kind3V a b c d e f g h), l3pF (pick3V 0 a b c d e f g h) (pick3V 1 a b c d e f g h) (pick3V 2 a b c d e f g h), l3pF (pick3V 3 a b c d e f g h) (pick3V 4 a b c d e f g h) (pick3V 5 a b c d e f g h)] | _ => .dflt
theorem okMeet3 : PureOK Try.prog 54 preMeet3 resMeet3 :=
  fn_pure_at (c := bodyOf Try.f54) Try.func54 (by kernel_rfl) (by kernel_rfl) fun xs hp => match xs, hp with
  | [.agg [.int .i64 a, .int .i64 b, .int .i64 c, .int .i64 d], .agg [.int .i64 e, .int .i64 f, .int .i64 g, .int .i64 h]], hp => by
    simp only [preMeet3, Bool.and_eq_true] at hp
    obtain ⟨h0, h1, h2⟩ := sgOk_parts hp.1
    obtain ⟨k0, k1, k2⟩ := sgOk_parts hp.2
    obtain ⟨k, p, q, ek, _, hp3, hq3⟩ := l4meet_law h0 h1 k0 k1 h2 k2
    refine ⟨[_, _], _, ⟨.refl _, .refl _, trivial⟩, t54 a b c d e f g h _ ek, ?_⟩
    show FLe _ (.tup [.int .i64 (kind3V a b c d e f g h), l3pF (pick3V 0 a b c d e f g h) (pick3V 1 a b c d e f g h) (pick3V 2 a b c d e f g h), l3pF (pick3V 3 a b c d e f g h) (pick3V 4 a b c d e f g h) (pick3V 5 a b c d e f g h)])
    have e1 : kind3V a b c d e f g h = k := by unfold kind3V; rw [ek]
    have e2 : ∀ i, pick3V i a b c d e f g h = ([(of3 p).1, (of3 p).2.1, (of3 p).2.2, (of3 q).1, (of3 q).2.1, (of3 q).2.2] : List Int).getD i 0 := fun i => by unfold pick3V; rw [ek]
    rw [e1, e2, e2, e2, e2, e2, e2]
    exact FLe.tup ⟨.refl _, of3_le hp3, of3_le hq3, trivial⟩
def envH4b : Env := envH4a.add 54 (.pure preMeet3 resMeet3)
theorem envH4b_ok : EnvOK Try.prog envH4b := (Env.add_ok envH4a_ok okMeet3.sp)
end
end Go.Proofs.Ytmambbfnjbdfgaa.R

namespace Go.Proofs.Ytmambbfnjbdfgaa.R
open Go
noncomputable section
set_option linter.unusedVariables false
set_option linter.unusedSimpArgs false
structure Pt where
  x : Int
  y : Int
def Pt.zero : Pt := ⟨0, 0⟩
def ptF (s : Pt) : F := .agg [.int .i64 s.x, .int .i64 s.y]
def isPt : F → Bool
  | .agg [.int .i64 _, .int .i64 _] => true
  | _ => false
def unPt : F → Pt
  | .agg [.int .i64 a, .int .i64 b] => ⟨a, b⟩
  | _ => .zero
def ptsF (l : List Pt) : F := slF ptF .zero l
def isPts (x : F) : Bool := isSl isPt x
def unPts (x : F) : List Pt := unSl unPt x
theorem unPts_ptsF (l : List Pt) : unPts (ptsF l) = l := unSl_slF (fun _ => rfl) l
theorem isPts_ptsF (l : List Pt) : isPts (ptsF l) = true := isSl_slF l fun _ _ => rfl
theorem pt_eq {x : F} (h : isPt x = true) : ptF (unPt x) = x := by
  unfold isPt at h
  split at h
  · rfl
  · cases h
theorem pts_eqv {x : F} (hx : isPts x = true) : FLe x (ptsF (unPts x)) ∧ FLe (ptsF (unPts x)) x := slF_eqv (fun _ h => pt_eq h) hx
theorem pt_ext {a b : Pt} (h1 : a.x = b.x) (h2 : a.y = b.y) : a = b := by
  cases a; cases b; simp only at h1 h2; rw [h1, h2]
theorem pt_eta (a : Pt) : (⟨a.x, a.y⟩ : Pt) = a := rfl
theorem pt_ne {a b : Pt} (h : a ≠ b) : a.x ≠ b.x ∨ a.y ≠ b.y := by
  by_cases hx : a.x = b.x
  · right; intro hy; exact h (pt_ext hx hy)
  · exact .inl hx
def allUp (f : Nat → Bool) : Nat → Nat → Bool
  | _, 0 => true
  | i, d + 1 => f i && allUp f (i + 1) d
theorem allUp_iff (f : Nat → Bool) : ∀ (d i : Nat), allUp f i d = true ↔ ∀ j, i ≤ j → j < i + d → f j = true
  | 0, i => ⟨fun _ j h1 h2 => by omega, fun _ => rfl⟩
  | d + 1, i => by
    rw [allUp, Bool.and_eq_true, allUp_iff f d (i + 1)]
    constructor
    · rintro ⟨h1, h2⟩ j h3 h4
      by_cases e : j = i
      · subst e; exact h1
      · exact h2 j (by omega) (by omega)
    · exact fun h => ⟨h i (by omega) (by omega), fun j h1 h2 => h j (by omega) (by omega)⟩
theorem allUp_cut (f : Nat → Bool) (i d : Nat) : allUp f i (d + 1) = (f i && allUp f (i + 1) d) := rfl
def legOf (a b : Pt) : Sg := bif lessV b.x b.y a.x a.y then ⟨b.x, b.y, a.x, a.y⟩ else ⟨a.x, a.y, b.x, b.y⟩
theorem leg_cases (a b : Pt) (h : a ≠ b) : (lexLt a.x a.y b.x b.y ∧ legOf a b = ⟨a.x, a.y, b.x, b.y⟩) ∨ (lexLt b.x b.y a.x a.y ∧ legOf a b = ⟨b.x, b.y, a.x, a.y⟩) := by
  unfold legOf
  cases hl : lessV b.x b.y a.x a.y with
  | true => exact .inr ⟨lessV_lt.1 hl, rfl⟩
  | false =>
    refine .inl ⟨?_, rfl⟩
    have := lessV_no.1 hl
    have := pt_ne h
    unfold lexLe at *
    unfold lexLt
    omega
theorem leg_comm {a b : Pt} (h : a ≠ b) : legOf a b = legOf b a := by
  rcases leg_cases a b h with ⟨h1, h2⟩ | ⟨h1, h2⟩ <;> rcases leg_cases b a (fun e => h e.symm) with ⟨h3, h4⟩ | ⟨h3, h4⟩ <;> rw [h2, h4] <;> (exfalso; unfold lexLt at *; omega)
def onS (s : Sg) (p : Pt) : Prop := onSg s.x0 s.y0 s.x1 s.y1 p.x p.y
def meetS (s t : Sg) : Prop := meets s.x0 s.y0 s.x1 s.y1 t.x0 t.y0 t.x1 t.y1
def riseS (s : Sg) : Prop := lexLt s.x0 s.y0 s.x1 s.y1
theorem leg_rise {a b : Pt} (h : a ≠ b) : riseS (legOf a b) := by
  unfold riseS
  rcases leg_cases a b h with ⟨h1, h2⟩ | ⟨h1, h2⟩ <;> rw [h2] <;> exact h1
theorem leg_on {a b : Pt} (h : a ≠ b) {s : Sg} (hs : riseS s) (ho : onS s a) : meetS s (legOf a b) := by
  unfold onS at ho
  unfold riseS at hs
  unfold meetS
  rcases leg_cases a b h with ⟨h1, h2⟩ | ⟨h1, h2⟩ <;> rw [h2]
  · exact on_meets hs h1 (.inl ho)
  · exact on_meets hs h1 (.inr ho)
theorem meetS_comm {s t : Sg} (hs : riseS s) (ht : riseS t) : meetS s t ↔ meetS t s := ⟨meets_comm hs ht, meets_comm ht hs⟩
def backP (l : List Pt) (i : Nat) : Pt := l.getD (i - 1) .zero
def hitAhead (path : List Pt) (s : Sg) (i : Nat) : Prop := onS s (path.getD i .zero) ∨ (i + 1 < path.length ∧ path.getD i .zero ≠ path.getD (i + 1) .zero ∧ meetS (legOf (path.getD i .zero) (path.getD (i + 1) .zero)) s)
def hitBack (path : List Pt) (s : Sg) (i : Nat) : Prop := (path.getD i .zero = backP path i ∧ onS s (path.getD i .zero)) ∨ (path.getD i .zero ≠ backP path i ∧ meetS s (legOf (path.getD i .zero) (backP path i)))
theorem hits_iff (path : List Pt) {s : Sg} (hs : riseS s) : (∃ i, i < path.length ∧ hitAhead path s i) ↔ ∃ i, i < path.length ∧ hitBack path s i := by
  constructor
  · rintro ⟨i, hi, h | ⟨h1, h2, h3⟩⟩
    · refine ⟨i, hi, ?_⟩
      by_cases e : path.getD i .zero = backP path i
      · exact .inl ⟨e, h⟩
      · exact .inr ⟨e, leg_on e hs h⟩
    · refine ⟨i + 1, h1, .inr ?_⟩
      have eb : backP path (i + 1) = path.getD i .zero := rfl
      rw [eb]
      refine ⟨fun e => h2 e.symm, ?_⟩
      rw [leg_comm (fun e => h2 e.symm)]
      exact (meetS_comm (leg_rise h2) hs).1 h3
  · rintro ⟨i, hi, ⟨h1, h2⟩ | ⟨h1, h2⟩⟩
    · exact ⟨i, hi, .inl h2⟩
    · cases i with
      | zero => exact absurd rfl h1
      | succ i =>
        have eb : backP path (i + 1) = path.getD i .zero := rfl
        rw [eb] at h1 h2
        refine ⟨i, by omega, .inr ⟨hi, fun e => h1 e.symm, ?_⟩⟩
        rw [leg_comm (fun e => h1 e.symm)]
        exact (meetS_comm hs (leg_rise h1)).1 h2
end
end Go.Proofs.Ytmambbfnjbdfgaa.R

namespace Go.Proofs.Ytmambbfnjbdfgaa.R
open Go
noncomputable section
set_option linter.unusedVariables false
set_option linter.unusedSimpArgs false
set_option maxRecDepth 100000
/-! ### function 86 -/
def S86_5 (m : Nat) (g : Nat → F) (n : Int) (i : Int) : St := ⟨[.bad, .bad, (U.hp 0 0), (U.hs 1 m 0 m), .bad, .bad, .bad, .bad, .bad, .bad, .bad, .bad, .bad, .bad, .bad, .bad, .bad, .bad, .bad, .bad, .bad, (U.f (F.int .i64 n)), (U.f (F.int .i64 i)), .bad, .bad, .bad, .bad, .bad, .bad, .bad, .bad, .bad, .bad, .bad, .bad, .bad, .bad, .bad, .bad], [HO.box [(U.f (F.bool false)), U.nils], HO.arr 1 m g]⟩
def T86_5 {ρ : Type} (ret : (F) → Option ρ) (c5 : (Nat) → (Nat → F) → (Int) → (Int) → Option ρ) (m : Nat) (g : Nat → F) (n : Int) (i : Int) : Option ρ :=
 (bsel (decide (i < n))
 (bsel (decide (m = m))
 (bsel (decide (0 ≤ i))
 (bsel (decide (i < (↑m : Int)))
 (bsel (decide (m = m))
 (bsel (decide (0 + i.toNat < m))
 (bsel (decide ((g (0 + i.toNat)).cells.length = 1))
 (bsel (okV (Value.int IntKind.u64 0) ((List.drop 0 (g (0 + i.toNat)).cells).headD F.dflt) && true)
 (bsel (decide (m = m))
 (bsel (decide (0 ≤ i))
 (bsel (decide (i < (↑m : Int)))
 (bsel (decide (m = m))
 (bsel (decide (0 + i.toNat < m))
 (bsel (decide ((g (0 + i.toNat)).cells.length = 1))
 (bsel ((isAggF (g (0 + i.toNat)) || true) && true)
 (c5 (m) (fun j ↦ if j = 0 + i.toNat then F.int .u64 (bitsOp BinOp.xor IntKind.u64 (if IntKind.u64.signed = true then -1 else IntKind.u64.max) (intOf ((List.drop 0 (g (0 + i.toNat)).cells).headD F.dflt))) else g j) (n) (IntKind.i64.wrap (i + 1)))
 none)
 none)
 none)
 none)
 none)
 none)
 none)
 none)
 none)
 none)
 none)
 none)
 none)
 none)
 (bsel (decide (m = m))
 (bsel (isWords (F.sl m (offF 0 g)) && decide ((unWords (F.sl m (offF 0 g))).length ≤ 1000))
 (bsel (isWords (resTrim [F.sl m (offF 0 g)]) && lenOk 900 (resTrim [F.sl m (offF 0 g)]) && true)
 (bsel (isWords (resAddW [resTrim [F.sl m (offF 0 g)], F.sl 1 (lget [F.int .u64 1])]) && lenOk 1000 (resAddW [resTrim [F.sl m (offF 0 g)], F.sl 1 (lget [F.int .u64 1])]))
 (ret (numF (sgn true (val 18446744073709551616 (unWords (resAddW [resTrim [F.sl m (offF 0 g)], F.sl 1 (lget [F.int .u64 1])]))))))
 none)
 none)
 none)
 none))
def L86_5 : Nat → (Nat) → (Nat → F) → (Int) → (Int) → Option (F)
  | 0, _, _, _, _ => none
  | k + 1, m, g, n, i => T86_5 some (L86_5 k) m g n i
def T86 {ρ : Type} (ret : (F) → Option ρ) (c5 : (Nat) → (Nat → F) → (Int) → (Int) → Option ρ) (a : Int) (b : Int) (c : Int) (d : Int) : Option ρ :=
 (bsel (a.fdiv (2 ^ min (Int.toNat 63) IntKind.u64.bits) == 0)
 (bsel (isWords (F.sl 4 (offF 0 (lget [F.int .u64 d, F.int .u64 c, F.int .u64 b, F.int .u64 a]))) && true)
 (ret (numF (sgn false (val 18446744073709551616 (unWords (F.sl 4 (offF 0 (lget [F.int .u64 d, F.int .u64 c, F.int .u64 b, F.int .u64 a]))))))))
 none)
 (c5 (4) (lget [F.int .u64 d, F.int .u64 c, F.int .u64 b, F.int .u64 a]) (((4 : Nat) : Int)) (0)))
def G86 (k : Nat) (a : Int) (b : Int) (c : Int) (d : Int) : Option (F) := T86 some (L86_5 k) a b c d
theorem t86_5 : ∀ (k : Nat) (m : Nat) (g : Nat → F) (n : Int) (i : Int) (r : F), L86_5 k m g n i = some r → Ends Try.prog Try.f86.results.toList (at_ Try.f86 5) (S86_5 m g n i) (r)
  | 0, _, _, _, _, _, h => nomatch h
  | k + 1, m, g, n, i, r, h => by
    refine Ends.of_cut tyOK envH4b_ok (T := [(5, [2, 3, 21, 22], 1000)]) (n := 200) ?_
    have e : runCut Try.prog (tiOf Try.prog) envH4b [(5, [2, 3, 21, 22], 1000)] 0 Try.f86.results.toList some 200 (at_ Try.f86 5) (S86_5 m g n i) = T86_5 (fun r => some (.ret (r))) (fun m g n i => some (.cut (at_ Try.f86 5) (S86_5 m g n i))) m g n i := by kernel_rfl
    rw [e]
    exact (good_sel h (fun _ h => (good_sel h (fun _ h => (good_sel h (fun _ h => (good_sel h (fun _ h => (good_sel h (fun _ h => (good_sel h (fun _ h => (good_sel h (fun _ h => (good_sel h (fun _ h => (good_sel h (fun _ h => (good_sel h (fun _ h => (good_sel h (fun _ h => (good_sel h (fun _ h => (good_sel h (fun _ h => (good_sel h (fun _ h => (good_sel h (fun _ h => good_cut (t86_5 k _ _ _ _ r h)) (fun _ h => nomatch h))) (fun _ h => nomatch h))) (fun _ h => nomatch h))) (fun _ h => nomatch h))) (fun _ h => nomatch h))) (fun _ h => nomatch h))) (fun _ h => nomatch h))) (fun _ h => nomatch h))) (fun _ h => nomatch h))) (fun _ h => nomatch h))) (fun _ h => nomatch h))) (fun _ h => nomatch h))) (fun _ h => nomatch h))) (fun _ h => nomatch h))) (fun _ h => (good_sel h (fun _ h => (good_sel h (fun _ h => (good_sel h (fun _ h => (good_sel h (fun _ h => good_ret (by cases h; rfl)) (fun _ h => nomatch h))) (fun _ h => nomatch h))) (fun _ h => nomatch h))) (fun _ h => nomatch h))))
theorem t86 (k : Nat) (a : Int) (b : Int) (c : Int) (d : Int) (r : F) (h : G86 k a b c d = some r) : Ends Try.prog Try.f86.results.toList [.code (bodyOf Try.f86)] (start Try.f86.ntmps ([F.agg [F.int .u64 a, F.int .u64 b, F.int .u64 c, F.int .u64 d]].map .f)) (r) := by
  refine Ends.of_run tyOK envH4b_ok (T := [(5, [2, 3, 21, 22], 1000)]) (n := 200) ?_
  have e : run Try.prog (tiOf Try.prog) envH4b [(5, [2, 3, 21, 22], 1000)] 0 Try.f86.results.toList some 200 [.code (bodyOf Try.f86)] (start Try.f86.ntmps ([F.agg [F.int .u64 a, F.int .u64 b, F.int .u64 c, F.int .u64 d]].map .f)) = T86 (fun r => some (.ret (r))) (fun m g n i => some (.cut (at_ Try.f86 5) (S86_5 m g n i))) a b c d := by kernel_rfl
  rw [e]
  exact (good_sel h (fun _ h => (good_sel h (fun _ h => good_ret (by cases h; rfl)) (fun _ h => nomatch h))) (fun _ h => good_cut (t86_5 k _ _ _ _ r h)))
def isU4 (a b c d : Int) : Bool := isWd a && isWd b && (isWd c && isWd d)
theorem isU4_iff {a b c d : Int} : isU4 a b c d = true ↔ ((0 ≤ a ∧ a < 18446744073709551616) ∧ (0 ≤ b ∧ b < 18446744073709551616)) ∧ (0 ≤ c ∧ c < 18446744073709551616) ∧ (0 ≤ d ∧ d < 18446744073709551616) := by
  simp only [isU4, Bool.and_eq_true, isWd_iff]
def wdsS (a b c d : Int) : Int := if a < 9223372036854775808 then d + 18446744073709551616 * (c + 18446744073709551616 * (b + 18446744073709551616 * a)) else d + 18446744073709551616 * (c + 18446744073709551616 * (b + 18446744073709551616 * a)) - 115792089237316195423570985008687907853269984665640564039457584007913129639936
theorem wdsS_bound {a b c d : Int} (h : isU4 a b c d = true) : isWide (wdsS a b c d) = true := by
  have := isU4_iff.1 h
  rw [isWide_iff]
  unfold wdsS
  split <;> omega
theorem wdsS_wd {z : Int} (h : isWide z = true) : wdsS (wd3 z) (wd2 z) (wd1 z) (wd0 z) = z ∧ isU4 (wd3 z) (wd2 z) (wd1 z) (wd0 z) = true := by
  have hw := isWide_iff.1 h
  rw [isU4_iff]
  simp only [wdsS, wd3, wd2, wd1, wd0, h, cond_true]
  refine ⟨?_, by omega⟩
  split <;> omega
def valV (v : Nat → Nat) : Nat := v 0 + 18446744073709551616 * (v 1 + 18446744073709551616 * (v 2 + 18446744073709551616 * v 3))
theorem wnum_loop {v : Nat → Nat} (hv : ∀ j, v j < 18446744073709551616) : ∀ (d i k : Nat) (g : Nat → F), i + d = 4 → d + 1 < k → (∀ j, j < 4 → g j = u64F (if j < i then 18446744073709551616 - 1 - v j else v j)) →
    L86_5 k 4 g ((4 : Nat) : Int) i = some (numF (-((115792089237316195423570985008687907853269984665640564039457584007913129639936 - valV v : Nat) : Int)))
  | 0, i, k, g, hi, hk, hg => by
    obtain ⟨k, rfl⟩ : ∃ j, k = j + 2 := ⟨k - 2, by omega⟩
    have hg' : ∀ j, j < 4 → g j = u64F ([18446744073709551616 - 1 - v 0, 18446744073709551616 - 1 - v 1, 18446744073709551616 - 1 - v 2, 18446744073709551616 - 1 - v 3].getD j 0) := fun j hj => by
      rw [hg j hj, if_pos (by omega)]
      match j, hj with
      | 0, _ => rfl
      | 1, _ => rfl
      | 2, _ => rfl
      | 3, _ => rfl
    have ho : okD 18446744073709551616 [18446744073709551616 - 1 - v 0, 18446744073709551616 - 1 - v 1, 18446744073709551616 - 1 - v 2, 18446744073709551616 - 1 - v 3] := fun w hw => by
      simp at hw
      omega
    have e1 : isWords (F.sl 4 (offF 0 g)) = true := isWords_read rfl hg' ho
    have e2 : unWords (F.sl 4 (offF 0 g)) = [18446744073709551616 - 1 - v 0, 18446744073709551616 - 1 - v 1, 18446744073709551616 - 1 - v 2, 18446744073709551616 - 1 - v 3] := unWords_read rfl hg'
    have e3 : resTrim [F.sl 4 (offF 0 g)] = wordsF (trimL [18446744073709551616 - 1 - v 0, 18446744073709551616 - 1 - v 1, 18446744073709551616 - 1 - v 2, 18446744073709551616 - 1 - v 3]) := by
      show wordsF (trimL (unWords _)) = _
      rw [e2]
    have ot := okD_trimL _ ho
    have e4 : isWords (wordsF (trimL [18446744073709551616 - 1 - v 0, 18446744073709551616 - 1 - v 1, 18446744073709551616 - 1 - v 2, 18446744073709551616 - 1 - v 3])) = true := isWords_wordsF ot
    have hl : (trimL [18446744073709551616 - 1 - v 0, 18446744073709551616 - 1 - v 1, 18446744073709551616 - 1 - v 2, 18446744073709551616 - 1 - v 3]).length ≤ 4 := by
      rw [trimL_take]
      simp only [List.length_take, List.length_cons, List.length_nil]
      omega
    have e5 : lenOk 900 (wordsF (trimL [18446744073709551616 - 1 - v 0, 18446744073709551616 - 1 - v 1, 18446744073709551616 - 1 - v 2, 18446744073709551616 - 1 - v 3])) = true := by
      rw [lenOk_wordsF, Nat.ble_eq]
      omega
    have h0 := hv 0
    have h1 := hv 1
    have h2 := hv 2
    have h3 := hv 3
    have e6 : resAddW [wordsF (trimL [18446744073709551616 - 1 - v 0, 18446744073709551616 - 1 - v 1, 18446744073709551616 - 1 - v 2, 18446744073709551616 - 1 - v 3]), F.sl 1 (lget [F.int .u64 1])] = wordsF (digs 18446744073709551616 (115792089237316195423570985008687907853269984665640564039457584007913129639936 - valV v)) := by
      have : unWords (F.sl 1 (lget [F.int .u64 1])) = [1] := rfl
      simp only [resAddW, this, unWords_wordsF, val_trimL]
      congr 2
      simp only [val, valV]
      omega
    have hb : 115792089237316195423570985008687907853269984665640564039457584007913129639936 - valV v < 18446744073709551616 ^ 5 := by
      have : (18446744073709551616 : Nat) ^ 5 = 18446744073709551616 * 115792089237316195423570985008687907853269984665640564039457584007913129639936 := rfl
      omega
    rw [L86_5]
    unfold T86_5
    rw [decide_eq_false (show ¬ (i : Int) < ((4 : Nat) : Int) by omega), bsel_false, e1, e2, e3, e4, e5, e6, isWords_digs, lenOk_digs hb (show 5 ≤ 1000 by omega), unWords_digs, val_digsB]
    rfl
  | d + 1, i, k, g, hi, hk, hg => by
    obtain ⟨k, rfl⟩ : ∃ j, k = j + 1 := ⟨k - 1, by omega⟩
    have hx : g i = u64F (v i) := by rw [hg i (by omega), if_neg (by omega)]
    rw [L86_5]
    unfold T86_5
    rw [Int.toNat_natCast, Nat.zero_add, hx, decide_eq_true (show (i : Int) < ((4 : Nat) : Int) by omega), decide_eq_true (show 4 = 4 from rfl), decide_eq_true (show (0 : Int) ≤ i by omega), decide_eq_true (show i < 4 by omega), decide_eq_true (u64_cells _), isAgg_or, cell_of, okV_u64, intOf_u64, not64 (hv i), wrapI (by omega) (by omega)]
    simp only [bsel_true, Bool.and_true]
    rw [show (i : Int) + 1 = ((i + 1 : Nat) : Int) by omega]
    refine wnum_loop hv d (i + 1) k _ (by omega) (by omega) fun j hj => ?_
    by_cases hji : j = i
    · subst hji
      rw [if_pos rfl, if_pos (by omega)]
      rfl
    · rw [if_neg hji, hg j hj]
      by_cases hlt : j < i
      · rw [if_pos hlt, if_pos (by omega)]
      · rw [if_neg hlt, if_neg (by omega)]
theorem wnumS_law {a b c d : Int} (h : isU4 a b c d = true) : G86 10 a b c d = some (numF (wdsS a b c d)) := by
  obtain ⟨⟨⟨a1, a2⟩, b1, b2⟩, ⟨c1, c2⟩, d1, d2⟩ := isU4_iff.1 h
  obtain ⟨a, rfl⟩ : ∃ n : Nat, a = n := ⟨a.toNat, by omega⟩
  obtain ⟨b, rfl⟩ : ∃ n : Nat, b = n := ⟨b.toNat, by omega⟩
  obtain ⟨c, rfl⟩ : ∃ n : Nat, c = n := ⟨c.toNat, by omega⟩
  obtain ⟨d, rfl⟩ : ∃ n : Nat, d = n := ⟨d.toNat, by omega⟩
  have hg : ∀ j, j < 4 → lget [F.int .u64 d, F.int .u64 c, F.int .u64 b, F.int .u64 a] j = u64F ([d, c, b, a].getD j 0) := fun j hj => by
    match j, hj with
    | 0, _ => rfl
    | 1, _ => rfl
    | 2, _ => rfl
    | 3, _ => rfl
  have ho : okD 18446744073709551616 [d, c, b, a] := fun w hw => by
    simp at hw
    omega
  unfold G86 T86
  rw [show ((2 : Int) ^ min (Int.toNat 63) IntKind.u64.bits) = 9223372036854775808 from rfl, Int.fdiv_eq_ediv_of_nonneg _ (by omega)]
  by_cases hc : a < 9223372036854775808
  · rw [show ((a : Int) / 9223372036854775808 == 0) = true by rw [beq_iff_eq]; omega, bsel_true, show isWords (F.sl 4 (offF 0 (lget [F.int .u64 d, F.int .u64 c, F.int .u64 b, F.int .u64 a]))) = true from isWords_read rfl hg ho, show unWords (F.sl 4 (offF 0 (lget [F.int .u64 d, F.int .u64 c, F.int .u64 b, F.int .u64 a]))) = [d, c, b, a] from unWords_read rfl hg]
    simp only [Bool.and_true, bsel_true, sgn, val, Bool.false_eq_true, if_false]
    refine congrArg some (congrArg numF ?_)
    unfold wdsS
    rw [if_pos (by omega)]
    omega
  · rw [show ((a : Int) / 9223372036854775808 == 0) = false by rw [beq_eq_false_iff_ne]; omega, bsel_false]
    have hv : ∀ j, [d, c, b, a].getD j 0 < 18446744073709551616 := getD_lt' (by omega) ho
    have hgo := wnum_loop hv 4 0 10 (lget [F.int .u64 d, F.int .u64 c, F.int .u64 b, F.int .u64 a]) rfl (by omega) fun j hj => by rw [if_neg (by omega)]; exact hg j hj
    refine hgo.trans ?_
    refine congrArg some (congrArg numF ?_)
    unfold wdsS valV
    rw [if_neg (by omega)]
    show -((115792089237316195423570985008687907853269984665640564039457584007913129639936 - (d + 18446744073709551616 * (c + 18446744073709551616 * (b + 18446744073709551616 * a))) : Nat) : Int) = _
    omega
def preWs : List F → Bool | [.agg [.int .u64 a, .int .u64 b, .int .u64 c, .int .u64 d]] => isU4 a b c d | _ => false
def resWs : List F → F | [.agg [.int .u64 a, .int .u64 b, .int .u64 c, .int .u64 d]] => numF (wdsS a b c d) | _ => .dflt
theorem okWs : PureOK Try.prog 86 preWs resWs :=
  fn_pure (c := bodyOf Try.f86) Try.func86 (by kernel_rfl) (by kernel_rfl) fun xs hp => match xs, hp with
  | [.agg [.int .u64 a, .int .u64 b, .int .u64 c, .int .u64 d]], hp => t86 10 a b c d _ (wnumS_law hp)
/-! ### function 95 -/
def T95 {ρ : Type} (ret : (F) → Option ρ) (n : Int) : Option ρ :=
 (bsel (isI64 n)
 (bsel (isNum 399 (resWhole [F.int .i64 n]))
 (ret (F.agg [F.int .u64 (wd3 (unNum (resWhole [F.int .i64 n]))), F.int .u64 (wd2 (unNum (resWhole [F.int .i64 n]))), F.int .u64 (wd1 (unNum (resWhole [F.int .i64 n]))), F.int .u64 (wd0 (unNum (resWhole [F.int .i64 n])))]))
 none)
 none)
def G95 (n : Int) : Option (F) := T95 some n
theorem t95 (n : Int) (r : F) (h : G95 n = some r) : Ends Try.prog Try.f95.results.toList [.code (bodyOf Try.f95)] (start Try.f95.ntmps ([F.int .i64 n].map .f)) (r) := by
  refine Ends.of_run tyOK envH4b_ok (T := []) (n := 200) ?_
  have e : run Try.prog (tiOf Try.prog) envH4b [] 0 Try.f95.results.toList some 200 [.code (bodyOf Try.f95)] (start Try.f95.ntmps ([F.int .i64 n].map .f)) = T95 (fun r => some (.ret (r))) n := by kernel_rfl
  rw [e]
  exact (good_sel h (fun _ h => (good_sel h (fun _ h => good_ret (by cases h; rfl)) (fun _ h => nomatch h))) (fun _ h => nomatch h))
theorem wideOf_law {n : Int} (h : isI64 n = true) : G95 n = some (wideF n) := by
  have r : resWhole [F.int .i64 n] = numF n := rfl
  have hn : n.natAbs < 18446744073709551616 ^ 1 := by have := isI64_iff.1 h; omega
  unfold G95 T95
  rw [r, h, isNum_numF (bound_up hn (show 1 ≤ 399 by omega)), unNum_numF]
  rfl
def resWideOf : List F → F | [.int .i64 n] => wideF n | _ => .dflt
theorem okWideOf : PureOK Try.prog 95 preI64 resWideOf :=
  fn_pure (c := bodyOf Try.f95) Try.func95 (by kernel_rfl) (by kernel_rfl) fun xs hp => match xs, hp with
  | [.int .i64 n], hp => t95 n _ (wideOf_law hp)
/-! ### function 58 -/
def T58 {ρ : Type} (ret : (F) → Option ρ) (x0 : Int) (y0 : Int) (x1 : Int) (y1 : Int) : Option ρ :=
 (bsel (decide (cmpV x0 y0 x1 y1 > 0))
 (ret (F.agg [F.int .i64 x1, F.int .i64 y1, F.int .i64 x0, F.int .i64 y0]))
 (ret (F.agg [F.int .i64 x0, F.int .i64 y0, F.int .i64 x1, F.int .i64 y1])))
def G58 (x0 : Int) (y0 : Int) (x1 : Int) (y1 : Int) : Option (F) := T58 some x0 y0 x1 y1
theorem t58 (x0 : Int) (y0 : Int) (x1 : Int) (y1 : Int) (r : F) (h : G58 x0 y0 x1 y1 = some r) : Ends Try.prog Try.f58.results.toList [.code (bodyOf Try.f58)] (start Try.f58.ntmps ([F.agg [F.int .i64 x0, F.int .i64 y0], F.agg [F.int .i64 x1, F.int .i64 y1]].map .f)) (r) := by
  refine Ends.of_run tyOK envH4b_ok (T := []) (n := 200) ?_
  have e : run Try.prog (tiOf Try.prog) envH4b [] 0 Try.f58.results.toList some 200 [.code (bodyOf Try.f58)] (start Try.f58.ntmps ([F.agg [F.int .i64 x0, F.int .i64 y0], F.agg [F.int .i64 x1, F.int .i64 y1]].map .f)) = T58 (fun r => some (.ret (r))) x0 y0 x1 y1 := by kernel_rfl
  rw [e]
  exact (good_sel h (fun _ h => good_ret (by cases h; rfl)) (fun _ h => good_ret (by cases h; rfl)))
theorem cmpV_pos (x0 y0 x1 y1 : Int) : decide (cmpV x0 y0 x1 y1 > 0) = lessV x1 y1 x0 y0 := by
  unfold cmpV
  cases h1 : (x0 == x1 && y0 == y1) with
  | true =>
    simp only [Bool.and_eq_true, beq_iff_eq] at h1
    cases h2 : lessV x1 y1 x0 y0 with
    | false => rfl
    | true =>
      have := lessV_lt.1 h2
      unfold lexLt at this
      omega
  | false =>
    have hn : ¬ (x0 = x1 ∧ y0 = y1) := fun ⟨e1, e2⟩ => by rw [e1, e2, beq_self_eq_true, beq_self_eq_true] at h1; cases h1
    cases h2 : lessV x0 y0 x1 y1 <;> cases h3 : lessV x1 y1 x0 y0 <;> first | rfl | skip
    · have h2 := lessV_no.1 h2
      have h3 := lessV_no.1 h3
      unfold lexLe at h2 h3
      omega
    · have h2 := lessV_lt.1 h2
      have h3 := lessV_lt.1 h3
      unfold lexLt at h2 h3
      omega
def resLeg : List F → F | [.agg [.int .i64 a, .int .i64 b], .agg [.int .i64 c, .int .i64 d]] => sgF (legOf ⟨a, b⟩ ⟨c, d⟩) | _ => .dflt
theorem okLeg : PureOK Try.prog 58 pre2p resLeg :=
  fn_pure (c := bodyOf Try.f58) Try.func58 (by kernel_rfl) (by kernel_rfl) fun xs hp => match xs, hp with
  | [.agg [.int .i64 a, .int .i64 b], .agg [.int .i64 c, .int .i64 d]], hp => t58 a b c d _ (by
      unfold G58 T58
      rw [cmpV_pos]
      show _ = some (sgF (legOf ⟨a, b⟩ ⟨c, d⟩))
      unfold legOf
      cases lessV c d a b <;> rfl)
def envH5 : Env := ((envH4b.add 86 (.pure preWs resWs)).add 95 (.pure preI64 resWideOf)).add 58 (.pure pre2p resLeg)
theorem envH5_ok : EnvOK Try.prog envH5 := (Env.add_ok (Env.add_ok (Env.add_ok envH4b_ok okWs.sp) okWideOf.sp) okLeg.sp)
end
end Go.Proofs.Ytmambbfnjbdfgaa.R

namespace Go.Proofs.Ytmambbfnjbdfgaa.R
open Go
noncomputable section
set_option linter.unusedVariables false
set_option linter.unusedSimpArgs false
set_option maxRecDepth 100000
/-! ### function 56 -/
def T56 {ρ : Type} (ret : (F) → Option ρ) (x : Int) (y : Int) : Option ρ :=
 (bsel (isI64 x)
 (bsel (isI64 y)
 (ret (F.agg [F.int .u64 (wd3 x), F.int .u64 (wd2 x), F.int .u64 (wd1 x), F.int .u64 (wd0 x), F.int .u64 (wd3 y), F.int .u64 (wd2 y), F.int .u64 (wd1 y), F.int .u64 (wd0 y), F.int .u64 (wd3 1), F.int .u64 (wd2 1), F.int .u64 (wd1 1), F.int .u64 (wd0 1)]))
 none)
 none)
def G56 (x : Int) (y : Int) : Option (F) := T56 some x y
theorem t56 (x : Int) (y : Int) (r : F) (h : G56 x y = some r) : Ends Try.prog Try.f56.results.toList [.code (bodyOf Try.f56)] (start Try.f56.ntmps ([F.agg [F.int .i64 x, F.int .i64 y]].map .f)) (r) := by
  refine Ends.of_run tyOK envH5_ok (T := []) (n := 200) ?_
  have e : run Try.prog (tiOf Try.prog) envH5 [] 0 Try.f56.results.toList some 200 [.code (bodyOf Try.f56)] (start Try.f56.ntmps ([F.agg [F.int .i64 x, F.int .i64 y]].map .f)) = T56 (fun r => some (.ret (r))) x y := by kernel_rfl
  rw [e]
  exact (good_sel h (fun _ h => (good_sel h (fun _ h => good_ret (by cases h; rfl)) (fun _ h => nomatch h))) (fun _ h => nomatch h))
def preI2 : List F → Bool | [.agg [.int .i64 x, .int .i64 y]] => isI64 x && isI64 y | _ => false
def resPtOf : List F → F | [.agg [.int .i64 x, .int .i64 y]] => .agg [.int .u64 (wd3 x), .int .u64 (wd2 x), .int .u64 (wd1 x), .int .u64 (wd0 x), .int .u64 (wd3 y), .int .u64 (wd2 y), .int .u64 (wd1 y), .int .u64 (wd0 y), .int .u64 (wd3 1), .int .u64 (wd2 1), .int .u64 (wd1 1), .int .u64 (wd0 1)] | _ => .dflt
theorem okPtOf : PureOK Try.prog 56 preI2 resPtOf :=
  fn_pure (c := bodyOf Try.f56) Try.func56 (by kernel_rfl) (by kernel_rfl) fun xs hp => match xs, hp with
  | [.agg [.int .i64 x, .int .i64 y]], hp => by
    simp only [preI2, Bool.and_eq_true] at hp
    exact t56 x y _ (by unfold G56 T56; rw [hp.1, hp.2]; rfl)
/-! ### function 131 -/
def T131 {ρ : Type} (ret : (F) → Option ρ) (a0 : Int) (a1 : Int) (a2 : Int) (a3 : Int) (a4 : Int) (a5 : Int) (a6 : Int) (a7 : Int) (a8 : Int) (a9 : Int) (a10 : Int) (a11 : Int) : Option ρ :=
 (bsel (isU4 a0 a1 a2 a3)
 (bsel (isU4 a4 a5 a6 a7)
 (bsel (isU4 a8 a9 a10 a11)
 (ret (F.agg [F.bool (decide (wdsS a0 a1 a2 a3 < 0)), wordsF (digs 18446744073709551616 (wdsS a0 a1 a2 a3).natAbs), F.bool (decide (wdsS a4 a5 a6 a7 < 0)), wordsF (digs 18446744073709551616 (wdsS a4 a5 a6 a7).natAbs), F.bool (decide (wdsS a8 a9 a10 a11 < 0)), wordsF (digs 18446744073709551616 (wdsS a8 a9 a10 a11).natAbs)]))
 none)
 none)
 none)
def G131 (a0 : Int) (a1 : Int) (a2 : Int) (a3 : Int) (a4 : Int) (a5 : Int) (a6 : Int) (a7 : Int) (a8 : Int) (a9 : Int) (a10 : Int) (a11 : Int) : Option (F) := T131 some a0 a1 a2 a3 a4 a5 a6 a7 a8 a9 a10 a11
theorem t131 (a0 : Int) (a1 : Int) (a2 : Int) (a3 : Int) (a4 : Int) (a5 : Int) (a6 : Int) (a7 : Int) (a8 : Int) (a9 : Int) (a10 : Int) (a11 : Int) (r : F) (h : G131 a0 a1 a2 a3 a4 a5 a6 a7 a8 a9 a10 a11 = some r) : Ends Try.prog Try.f131.results.toList [.code (bodyOf Try.f131)] (start Try.f131.ntmps ([F.agg [F.int .u64 a0, F.int .u64 a1, F.int .u64 a2, F.int .u64 a3, F.int .u64 a4, F.int .u64 a5, F.int .u64 a6, F.int .u64 a7, F.int .u64 a8, F.int .u64 a9, F.int .u64 a10, F.int .u64 a11]].map .f)) (r) := by
  refine Ends.of_run tyOK envH5_ok (T := []) (n := 200) ?_
  have e : run Try.prog (tiOf Try.prog) envH5 [] 0 Try.f131.results.toList some 200 [.code (bodyOf Try.f131)] (start Try.f131.ntmps ([F.agg [F.int .u64 a0, F.int .u64 a1, F.int .u64 a2, F.int .u64 a3, F.int .u64 a4, F.int .u64 a5, F.int .u64 a6, F.int .u64 a7, F.int .u64 a8, F.int .u64 a9, F.int .u64 a10, F.int .u64 a11]].map .f)) = T131 (fun r => some (.ret (r))) a0 a1 a2 a3 a4 a5 a6 a7 a8 a9 a10 a11 := by kernel_rfl
  rw [e]
  exact (good_sel h (fun _ h => (good_sel h (fun _ h => (good_sel h (fun _ h => good_ret (by cases h; rfl)) (fun _ h => nomatch h))) (fun _ h => nomatch h))) (fun _ h => nomatch h))
def isPw (a0 a1 a2 a3 a4 a5 a6 a7 a8 a9 a10 a11 : Int) : Bool := isU4 a0 a1 a2 a3 && isU4 a4 a5 a6 a7 && isU4 a8 a9 a10 a11
def prePw : List F → Bool | [.agg [.int .u64 a0, .int .u64 a1, .int .u64 a2, .int .u64 a3, .int .u64 a4, .int .u64 a5, .int .u64 a6, .int .u64 a7, .int .u64 a8, .int .u64 a9, .int .u64 a10, .int .u64 a11]] => isPw a0 a1 a2 a3 a4 a5 a6 a7 a8 a9 a10 a11 | _ => false
def resSpotN : List F → F | [.agg [.int .u64 a0, .int .u64 a1, .int .u64 a2, .int .u64 a3, .int .u64 a4, .int .u64 a5, .int .u64 a6, .int .u64 a7, .int .u64 a8, .int .u64 a9, .int .u64 a10, .int .u64 a11]] => .agg [.bool (decide (wdsS a0 a1 a2 a3 < 0)), wordsF (digs 18446744073709551616 (wdsS a0 a1 a2 a3).natAbs), .bool (decide (wdsS a4 a5 a6 a7 < 0)), wordsF (digs 18446744073709551616 (wdsS a4 a5 a6 a7).natAbs), .bool (decide (wdsS a8 a9 a10 a11 < 0)), wordsF (digs 18446744073709551616 (wdsS a8 a9 a10 a11).natAbs)] | _ => .dflt
theorem okSpotN : PureOK Try.prog 131 prePw resSpotN :=
  fn_pure (c := bodyOf Try.f131) Try.func131 (by kernel_rfl) (by kernel_rfl) fun xs hp => match xs, hp with
  | [.agg [.int .u64 a0, .int .u64 a1, .int .u64 a2, .int .u64 a3, .int .u64 a4, .int .u64 a5, .int .u64 a6, .int .u64 a7, .int .u64 a8, .int .u64 a9, .int .u64 a10, .int .u64 a11]], hp => by
    simp only [prePw, isPw, Bool.and_eq_true] at hp
    exact t131 a0 a1 a2 a3 a4 a5 a6 a7 a8 a9 a10 a11 _ (by unfold G131 T131; rw [hp.1.1, hp.1.2, hp.2]; rfl)
def envH6 : Env := (envH5.add 56 (.pure preI2 resPtOf)).add 131 (.pure prePw resSpotN)
theorem envH6_ok : EnvOK Try.prog envH6 := (Env.add_ok (Env.add_ok envH5_ok okPtOf.sp) okSpotN.sp)
end
end Go.Proofs.Ytmambbfnjbdfgaa.R

namespace Go.Proofs.Ytmambbfnjbdfgaa.R
open Go
noncomputable section
set_option linter.unusedVariables false
set_option linter.unusedSimpArgs false
set_option maxRecDepth 100000
set_option maxHeartbeats 1000000
theorem wide_bound {z : Int} (h : isWide z = true) : z.natAbs < 18446744073709551616 ^ 4 := by
  have := isWide_iff.1 h
  have e : (18446744073709551616 : Nat) ^ 4 = 2 * 57896044618658097711785492504343953926634992332820282019728792003956564819968 := rfl
  omega
theorem resBy_num (x y : Int) : resBy [numF x, numF y] = numF (x * y) := by simp only [resBy, unNum_numF]
theorem resLess_num (x y : Int) : resLess2 [numF x, numF y] = numF (x - y) := by simp only [resLess2, unNum_numF]
theorem num_ok {z : Int} {n m : Nat} (h : z.natAbs < 18446744073709551616 ^ n) (hm : n ≤ m) : isNum m (numF z) = true := isNum_numF (bound_up h hm)
theorem pw_bounds {a0 a1 a2 a3 a4 a5 a6 a7 a8 a9 a10 a11 : Int} (h : isPw a0 a1 a2 a3 a4 a5 a6 a7 a8 a9 a10 a11 = true) : (wdsS a0 a1 a2 a3).natAbs < 18446744073709551616 ^ 4 ∧ (wdsS a4 a5 a6 a7).natAbs < 18446744073709551616 ^ 4 ∧ (wdsS a8 a9 a10 a11).natAbs < 18446744073709551616 ^ 4 := by
  simp only [isPw, Bool.and_eq_true] at h
  exact ⟨wide_bound (wdsS_bound h.1.1), wide_bound (wdsS_bound h.1.2), wide_bound (wdsS_bound h.2)⟩
/-! ### function 93 -/
def T93 {ρ : Type} (ret : (Int) → Option ρ) (a0 : Int) (a1 : Int) (a2 : Int) (a3 : Int) (a4 : Int) (a5 : Int) (a6 : Int) (a7 : Int) (a8 : Int) (a9 : Int) (a10 : Int) (a11 : Int) (b0 : Int) (b1 : Int) (b2 : Int) (b3 : Int) (b4 : Int) (b5 : Int) (b6 : Int) (b7 : Int) (b8 : Int) (b9 : Int) (b10 : Int) (b11 : Int) : Option ρ :=
 (bsel (a0 == b0 && (a1 == b1 && (a2 == b2 && (a3 == b3 && true))) && (a4 == b4 && (a5 == b5 && (a6 == b6 && (a7 == b7 && true))) && (a8 == b8 && (a9 == b9 && (a10 == b10 && (a11 == b11 && true))) && true)))
 (ret (0))
 (bsel (isPw a0 a1 a2 a3 a4 a5 a6 a7 a8 a9 a10 a11)
 (bsel (isPw b0 b1 b2 b3 b4 b5 b6 b7 b8 b9 b10 b11)
 (bsel (isNum 400 (numF (wdsS a0 a1 a2 a3)) && isNum 400 (numF (wdsS b8 b9 b10 b11)))
 (bsel (isNum 400 (numF (wdsS b0 b1 b2 b3)) && isNum 400 (numF (wdsS a8 a9 a10 a11)))
 (bsel (isNum 399 (resBy [numF (wdsS a0 a1 a2 a3), numF (wdsS b8 b9 b10 b11)]) && isNum 399 (resBy [numF (wdsS b0 b1 b2 b3), numF (wdsS a8 a9 a10 a11)]))
 (bsel ((unNum (resBy [numF (wdsS a0 a1 a2 a3), numF (wdsS b8 b9 b10 b11)]) - unNum (resBy [numF (wdsS b0 b1 b2 b3), numF (wdsS a8 a9 a10 a11)])).sign != 0)
 (ret ((unNum (resBy [numF (wdsS a0 a1 a2 a3), numF (wdsS b8 b9 b10 b11)]) - unNum (resBy [numF (wdsS b0 b1 b2 b3), numF (wdsS a8 a9 a10 a11)])).sign))
 (bsel (isNum 400 (numF (wdsS a4 a5 a6 a7)) && isNum 400 (numF (wdsS b8 b9 b10 b11)))
 (bsel (isNum 400 (numF (wdsS b4 b5 b6 b7)) && isNum 400 (numF (wdsS a8 a9 a10 a11)))
 (bsel (isNum 399 (resBy [numF (wdsS a4 a5 a6 a7), numF (wdsS b8 b9 b10 b11)]) && isNum 399 (resBy [numF (wdsS b4 b5 b6 b7), numF (wdsS a8 a9 a10 a11)]))
 (ret ((unNum (resBy [numF (wdsS a4 a5 a6 a7), numF (wdsS b8 b9 b10 b11)]) - unNum (resBy [numF (wdsS b4 b5 b6 b7), numF (wdsS a8 a9 a10 a11)])).sign))
 none)
 none)
 none))
 none)
 none)
 none)
 none)
 none))
def G93 (a0 : Int) (a1 : Int) (a2 : Int) (a3 : Int) (a4 : Int) (a5 : Int) (a6 : Int) (a7 : Int) (a8 : Int) (a9 : Int) (a10 : Int) (a11 : Int) (b0 : Int) (b1 : Int) (b2 : Int) (b3 : Int) (b4 : Int) (b5 : Int) (b6 : Int) (b7 : Int) (b8 : Int) (b9 : Int) (b10 : Int) (b11 : Int) : Option (Int) := T93 some a0 a1 a2 a3 a4 a5 a6 a7 a8 a9 a10 a11 b0 b1 b2 b3 b4 b5 b6 b7 b8 b9 b10 b11
theorem t93 (a0 : Int) (a1 : Int) (a2 : Int) (a3 : Int) (a4 : Int) (a5 : Int) (a6 : Int) (a7 : Int) (a8 : Int) (a9 : Int) (a10 : Int) (a11 : Int) (b0 : Int) (b1 : Int) (b2 : Int) (b3 : Int) (b4 : Int) (b5 : Int) (b6 : Int) (b7 : Int) (b8 : Int) (b9 : Int) (b10 : Int) (b11 : Int) (r : Int) (h : G93 a0 a1 a2 a3 a4 a5 a6 a7 a8 a9 a10 a11 b0 b1 b2 b3 b4 b5 b6 b7 b8 b9 b10 b11 = some r) : Ends Try.prog Try.f93.results.toList [.code (bodyOf Try.f93)] (start Try.f93.ntmps ([F.agg [F.int .u64 a0, F.int .u64 a1, F.int .u64 a2, F.int .u64 a3, F.int .u64 a4, F.int .u64 a5, F.int .u64 a6, F.int .u64 a7, F.int .u64 a8, F.int .u64 a9, F.int .u64 a10, F.int .u64 a11], F.agg [F.int .u64 b0, F.int .u64 b1, F.int .u64 b2, F.int .u64 b3, F.int .u64 b4, F.int .u64 b5, F.int .u64 b6, F.int .u64 b7, F.int .u64 b8, F.int .u64 b9, F.int .u64 b10, F.int .u64 b11]].map .f)) (F.int .i64 r) := by
  refine Ends.of_run tyOK envH6_ok (T := []) (n := 200) ?_
  have e : run Try.prog (tiOf Try.prog) envH6 [] 0 Try.f93.results.toList some 200 [.code (bodyOf Try.f93)] (start Try.f93.ntmps ([F.agg [F.int .u64 a0, F.int .u64 a1, F.int .u64 a2, F.int .u64 a3, F.int .u64 a4, F.int .u64 a5, F.int .u64 a6, F.int .u64 a7, F.int .u64 a8, F.int .u64 a9, F.int .u64 a10, F.int .u64 a11], F.agg [F.int .u64 b0, F.int .u64 b1, F.int .u64 b2, F.int .u64 b3, F.int .u64 b4, F.int .u64 b5, F.int .u64 b6, F.int .u64 b7, F.int .u64 b8, F.int .u64 b9, F.int .u64 b10, F.int .u64 b11]].map .f)) = T93 (fun r => some (.ret (F.int .i64 r))) a0 a1 a2 a3 a4 a5 a6 a7 a8 a9 a10 a11 b0 b1 b2 b3 b4 b5 b6 b7 b8 b9 b10 b11 := by kernel_rfl
  rw [e]
  exact (good_sel h (fun _ h => good_ret (by cases h; rfl)) (fun _ h => (good_sel h (fun _ h => (good_sel h (fun _ h => (good_sel h (fun _ h => (good_sel h (fun _ h => (good_sel h (fun _ h => (good_sel h (fun _ h => good_ret (by cases h; rfl)) (fun _ h => (good_sel h (fun _ h => (good_sel h (fun _ h => (good_sel h (fun _ h => good_ret (by cases h; rfl)) (fun _ h => nomatch h))) (fun _ h => nomatch h))) (fun _ h => nomatch h))))) (fun _ h => nomatch h))) (fun _ h => nomatch h))) (fun _ h => nomatch h))) (fun _ h => nomatch h))) (fun _ h => nomatch h))))
theorem cmpP_law {a0 a1 a2 a3 a4 a5 a6 a7 a8 a9 a10 a11 b0 b1 b2 b3 b4 b5 b6 b7 b8 b9 b10 b11 : Int} (ha : isPw a0 a1 a2 a3 a4 a5 a6 a7 a8 a9 a10 a11 = true) (hb : isPw b0 b1 b2 b3 b4 b5 b6 b7 b8 b9 b10 b11 = true) :
    G93 a0 a1 a2 a3 a4 a5 a6 a7 a8 a9 a10 a11 b0 b1 b2 b3 b4 b5 b6 b7 b8 b9 b10 b11 = some (cmp3V (wdsS a0 a1 a2 a3) (wdsS a4 a5 a6 a7) (wdsS a8 a9 a10 a11) (wdsS b0 b1 b2 b3) (wdsS b4 b5 b6 b7) (wdsS b8 b9 b10 b11)) := by
  obtain ⟨x1, x2, x3⟩ := pw_bounds ha
  obtain ⟨y1, y2, y3⟩ := pw_bounds hb
  unfold G93 T93
  simp only [ha, hb, resBy_num, unNum_numF, num_ok x1 (show 4 ≤ 400 by omega), num_ok x2 (show 4 ≤ 400 by omega), num_ok x3 (show 4 ≤ 400 by omega), num_ok y1 (show 4 ≤ 400 by omega), num_ok y2 (show 4 ≤ 400 by omega), num_ok y3 (show 4 ≤ 400 by omega),
    num_ok (mul_bound x1 y3) (show 4 + 4 ≤ 399 by omega), num_ok (mul_bound y1 x3) (show 4 + 4 ≤ 399 by omega), num_ok (mul_bound x2 y3) (show 4 + 4 ≤ 399 by omega), num_ok (mul_bound y2 x3) (show 4 + 4 ≤ 399 by omega), Bool.and_self, bsel_true]
  unfold cmp3V
  cases hc : (a0 == b0 && (a1 == b1 && (a2 == b2 && (a3 == b3 && true))) && (a4 == b4 && (a5 == b5 && (a6 == b6 && (a7 == b7 && true))) && (a8 == b8 && (a9 == b9 && (a10 == b10 && (a11 == b11 && true))) && true))) with
  | true =>
    simp only [Bool.and_eq_true, beq_iff_eq, Bool.and_true] at hc
    obtain ⟨⟨h0, h1, h2, h3⟩, ⟨h4, h5, h6, h7⟩, h8, h9, h10, h11⟩ := hc
    subst h0 h1 h2 h3 h4 h5 h6 h7 h8 h9 h10 h11
    rw [bsel_true, Int.sub_self, Int.sub_self]
    rfl
  | false =>
    rw [bsel_false]
    cases (wdsS a0 a1 a2 a3 * wdsS b8 b9 b10 b11 - wdsS b0 b1 b2 b3 * wdsS a8 a9 a10 a11).sign != 0 <;> rfl
def prePw2 : List F → Bool | [.agg [.int .u64 a0, .int .u64 a1, .int .u64 a2, .int .u64 a3, .int .u64 a4, .int .u64 a5, .int .u64 a6, .int .u64 a7, .int .u64 a8, .int .u64 a9, .int .u64 a10, .int .u64 a11], .agg [.int .u64 b0, .int .u64 b1, .int .u64 b2, .int .u64 b3, .int .u64 b4, .int .u64 b5, .int .u64 b6, .int .u64 b7, .int .u64 b8, .int .u64 b9, .int .u64 b10, .int .u64 b11]] => isPw a0 a1 a2 a3 a4 a5 a6 a7 a8 a9 a10 a11 && isPw b0 b1 b2 b3 b4 b5 b6 b7 b8 b9 b10 b11 | _ => false
def resCmpP : List F → F | [.agg [.int .u64 a0, .int .u64 a1, .int .u64 a2, .int .u64 a3, .int .u64 a4, .int .u64 a5, .int .u64 a6, .int .u64 a7, .int .u64 a8, .int .u64 a9, .int .u64 a10, .int .u64 a11], .agg [.int .u64 b0, .int .u64 b1, .int .u64 b2, .int .u64 b3, .int .u64 b4, .int .u64 b5, .int .u64 b6, .int .u64 b7, .int .u64 b8, .int .u64 b9, .int .u64 b10, .int .u64 b11]] => .int .i64 (cmp3V (wdsS a0 a1 a2 a3) (wdsS a4 a5 a6 a7) (wdsS a8 a9 a10 a11) (wdsS b0 b1 b2 b3) (wdsS b4 b5 b6 b7) (wdsS b8 b9 b10 b11)) | _ => .dflt
theorem okCmpP : PureOK Try.prog 93 prePw2 resCmpP :=
  fn_pure (c := bodyOf Try.f93) Try.func93 (by kernel_rfl) (by kernel_rfl) fun xs hp => match xs, hp with
  | [.agg [.int .u64 a0, .int .u64 a1, .int .u64 a2, .int .u64 a3, .int .u64 a4, .int .u64 a5, .int .u64 a6, .int .u64 a7, .int .u64 a8, .int .u64 a9, .int .u64 a10, .int .u64 a11], .agg [.int .u64 b0, .int .u64 b1, .int .u64 b2, .int .u64 b3, .int .u64 b4, .int .u64 b5, .int .u64 b6, .int .u64 b7, .int .u64 b8, .int .u64 b9, .int .u64 b10, .int .u64 b11]], hp => by
    simp only [prePw2, Bool.and_eq_true] at hp
    exact t93 a0 a1 a2 a3 a4 a5 a6 a7 a8 a9 a10 a11 b0 b1 b2 b3 b4 b5 b6 b7 b8 b9 b10 b11 _ (cmpP_law hp.1 hp.2)
/-! ### function 94 -/
def T94 {ρ : Type} (ret : (Int) → Option ρ) (x0 : Int) (y0 : Int) (x1 : Int) (y1 : Int) (a0 : Int) (a1 : Int) (a2 : Int) (a3 : Int) (a4 : Int) (a5 : Int) (a6 : Int) (a7 : Int) (a8 : Int) (a9 : Int) (a10 : Int) (a11 : Int) : Option ρ :=
 (bsel (isPw a0 a1 a2 a3 a4 a5 a6 a7 a8 a9 a10 a11)
 (bsel (isI64 x0)
 (bsel (isNum 400 (resWhole [F.int .i64 x0]) && isNum 400 (numF (wdsS a8 a9 a10 a11)))
 (bsel (isNum 400 (numF (wdsS a0 a1 a2 a3)) && isNum 400 (resBy [resWhole [F.int .i64 x0], numF (wdsS a8 a9 a10 a11)]))
 (bsel (isI64 y0)
 (bsel (isNum 400 (resWhole [F.int .i64 y0]) && isNum 400 (numF (wdsS a8 a9 a10 a11)))
 (bsel (isNum 400 (numF (wdsS a4 a5 a6 a7)) && isNum 400 (resBy [resWhole [F.int .i64 y0], numF (wdsS a8 a9 a10 a11)]))
 (bsel (isI64 (IntKind.i64.wrap (x1 - x0)))
 (bsel (isNum 400 (resWhole [F.int .i64 (IntKind.i64.wrap (x1 - x0))]) && isNum 400 (numF (unNum (numF (wdsS a4 a5 a6 a7)) - unNum (resBy [resWhole [F.int .i64 y0], numF (wdsS a8 a9 a10 a11)]))))
 (bsel (isI64 (IntKind.i64.wrap (y1 - y0)))
 (bsel (isNum 400 (resWhole [F.int .i64 (IntKind.i64.wrap (y1 - y0))]) && isNum 400 (numF (unNum (numF (wdsS a0 a1 a2 a3)) - unNum (resBy [resWhole [F.int .i64 x0], numF (wdsS a8 a9 a10 a11)]))))
 (bsel (isNum 400 (resBy [resWhole [F.int .i64 (IntKind.i64.wrap (x1 - x0))], numF (unNum (numF (wdsS a4 a5 a6 a7)) - unNum (resBy [resWhole [F.int .i64 y0], numF (wdsS a8 a9 a10 a11)]))]) && isNum 400 (resBy [resWhole [F.int .i64 (IntKind.i64.wrap (y1 - y0))], numF (unNum (numF (wdsS a0 a1 a2 a3)) - unNum (resBy [resWhole [F.int .i64 x0], numF (wdsS a8 a9 a10 a11)]))]))
 (bsel (isNum 400 (resLess2 [resBy [resWhole [F.int .i64 (IntKind.i64.wrap (x1 - x0))], numF (unNum (numF (wdsS a4 a5 a6 a7)) - unNum (resBy [resWhole [F.int .i64 y0], numF (wdsS a8 a9 a10 a11)]))], resBy [resWhole [F.int .i64 (IntKind.i64.wrap (y1 - y0))], numF (unNum (numF (wdsS a0 a1 a2 a3)) - unNum (resBy [resWhole [F.int .i64 x0], numF (wdsS a8 a9 a10 a11)]))]]))
 (ret ((unNum (resLess2 [resBy [resWhole [F.int .i64 (IntKind.i64.wrap (x1 - x0))], numF (unNum (numF (wdsS a4 a5 a6 a7)) - unNum (resBy [resWhole [F.int .i64 y0], numF (wdsS a8 a9 a10 a11)]))], resBy [resWhole [F.int .i64 (IntKind.i64.wrap (y1 - y0))], numF (unNum (numF (wdsS a0 a1 a2 a3)) - unNum (resBy [resWhole [F.int .i64 x0], numF (wdsS a8 a9 a10 a11)]))]])).sign))
 none)
 none)
 none)
 none)
 none)
 none)
 none)
 none)
 none)
 none)
 none)
 none)
 none)
def G94 (x0 : Int) (y0 : Int) (x1 : Int) (y1 : Int) (a0 : Int) (a1 : Int) (a2 : Int) (a3 : Int) (a4 : Int) (a5 : Int) (a6 : Int) (a7 : Int) (a8 : Int) (a9 : Int) (a10 : Int) (a11 : Int) : Option (Int) := T94 some x0 y0 x1 y1 a0 a1 a2 a3 a4 a5 a6 a7 a8 a9 a10 a11
theorem t94 (x0 : Int) (y0 : Int) (x1 : Int) (y1 : Int) (a0 : Int) (a1 : Int) (a2 : Int) (a3 : Int) (a4 : Int) (a5 : Int) (a6 : Int) (a7 : Int) (a8 : Int) (a9 : Int) (a10 : Int) (a11 : Int) (r : Int) (h : G94 x0 y0 x1 y1 a0 a1 a2 a3 a4 a5 a6 a7 a8 a9 a10 a11 = some r) : Ends Try.prog Try.f94.results.toList [.code (bodyOf Try.f94)] (start Try.f94.ntmps ([F.agg [F.int .i64 x0, F.int .i64 y0, F.int .i64 x1, F.int .i64 y1], F.agg [F.int .u64 a0, F.int .u64 a1, F.int .u64 a2, F.int .u64 a3, F.int .u64 a4, F.int .u64 a5, F.int .u64 a6, F.int .u64 a7, F.int .u64 a8, F.int .u64 a9, F.int .u64 a10, F.int .u64 a11]].map .f)) (F.int .i64 r) := by
  refine Ends.of_run tyOK envH6_ok (T := []) (n := 200) ?_
  have e : run Try.prog (tiOf Try.prog) envH6 [] 0 Try.f94.results.toList some 200 [.code (bodyOf Try.f94)] (start Try.f94.ntmps ([F.agg [F.int .i64 x0, F.int .i64 y0, F.int .i64 x1, F.int .i64 y1], F.agg [F.int .u64 a0, F.int .u64 a1, F.int .u64 a2, F.int .u64 a3, F.int .u64 a4, F.int .u64 a5, F.int .u64 a6, F.int .u64 a7, F.int .u64 a8, F.int .u64 a9, F.int .u64 a10, F.int .u64 a11]].map .f)) = T94 (fun r => some (.ret (F.int .i64 r))) x0 y0 x1 y1 a0 a1 a2 a3 a4 a5 a6 a7 a8 a9 a10 a11 := by kernel_rfl
  rw [e]
  exact (good_sel h (fun _ h => (good_sel h (fun _ h => (good_sel h (fun _ h => (good_sel h (fun _ h => (good_sel h (fun _ h => (good_sel h (fun _ h => (good_sel h (fun _ h => (good_sel h (fun _ h => (good_sel h (fun _ h => (good_sel h (fun _ h => (good_sel h (fun _ h => (good_sel h (fun _ h => (good_sel h (fun _ h => good_ret (by cases h; rfl)) (fun _ h => nomatch h))) (fun _ h => nomatch h))) (fun _ h => nomatch h))) (fun _ h => nomatch h))) (fun _ h => nomatch h))) (fun _ h => nomatch h))) (fun _ h => nomatch h))) (fun _ h => nomatch h))) (fun _ h => nomatch h))) (fun _ h => nomatch h))) (fun _ h => nomatch h))) (fun _ h => nomatch h))) (fun _ h => nomatch h))
def sideZ (x0 y0 x1 y1 px py pw : Int) : Int := (x1 - x0) * (py - y0 * pw) - (y1 - y0) * (px - x0 * pw)
theorem sub_bound2 {x y : Int} {n m : Nat} (hx : x.natAbs < 18446744073709551616 ^ n) (hy : y.natAbs < 18446744073709551616 ^ m) : (x - y).natAbs < 18446744073709551616 ^ (n + m + 1) := by
  have := sub_bound (bound_up hx (show n ≤ n + m by omega)) (bound_up hy (show m ≤ n + m by omega))
  exact this
theorem sideOf_law {x0 y0 x1 y1 a0 a1 a2 a3 a4 a5 a6 a7 a8 a9 a10 a11 : Int} (h0 : spotIn x0 y0) (h1 : spotIn x1 y1) (ha : isPw a0 a1 a2 a3 a4 a5 a6 a7 a8 a9 a10 a11 = true) :
    G94 x0 y0 x1 y1 a0 a1 a2 a3 a4 a5 a6 a7 a8 a9 a10 a11 = some (sideZ x0 y0 x1 y1 (wdsS a0 a1 a2 a3) (wdsS a4 a5 a6 a7) (wdsS a8 a9 a10 a11)).sign := by
  obtain ⟨p1, p2, p3⟩ := pw_bounds ha
  unfold spotIn at h0 h1
  have w1 : IntKind.i64.wrap (x1 - x0) = x1 - x0 := wrapI (by omega) (by omega)
  have w2 : IntKind.i64.wrap (y1 - y0) = y1 - y0 := wrapI (by omega) (by omega)
  have i1 : isI64 x0 = true := isI64_iff.2 (by omega)
  have i2 : isI64 y0 = true := isI64_iff.2 (by omega)
  have i3 : isI64 (x1 - x0) = true := isI64_iff.2 (by omega)
  have i4 : isI64 (y1 - y0) = true := isI64_iff.2 (by omega)
  have b1 : x0.natAbs < 18446744073709551616 ^ 1 := by rw [Nat.pow_one]; omega
  have b2 : y0.natAbs < 18446744073709551616 ^ 1 := by rw [Nat.pow_one]; omega
  have b3 : (x1 - x0).natAbs < 18446744073709551616 ^ 1 := by rw [Nat.pow_one]; omega
  have b4 : (y1 - y0).natAbs < 18446744073709551616 ^ 1 := by rw [Nat.pow_one]; omega
  have r : ∀ n : Int, resWhole [F.int .i64 n] = numF n := fun _ => rfl
  have m1 := mul_bound b1 p3
  have m2 := mul_bound b2 p3
  have s1 := sub_bound2 p1 m1
  have s2 := sub_bound2 p2 m2
  have t1 := mul_bound b3 s2
  have t2 := mul_bound b4 s1
  have u1 := sub_bound2 t1 t2
  unfold G94 T94
  simp only [ha, w1, w2, i1, i2, i3, i4, r, resBy_num, resLess_num, unNum_numF, num_ok b1 (show 1 ≤ 400 by omega), num_ok b2 (show 1 ≤ 400 by omega), num_ok b3 (show 1 ≤ 400 by omega), num_ok b4 (show 1 ≤ 400 by omega), num_ok p1 (show 4 ≤ 400 by omega), num_ok p2 (show 4 ≤ 400 by omega), num_ok p3 (show 4 ≤ 400 by omega),
    num_ok m1 (show 1 + 4 ≤ 400 by omega), num_ok m2 (show 1 + 4 ≤ 400 by omega), num_ok s1 (show 4 + (1 + 4) + 1 ≤ 400 by omega), num_ok s2 (show 4 + (1 + 4) + 1 ≤ 400 by omega), num_ok t1 (show 1 + (4 + (1 + 4) + 1) ≤ 400 by omega), num_ok t2 (show 1 + (4 + (1 + 4) + 1) ≤ 400 by omega), num_ok u1 (show 1 + (4 + (1 + 4) + 1) + (1 + (4 + (1 + 4) + 1)) + 1 ≤ 400 by omega), Bool.and_self, bsel_true]
  rfl
def isSide (x0 y0 x1 y1 : Int) : Bool := isCoord x0 && isCoord y0 && (isCoord x1 && isCoord y1)
theorem isSide_iff {x0 y0 x1 y1 : Int} : isSide x0 y0 x1 y1 = true ↔ spotIn x0 y0 ∧ spotIn x1 y1 := by
  simp only [isSide, isCoord, spotIn, Bool.and_eq_true, decide_eq_true_eq, and_assoc]
def preSide : List F → Bool | [.agg [.int .i64 x0, .int .i64 y0, .int .i64 x1, .int .i64 y1], .agg [.int .u64 a0, .int .u64 a1, .int .u64 a2, .int .u64 a3, .int .u64 a4, .int .u64 a5, .int .u64 a6, .int .u64 a7, .int .u64 a8, .int .u64 a9, .int .u64 a10, .int .u64 a11]] => isSide x0 y0 x1 y1 && isPw a0 a1 a2 a3 a4 a5 a6 a7 a8 a9 a10 a11 | _ => false
def resSide : List F → F | [.agg [.int .i64 x0, .int .i64 y0, .int .i64 x1, .int .i64 y1], .agg [.int .u64 a0, .int .u64 a1, .int .u64 a2, .int .u64 a3, .int .u64 a4, .int .u64 a5, .int .u64 a6, .int .u64 a7, .int .u64 a8, .int .u64 a9, .int .u64 a10, .int .u64 a11]] => .int .i64 (sideZ x0 y0 x1 y1 (wdsS a0 a1 a2 a3) (wdsS a4 a5 a6 a7) (wdsS a8 a9 a10 a11)).sign | _ => .dflt
theorem okSide : PureOK Try.prog 94 preSide resSide :=
  fn_pure (c := bodyOf Try.f94) Try.func94 (by kernel_rfl) (by kernel_rfl) fun xs hp => match xs, hp with
  | [.agg [.int .i64 x0, .int .i64 y0, .int .i64 x1, .int .i64 y1], .agg [.int .u64 a0, .int .u64 a1, .int .u64 a2, .int .u64 a3, .int .u64 a4, .int .u64 a5, .int .u64 a6, .int .u64 a7, .int .u64 a8, .int .u64 a9, .int .u64 a10, .int .u64 a11]], hp => by
    simp only [preSide, Bool.and_eq_true] at hp
    exact t94 x0 y0 x1 y1 a0 a1 a2 a3 a4 a5 a6 a7 a8 a9 a10 a11 _ (sideOf_law (isSide_iff.1 hp.1).1 (isSide_iff.1 hp.1).2 hp.2)
/-! ### function 99 -/
def T99 {ρ : Type} (ret : (F) → Option ρ) (x : Int) (y : Int) (w : Int) : Option ρ :=
 (bsel (isNum 400 (numF w))
 (bsel ((unNum (numF w)).sign == 0)
 (ret (F.tup [F.agg [F.int .u64 0, F.int .u64 0, F.int .u64 0, F.int .u64 0, F.int .u64 0, F.int .u64 0, F.int .u64 0, F.int .u64 0, F.int .u64 0, F.int .u64 0, F.int .u64 0, F.int .u64 0], F.bool false]))
 (bsel (isNums 400 (F.sl 3 (lget [numF x, numF y, numF w])) && gcdOk (unNums (F.sl 3 (lget [numF x, numF y, numF w]))))
 (bsel (decide (w < 0))
 (bsel (isNum 400 (numF (↑(gcdFrom 0 (unNums (F.sl 3 (lget [numF x, numF y, numF w])))) : Int)))
 (bsel (isNum 399 (numF x) && isNum 399 (numF (-unNum (numF (↑(gcdFrom 0 (unNums (F.sl 3 (lget [numF x, numF y, numF w])))) : Int)))) && overOk (unNum (numF x)) (unNum (numF (-unNum (numF (↑(gcdFrom 0 (unNums (F.sl 3 (lget [numF x, numF y, numF w])))) : Int))))))
 (bsel (isNum 399 (numF y) && isNum 399 (numF (-unNum (numF (↑(gcdFrom 0 (unNums (F.sl 3 (lget [numF x, numF y, numF w])))) : Int)))) && overOk (unNum (numF y)) (unNum (numF (-unNum (numF (↑(gcdFrom 0 (unNums (F.sl 3 (lget [numF x, numF y, numF w])))) : Int))))))
 (bsel (isNum 399 (numF w) && isNum 399 (numF (-unNum (numF (↑(gcdFrom 0 (unNums (F.sl 3 (lget [numF x, numF y, numF w])))) : Int)))) && overOk (unNum (numF w)) (unNum (numF (-unNum (numF (↑(gcdFrom 0 (unNums (F.sl 3 (lget [numF x, numF y, numF w])))) : Int))))))
 (bsel (isNum 400 (numF (unNum (numF x) / unNum (numF (-unNum (numF (↑(gcdFrom 0 (unNums (F.sl 3 (lget [numF x, numF y, numF w])))) : Int)))))))
 (bsel (isNum 400 (numF (unNum (numF y) / unNum (numF (-unNum (numF (↑(gcdFrom 0 (unNums (F.sl 3 (lget [numF x, numF y, numF w])))) : Int)))))))
 (bsel (isNum 400 (numF (unNum (numF w) / unNum (numF (-unNum (numF (↑(gcdFrom 0 (unNums (F.sl 3 (lget [numF x, numF y, numF w])))) : Int)))))))
 (bsel (decide ((if true = true then if (↑(Go.Proofs.Ytmambbfnjbdfgaa.R.bitLen (unNum (numF (unNum (numF w) / unNum (numF (-unNum (numF (↑(gcdFrom 0 (unNums (F.sl 3 (lget [numF x, numF y, numF w])))) : Int))))))).natAbs) : Int) > if true = true then if (↑(Go.Proofs.Ytmambbfnjbdfgaa.R.bitLen (unNum (numF (unNum (numF y) / unNum (numF (-unNum (numF (↑(gcdFrom 0 (unNums (F.sl 3 (lget [numF x, numF y, numF w])))) : Int))))))).natAbs) : Int) > (↑(Go.Proofs.Ytmambbfnjbdfgaa.R.bitLen (unNum (numF (unNum (numF x) / unNum (numF (-unNum (numF (↑(gcdFrom 0 (unNums (F.sl 3 (lget [numF x, numF y, numF w])))) : Int))))))).natAbs) : Int) then (↑(Go.Proofs.Ytmambbfnjbdfgaa.R.bitLen (unNum (numF (unNum (numF y) / unNum (numF (-unNum (numF (↑(gcdFrom 0 (unNums (F.sl 3 (lget [numF x, numF y, numF w])))) : Int))))))).natAbs) : Int) else (↑(Go.Proofs.Ytmambbfnjbdfgaa.R.bitLen (unNum (numF (unNum (numF x) / unNum (numF (-unNum (numF (↑(gcdFrom 0 (unNums (F.sl 3 (lget [numF x, numF y, numF w])))) : Int))))))).natAbs) : Int) else if (↑(Go.Proofs.Ytmambbfnjbdfgaa.R.bitLen (unNum (numF (unNum (numF y) / unNum (numF (-unNum (numF (↑(gcdFrom 0 (unNums (F.sl 3 (lget [numF x, numF y, numF w])))) : Int))))))).natAbs) : Int) < (↑(Go.Proofs.Ytmambbfnjbdfgaa.R.bitLen (unNum (numF (unNum (numF x) / unNum (numF (-unNum (numF (↑(gcdFrom 0 (unNums (F.sl 3 (lget [numF x, numF y, numF w])))) : Int))))))).natAbs) : Int) then (↑(Go.Proofs.Ytmambbfnjbdfgaa.R.bitLen (unNum (numF (unNum (numF y) / unNum (numF (-unNum (numF (↑(gcdFrom 0 (unNums (F.sl 3 (lget [numF x, numF y, numF w])))) : Int))))))).natAbs) : Int) else (↑(Go.Proofs.Ytmambbfnjbdfgaa.R.bitLen (unNum (numF (unNum (numF x) / unNum (numF (-unNum (numF (↑(gcdFrom 0 (unNums (F.sl 3 (lget [numF x, numF y, numF w])))) : Int))))))).natAbs) : Int) then (↑(Go.Proofs.Ytmambbfnjbdfgaa.R.bitLen (unNum (numF (unNum (numF w) / unNum (numF (-unNum (numF (↑(gcdFrom 0 (unNums (F.sl 3 (lget [numF x, numF y, numF w])))) : Int))))))).natAbs) : Int) else if true = true then if (↑(Go.Proofs.Ytmambbfnjbdfgaa.R.bitLen (unNum (numF (unNum (numF y) / unNum (numF (-unNum (numF (↑(gcdFrom 0 (unNums (F.sl 3 (lget [numF x, numF y, numF w])))) : Int))))))).natAbs) : Int) > (↑(Go.Proofs.Ytmambbfnjbdfgaa.R.bitLen (unNum (numF (unNum (numF x) / unNum (numF (-unNum (numF (↑(gcdFrom 0 (unNums (F.sl 3 (lget [numF x, numF y, numF w])))) : Int))))))).natAbs) : Int) then (↑(Go.Proofs.Ytmambbfnjbdfgaa.R.bitLen (unNum (numF (unNum (numF y) / unNum (numF (-unNum (numF (↑(gcdFrom 0 (unNums (F.sl 3 (lget [numF x, numF y, numF w])))) : Int))))))).natAbs) : Int) else (↑(Go.Proofs.Ytmambbfnjbdfgaa.R.bitLen (unNum (numF (unNum (numF x) / unNum (numF (-unNum (numF (↑(gcdFrom 0 (unNums (F.sl 3 (lget [numF x, numF y, numF w])))) : Int))))))).natAbs) : Int) else if (↑(Go.Proofs.Ytmambbfnjbdfgaa.R.bitLen (unNum (numF (unNum (numF y) / unNum (numF (-unNum (numF (↑(gcdFrom 0 (unNums (F.sl 3 (lget [numF x, numF y, numF w])))) : Int))))))).natAbs) : Int) < (↑(Go.Proofs.Ytmambbfnjbdfgaa.R.bitLen (unNum (numF (unNum (numF x) / unNum (numF (-unNum (numF (↑(gcdFrom 0 (unNums (F.sl 3 (lget [numF x, numF y, numF w])))) : Int))))))).natAbs) : Int) then (↑(Go.Proofs.Ytmambbfnjbdfgaa.R.bitLen (unNum (numF (unNum (numF y) / unNum (numF (-unNum (numF (↑(gcdFrom 0 (unNums (F.sl 3 (lget [numF x, numF y, numF w])))) : Int))))))).natAbs) : Int) else (↑(Go.Proofs.Ytmambbfnjbdfgaa.R.bitLen (unNum (numF (unNum (numF x) / unNum (numF (-unNum (numF (↑(gcdFrom 0 (unNums (F.sl 3 (lget [numF x, numF y, numF w])))) : Int))))))).natAbs) : Int) else if (↑(Go.Proofs.Ytmambbfnjbdfgaa.R.bitLen (unNum (numF (unNum (numF w) / unNum (numF (-unNum (numF (↑(gcdFrom 0 (unNums (F.sl 3 (lget [numF x, numF y, numF w])))) : Int))))))).natAbs) : Int) < if true = true then if (↑(Go.Proofs.Ytmambbfnjbdfgaa.R.bitLen (unNum (numF (unNum (numF y) / unNum (numF (-unNum (numF (↑(gcdFrom 0 (unNums (F.sl 3 (lget [numF x, numF y, numF w])))) : Int))))))).natAbs) : Int) > (↑(Go.Proofs.Ytmambbfnjbdfgaa.R.bitLen (unNum (numF (unNum (numF x) / unNum (numF (-unNum (numF (↑(gcdFrom 0 (unNums (F.sl 3 (lget [numF x, numF y, numF w])))) : Int))))))).natAbs) : Int) then (↑(Go.Proofs.Ytmambbfnjbdfgaa.R.bitLen (unNum (numF (unNum (numF y) / unNum (numF (-unNum (numF (↑(gcdFrom 0 (unNums (F.sl 3 (lget [numF x, numF y, numF w])))) : Int))))))).natAbs) : Int) else (↑(Go.Proofs.Ytmambbfnjbdfgaa.R.bitLen (unNum (numF (unNum (numF x) / unNum (numF (-unNum (numF (↑(gcdFrom 0 (unNums (F.sl 3 (lget [numF x, numF y, numF w])))) : Int))))))).natAbs) : Int) else if (↑(Go.Proofs.Ytmambbfnjbdfgaa.R.bitLen (unNum (numF (unNum (numF y) / unNum (numF (-unNum (numF (↑(gcdFrom 0 (unNums (F.sl 3 (lget [numF x, numF y, numF w])))) : Int))))))).natAbs) : Int) < (↑(Go.Proofs.Ytmambbfnjbdfgaa.R.bitLen (unNum (numF (unNum (numF x) / unNum (numF (-unNum (numF (↑(gcdFrom 0 (unNums (F.sl 3 (lget [numF x, numF y, numF w])))) : Int))))))).natAbs) : Int) then (↑(Go.Proofs.Ytmambbfnjbdfgaa.R.bitLen (unNum (numF (unNum (numF y) / unNum (numF (-unNum (numF (↑(gcdFrom 0 (unNums (F.sl 3 (lget [numF x, numF y, numF w])))) : Int))))))).natAbs) : Int) else (↑(Go.Proofs.Ytmambbfnjbdfgaa.R.bitLen (unNum (numF (unNum (numF x) / unNum (numF (-unNum (numF (↑(gcdFrom 0 (unNums (F.sl 3 (lget [numF x, numF y, numF w])))) : Int))))))).natAbs) : Int) then (↑(Go.Proofs.Ytmambbfnjbdfgaa.R.bitLen (unNum (numF (unNum (numF w) / unNum (numF (-unNum (numF (↑(gcdFrom 0 (unNums (F.sl 3 (lget [numF x, numF y, numF w])))) : Int))))))).natAbs) : Int) else if true = true then if (↑(Go.Proofs.Ytmambbfnjbdfgaa.R.bitLen (unNum (numF (unNum (numF y) / unNum (numF (-unNum (numF (↑(gcdFrom 0 (unNums (F.sl 3 (lget [numF x, numF y, numF w])))) : Int))))))).natAbs) : Int) > (↑(Go.Proofs.Ytmambbfnjbdfgaa.R.bitLen (unNum (numF (unNum (numF x) / unNum (numF (-unNum (numF (↑(gcdFrom 0 (unNums (F.sl 3 (lget [numF x, numF y, numF w])))) : Int))))))).natAbs) : Int) then (↑(Go.Proofs.Ytmambbfnjbdfgaa.R.bitLen (unNum (numF (unNum (numF y) / unNum (numF (-unNum (numF (↑(gcdFrom 0 (unNums (F.sl 3 (lget [numF x, numF y, numF w])))) : Int))))))).natAbs) : Int) else (↑(Go.Proofs.Ytmambbfnjbdfgaa.R.bitLen (unNum (numF (unNum (numF x) / unNum (numF (-unNum (numF (↑(gcdFrom 0 (unNums (F.sl 3 (lget [numF x, numF y, numF w])))) : Int))))))).natAbs) : Int) else if (↑(Go.Proofs.Ytmambbfnjbdfgaa.R.bitLen (unNum (numF (unNum (numF y) / unNum (numF (-unNum (numF (↑(gcdFrom 0 (unNums (F.sl 3 (lget [numF x, numF y, numF w])))) : Int))))))).natAbs) : Int) < (↑(Go.Proofs.Ytmambbfnjbdfgaa.R.bitLen (unNum (numF (unNum (numF x) / unNum (numF (-unNum (numF (↑(gcdFrom 0 (unNums (F.sl 3 (lget [numF x, numF y, numF w])))) : Int))))))).natAbs) : Int) then (↑(Go.Proofs.Ytmambbfnjbdfgaa.R.bitLen (unNum (numF (unNum (numF y) / unNum (numF (-unNum (numF (↑(gcdFrom 0 (unNums (F.sl 3 (lget [numF x, numF y, numF w])))) : Int))))))).natAbs) : Int) else (↑(Go.Proofs.Ytmambbfnjbdfgaa.R.bitLen (unNum (numF (unNum (numF x) / unNum (numF (-unNum (numF (↑(gcdFrom 0 (unNums (F.sl 3 (lget [numF x, numF y, numF w])))) : Int))))))).natAbs) : Int)) > 80))
 (ret (F.tup [F.agg [F.int .u64 0, F.int .u64 0, F.int .u64 0, F.int .u64 0, F.int .u64 0, F.int .u64 0, F.int .u64 0, F.int .u64 0, F.int .u64 0, F.int .u64 0, F.int .u64 0, F.int .u64 0], F.bool false]))
 (bsel (isNum 399 (numF (unNum (numF x) / unNum (numF (-unNum (numF (↑(gcdFrom 0 (unNums (F.sl 3 (lget [numF x, numF y, numF w])))) : Int)))))))
 (bsel (isNum 399 (numF (unNum (numF y) / unNum (numF (-unNum (numF (↑(gcdFrom 0 (unNums (F.sl 3 (lget [numF x, numF y, numF w])))) : Int)))))))
 (bsel (isNum 399 (numF (unNum (numF w) / unNum (numF (-unNum (numF (↑(gcdFrom 0 (unNums (F.sl 3 (lget [numF x, numF y, numF w])))) : Int)))))))
 (ret (F.tup [F.agg [F.int .u64 (wd3 (unNum (numF (unNum (numF x) / unNum (numF (-unNum (numF (↑(gcdFrom 0 (unNums (F.sl 3 (lget [numF x, numF y, numF w])))) : Int)))))))), F.int .u64 (wd2 (unNum (numF (unNum (numF x) / unNum (numF (-unNum (numF (↑(gcdFrom 0 (unNums (F.sl 3 (lget [numF x, numF y, numF w])))) : Int)))))))), F.int .u64 (wd1 (unNum (numF (unNum (numF x) / unNum (numF (-unNum (numF (↑(gcdFrom 0 (unNums (F.sl 3 (lget [numF x, numF y, numF w])))) : Int)))))))), F.int .u64 (wd0 (unNum (numF (unNum (numF x) / unNum (numF (-unNum (numF (↑(gcdFrom 0 (unNums (F.sl 3 (lget [numF x, numF y, numF w])))) : Int)))))))), F.int .u64 (wd3 (unNum (numF (unNum (numF y) / unNum (numF (-unNum (numF (↑(gcdFrom 0 (unNums (F.sl 3 (lget [numF x, numF y, numF w])))) : Int)))))))), F.int .u64 (wd2 (unNum (numF (unNum (numF y) / unNum (numF (-unNum (numF (↑(gcdFrom 0 (unNums (F.sl 3 (lget [numF x, numF y, numF w])))) : Int)))))))), F.int .u64 (wd1 (unNum (numF (unNum (numF y) / unNum (numF (-unNum (numF (↑(gcdFrom 0 (unNums (F.sl 3 (lget [numF x, numF y, numF w])))) : Int)))))))), F.int .u64 (wd0 (unNum (numF (unNum (numF y) / unNum (numF (-unNum (numF (↑(gcdFrom 0 (unNums (F.sl 3 (lget [numF x, numF y, numF w])))) : Int)))))))), F.int .u64 (wd3 (unNum (numF (unNum (numF w) / unNum (numF (-unNum (numF (↑(gcdFrom 0 (unNums (F.sl 3 (lget [numF x, numF y, numF w])))) : Int)))))))), F.int .u64 (wd2 (unNum (numF (unNum (numF w) / unNum (numF (-unNum (numF (↑(gcdFrom 0 (unNums (F.sl 3 (lget [numF x, numF y, numF w])))) : Int)))))))), F.int .u64 (wd1 (unNum (numF (unNum (numF w) / unNum (numF (-unNum (numF (↑(gcdFrom 0 (unNums (F.sl 3 (lget [numF x, numF y, numF w])))) : Int)))))))), F.int .u64 (wd0 (unNum (numF (unNum (numF w) / unNum (numF (-unNum (numF (↑(gcdFrom 0 (unNums (F.sl 3 (lget [numF x, numF y, numF w])))) : Int))))))))], F.bool true]))
 none)
 none)
 none))
 none)
 none)
 none)
 none)
 none)
 none)
 none)
 (bsel (isNum 399 (numF x) && isNum 399 (numF (↑(gcdFrom 0 (unNums (F.sl 3 (lget [numF x, numF y, numF w])))) : Int)) && overOk (unNum (numF x)) (unNum (numF (↑(gcdFrom 0 (unNums (F.sl 3 (lget [numF x, numF y, numF w])))) : Int))))
 (bsel (isNum 399 (numF y) && isNum 399 (numF (↑(gcdFrom 0 (unNums (F.sl 3 (lget [numF x, numF y, numF w])))) : Int)) && overOk (unNum (numF y)) (unNum (numF (↑(gcdFrom 0 (unNums (F.sl 3 (lget [numF x, numF y, numF w])))) : Int))))
 (bsel (isNum 399 (numF w) && isNum 399 (numF (↑(gcdFrom 0 (unNums (F.sl 3 (lget [numF x, numF y, numF w])))) : Int)) && overOk (unNum (numF w)) (unNum (numF (↑(gcdFrom 0 (unNums (F.sl 3 (lget [numF x, numF y, numF w])))) : Int))))
 (bsel (isNum 400 (numF (unNum (numF x) / unNum (numF (↑(gcdFrom 0 (unNums (F.sl 3 (lget [numF x, numF y, numF w])))) : Int)))))
 (bsel (isNum 400 (numF (unNum (numF y) / unNum (numF (↑(gcdFrom 0 (unNums (F.sl 3 (lget [numF x, numF y, numF w])))) : Int)))))
 (bsel (isNum 400 (numF (unNum (numF w) / unNum (numF (↑(gcdFrom 0 (unNums (F.sl 3 (lget [numF x, numF y, numF w])))) : Int)))))
 (bsel (decide ((if true = true then if (↑(Go.Proofs.Ytmambbfnjbdfgaa.R.bitLen (unNum (numF (unNum (numF w) / unNum (numF (↑(gcdFrom 0 (unNums (F.sl 3 (lget [numF x, numF y, numF w])))) : Int))))).natAbs) : Int) > if true = true then if (↑(Go.Proofs.Ytmambbfnjbdfgaa.R.bitLen (unNum (numF (unNum (numF y) / unNum (numF (↑(gcdFrom 0 (unNums (F.sl 3 (lget [numF x, numF y, numF w])))) : Int))))).natAbs) : Int) > (↑(Go.Proofs.Ytmambbfnjbdfgaa.R.bitLen (unNum (numF (unNum (numF x) / unNum (numF (↑(gcdFrom 0 (unNums (F.sl 3 (lget [numF x, numF y, numF w])))) : Int))))).natAbs) : Int) then (↑(Go.Proofs.Ytmambbfnjbdfgaa.R.bitLen (unNum (numF (unNum (numF y) / unNum (numF (↑(gcdFrom 0 (unNums (F.sl 3 (lget [numF x, numF y, numF w])))) : Int))))).natAbs) : Int) else (↑(Go.Proofs.Ytmambbfnjbdfgaa.R.bitLen (unNum (numF (unNum (numF x) / unNum (numF (↑(gcdFrom 0 (unNums (F.sl 3 (lget [numF x, numF y, numF w])))) : Int))))).natAbs) : Int) else if (↑(Go.Proofs.Ytmambbfnjbdfgaa.R.bitLen (unNum (numF (unNum (numF y) / unNum (numF (↑(gcdFrom 0 (unNums (F.sl 3 (lget [numF x, numF y, numF w])))) : Int))))).natAbs) : Int) < (↑(Go.Proofs.Ytmambbfnjbdfgaa.R.bitLen (unNum (numF (unNum (numF x) / unNum (numF (↑(gcdFrom 0 (unNums (F.sl 3 (lget [numF x, numF y, numF w])))) : Int))))).natAbs) : Int) then (↑(Go.Proofs.Ytmambbfnjbdfgaa.R.bitLen (unNum (numF (unNum (numF y) / unNum (numF (↑(gcdFrom 0 (unNums (F.sl 3 (lget [numF x, numF y, numF w])))) : Int))))).natAbs) : Int) else (↑(Go.Proofs.Ytmambbfnjbdfgaa.R.bitLen (unNum (numF (unNum (numF x) / unNum (numF (↑(gcdFrom 0 (unNums (F.sl 3 (lget [numF x, numF y, numF w])))) : Int))))).natAbs) : Int) then (↑(Go.Proofs.Ytmambbfnjbdfgaa.R.bitLen (unNum (numF (unNum (numF w) / unNum (numF (↑(gcdFrom 0 (unNums (F.sl 3 (lget [numF x, numF y, numF w])))) : Int))))).natAbs) : Int) else if true = true then if (↑(Go.Proofs.Ytmambbfnjbdfgaa.R.bitLen (unNum (numF (unNum (numF y) / unNum (numF (↑(gcdFrom 0 (unNums (F.sl 3 (lget [numF x, numF y, numF w])))) : Int))))).natAbs) : Int) > (↑(Go.Proofs.Ytmambbfnjbdfgaa.R.bitLen (unNum (numF (unNum (numF x) / unNum (numF (↑(gcdFrom 0 (unNums (F.sl 3 (lget [numF x, numF y, numF w])))) : Int))))).natAbs) : Int) then (↑(Go.Proofs.Ytmambbfnjbdfgaa.R.bitLen (unNum (numF (unNum (numF y) / unNum (numF (↑(gcdFrom 0 (unNums (F.sl 3 (lget [numF x, numF y, numF w])))) : Int))))).natAbs) : Int) else (↑(Go.Proofs.Ytmambbfnjbdfgaa.R.bitLen (unNum (numF (unNum (numF x) / unNum (numF (↑(gcdFrom 0 (unNums (F.sl 3 (lget [numF x, numF y, numF w])))) : Int))))).natAbs) : Int) else if (↑(Go.Proofs.Ytmambbfnjbdfgaa.R.bitLen (unNum (numF (unNum (numF y) / unNum (numF (↑(gcdFrom 0 (unNums (F.sl 3 (lget [numF x, numF y, numF w])))) : Int))))).natAbs) : Int) < (↑(Go.Proofs.Ytmambbfnjbdfgaa.R.bitLen (unNum (numF (unNum (numF x) / unNum (numF (↑(gcdFrom 0 (unNums (F.sl 3 (lget [numF x, numF y, numF w])))) : Int))))).natAbs) : Int) then (↑(Go.Proofs.Ytmambbfnjbdfgaa.R.bitLen (unNum (numF (unNum (numF y) / unNum (numF (↑(gcdFrom 0 (unNums (F.sl 3 (lget [numF x, numF y, numF w])))) : Int))))).natAbs) : Int) else (↑(Go.Proofs.Ytmambbfnjbdfgaa.R.bitLen (unNum (numF (unNum (numF x) / unNum (numF (↑(gcdFrom 0 (unNums (F.sl 3 (lget [numF x, numF y, numF w])))) : Int))))).natAbs) : Int) else if (↑(Go.Proofs.Ytmambbfnjbdfgaa.R.bitLen (unNum (numF (unNum (numF w) / unNum (numF (↑(gcdFrom 0 (unNums (F.sl 3 (lget [numF x, numF y, numF w])))) : Int))))).natAbs) : Int) < if true = true then if (↑(Go.Proofs.Ytmambbfnjbdfgaa.R.bitLen (unNum (numF (unNum (numF y) / unNum (numF (↑(gcdFrom 0 (unNums (F.sl 3 (lget [numF x, numF y, numF w])))) : Int))))).natAbs) : Int) > (↑(Go.Proofs.Ytmambbfnjbdfgaa.R.bitLen (unNum (numF (unNum (numF x) / unNum (numF (↑(gcdFrom 0 (unNums (F.sl 3 (lget [numF x, numF y, numF w])))) : Int))))).natAbs) : Int) then (↑(Go.Proofs.Ytmambbfnjbdfgaa.R.bitLen (unNum (numF (unNum (numF y) / unNum (numF (↑(gcdFrom 0 (unNums (F.sl 3 (lget [numF x, numF y, numF w])))) : Int))))).natAbs) : Int) else (↑(Go.Proofs.Ytmambbfnjbdfgaa.R.bitLen (unNum (numF (unNum (numF x) / unNum (numF (↑(gcdFrom 0 (unNums (F.sl 3 (lget [numF x, numF y, numF w])))) : Int))))).natAbs) : Int) else if (↑(Go.Proofs.Ytmambbfnjbdfgaa.R.bitLen (unNum (numF (unNum (numF y) / unNum (numF (↑(gcdFrom 0 (unNums (F.sl 3 (lget [numF x, numF y, numF w])))) : Int))))).natAbs) : Int) < (↑(Go.Proofs.Ytmambbfnjbdfgaa.R.bitLen (unNum (numF (unNum (numF x) / unNum (numF (↑(gcdFrom 0 (unNums (F.sl 3 (lget [numF x, numF y, numF w])))) : Int))))).natAbs) : Int) then (↑(Go.Proofs.Ytmambbfnjbdfgaa.R.bitLen (unNum (numF (unNum (numF y) / unNum (numF (↑(gcdFrom 0 (unNums (F.sl 3 (lget [numF x, numF y, numF w])))) : Int))))).natAbs) : Int) else (↑(Go.Proofs.Ytmambbfnjbdfgaa.R.bitLen (unNum (numF (unNum (numF x) / unNum (numF (↑(gcdFrom 0 (unNums (F.sl 3 (lget [numF x, numF y, numF w])))) : Int))))).natAbs) : Int) then (↑(Go.Proofs.Ytmambbfnjbdfgaa.R.bitLen (unNum (numF (unNum (numF w) / unNum (numF (↑(gcdFrom 0 (unNums (F.sl 3 (lget [numF x, numF y, numF w])))) : Int))))).natAbs) : Int) else if true = true then if (↑(Go.Proofs.Ytmambbfnjbdfgaa.R.bitLen (unNum (numF (unNum (numF y) / unNum (numF (↑(gcdFrom 0 (unNums (F.sl 3 (lget [numF x, numF y, numF w])))) : Int))))).natAbs) : Int) > (↑(Go.Proofs.Ytmambbfnjbdfgaa.R.bitLen (unNum (numF (unNum (numF x) / unNum (numF (↑(gcdFrom 0 (unNums (F.sl 3 (lget [numF x, numF y, numF w])))) : Int))))).natAbs) : Int) then (↑(Go.Proofs.Ytmambbfnjbdfgaa.R.bitLen (unNum (numF (unNum (numF y) / unNum (numF (↑(gcdFrom 0 (unNums (F.sl 3 (lget [numF x, numF y, numF w])))) : Int))))).natAbs) : Int) else (↑(Go.Proofs.Ytmambbfnjbdfgaa.R.bitLen (unNum (numF (unNum (numF x) / unNum (numF (↑(gcdFrom 0 (unNums (F.sl 3 (lget [numF x, numF y, numF w])))) : Int))))).natAbs) : Int) else if (↑(Go.Proofs.Ytmambbfnjbdfgaa.R.bitLen (unNum (numF (unNum (numF y) / unNum (numF (↑(gcdFrom 0 (unNums (F.sl 3 (lget [numF x, numF y, numF w])))) : Int))))).natAbs) : Int) < (↑(Go.Proofs.Ytmambbfnjbdfgaa.R.bitLen (unNum (numF (unNum (numF x) / unNum (numF (↑(gcdFrom 0 (unNums (F.sl 3 (lget [numF x, numF y, numF w])))) : Int))))).natAbs) : Int) then (↑(Go.Proofs.Ytmambbfnjbdfgaa.R.bitLen (unNum (numF (unNum (numF y) / unNum (numF (↑(gcdFrom 0 (unNums (F.sl 3 (lget [numF x, numF y, numF w])))) : Int))))).natAbs) : Int) else (↑(Go.Proofs.Ytmambbfnjbdfgaa.R.bitLen (unNum (numF (unNum (numF x) / unNum (numF (↑(gcdFrom 0 (unNums (F.sl 3 (lget [numF x, numF y, numF w])))) : Int))))).natAbs) : Int)) > 80))
 (ret (F.tup [F.agg [F.int .u64 0, F.int .u64 0, F.int .u64 0, F.int .u64 0, F.int .u64 0, F.int .u64 0, F.int .u64 0, F.int .u64 0, F.int .u64 0, F.int .u64 0, F.int .u64 0, F.int .u64 0], F.bool false]))
 (bsel (isNum 399 (numF (unNum (numF x) / unNum (numF (↑(gcdFrom 0 (unNums (F.sl 3 (lget [numF x, numF y, numF w])))) : Int)))))
 (bsel (isNum 399 (numF (unNum (numF y) / unNum (numF (↑(gcdFrom 0 (unNums (F.sl 3 (lget [numF x, numF y, numF w])))) : Int)))))
 (bsel (isNum 399 (numF (unNum (numF w) / unNum (numF (↑(gcdFrom 0 (unNums (F.sl 3 (lget [numF x, numF y, numF w])))) : Int)))))
 (ret (F.tup [F.agg [F.int .u64 (wd3 (unNum (numF (unNum (numF x) / unNum (numF (↑(gcdFrom 0 (unNums (F.sl 3 (lget [numF x, numF y, numF w])))) : Int)))))), F.int .u64 (wd2 (unNum (numF (unNum (numF x) / unNum (numF (↑(gcdFrom 0 (unNums (F.sl 3 (lget [numF x, numF y, numF w])))) : Int)))))), F.int .u64 (wd1 (unNum (numF (unNum (numF x) / unNum (numF (↑(gcdFrom 0 (unNums (F.sl 3 (lget [numF x, numF y, numF w])))) : Int)))))), F.int .u64 (wd0 (unNum (numF (unNum (numF x) / unNum (numF (↑(gcdFrom 0 (unNums (F.sl 3 (lget [numF x, numF y, numF w])))) : Int)))))), F.int .u64 (wd3 (unNum (numF (unNum (numF y) / unNum (numF (↑(gcdFrom 0 (unNums (F.sl 3 (lget [numF x, numF y, numF w])))) : Int)))))), F.int .u64 (wd2 (unNum (numF (unNum (numF y) / unNum (numF (↑(gcdFrom 0 (unNums (F.sl 3 (lget [numF x, numF y, numF w])))) : Int)))))), F.int .u64 (wd1 (unNum (numF (unNum (numF y) / unNum (numF (↑(gcdFrom 0 (unNums (F.sl 3 (lget [numF x, numF y, numF w])))) : Int)))))), F.int .u64 (wd0 (unNum (numF (unNum (numF y) / unNum (numF (↑(gcdFrom 0 (unNums (F.sl 3 (lget [numF x, numF y, numF w])))) : Int)))))), F.int .u64 (wd3 (unNum (numF (unNum (numF w) / unNum (numF (↑(gcdFrom 0 (unNums (F.sl 3 (lget [numF x, numF y, numF w])))) : Int)))))), F.int .u64 (wd2 (unNum (numF (unNum (numF w) / unNum (numF (↑(gcdFrom 0 (unNums (F.sl 3 (lget [numF x, numF y, numF w])))) : Int)))))), F.int .u64 (wd1 (unNum (numF (unNum (numF w) / unNum (numF (↑(gcdFrom 0 (unNums (F.sl 3 (lget [numF x, numF y, numF w])))) : Int)))))), F.int .u64 (wd0 (unNum (numF (unNum (numF w) / unNum (numF (↑(gcdFrom 0 (unNums (F.sl 3 (lget [numF x, numF y, numF w])))) : Int))))))], F.bool true]))
 none)
 none)
 none))
 none)
 none)
 none)
 none)
 none)
 none))
 none))
 none)
def G99 (x : Int) (y : Int) (w : Int) : Option (F) := T99 some x y w
theorem t99 (x : Int) (y : Int) (w : Int) (r : F) (h : G99 x y w = some r) : Ends Try.prog Try.f99.results.toList [.code (bodyOf Try.f99)] (start Try.f99.ntmps ([F.agg [F.bool (decide (x < 0)), wordsF (digs 18446744073709551616 x.natAbs), F.bool (decide (y < 0)), wordsF (digs 18446744073709551616 y.natAbs), F.bool (decide (w < 0)), wordsF (digs 18446744073709551616 w.natAbs)]].map .f)) (r) := by
  refine Ends.of_run tyOK envH6_ok (T := []) (n := 200) ?_
  have e : run Try.prog (tiOf Try.prog) envH6 [] 0 Try.f99.results.toList some 200 [.code (bodyOf Try.f99)] (start Try.f99.ntmps ([F.agg [F.bool (decide (x < 0)), wordsF (digs 18446744073709551616 x.natAbs), F.bool (decide (y < 0)), wordsF (digs 18446744073709551616 y.natAbs), F.bool (decide (w < 0)), wordsF (digs 18446744073709551616 w.natAbs)]].map .f)) = T99 (fun r => some (.ret (r))) x y w := by kernel_rfl
  rw [e]
  exact (good_sel h (fun _ h => (good_sel h (fun _ h => good_ret (by cases h; rfl)) (fun _ h => (good_sel h (fun _ h => (good_sel h (fun _ h => (good_sel h (fun _ h => (good_sel h (fun _ h => (good_sel h (fun _ h => (good_sel h (fun _ h => (good_sel h (fun _ h => (good_sel h (fun _ h => (good_sel h (fun _ h => (good_sel h (fun _ h => good_ret (by cases h; rfl)) (fun _ h => (good_sel h (fun _ h => (good_sel h (fun _ h => (good_sel h (fun _ h => good_ret (by cases h; rfl)) (fun _ h => nomatch h))) (fun _ h => nomatch h))) (fun _ h => nomatch h))))) (fun _ h => nomatch h))) (fun _ h => nomatch h))) (fun _ h => nomatch h))) (fun _ h => nomatch h))) (fun _ h => nomatch h))) (fun _ h => nomatch h))) (fun _ h => nomatch h))) (fun _ h => (good_sel h (fun _ h => (good_sel h (fun _ h => (good_sel h (fun _ h => (good_sel h (fun _ h => (good_sel h (fun _ h => (good_sel h (fun _ h => (good_sel h (fun _ h => good_ret (by cases h; rfl)) (fun _ h => (good_sel h (fun _ h => (good_sel h (fun _ h => (good_sel h (fun _ h => good_ret (by cases h; rfl)) (fun _ h => nomatch h))) (fun _ h => nomatch h))) (fun _ h => nomatch h))))) (fun _ h => nomatch h))) (fun _ h => nomatch h))) (fun _ h => nomatch h))) (fun _ h => nomatch h))) (fun _ h => nomatch h))) (fun _ h => nomatch h))))) (fun _ h => nomatch h))))) (fun _ h => nomatch h))
def isP12 (X : Option F) : Prop := ∃ (c0 c1 c2 c3 c4 c5 c6 c7 c8 c9 c10 c11 : Int) (b : Bool), X = some (F.tup [.agg [.int .u64 c0, .int .u64 c1, .int .u64 c2, .int .u64 c3, .int .u64 c4, .int .u64 c5, .int .u64 c6, .int .u64 c7, .int .u64 c8, .int .u64 c9, .int .u64 c10, .int .u64 c11], .bool b])
theorem ends2 {c : Bool} {X Y : Option F} (h1 : isP12 X) (h2 : isP12 Y) : isP12 (bsel c X Y) := by
  cases c
  · exact h2
  · exact h1
theorem quot_bound {x g : Int} {n : Nat} (h : x.natAbs < 18446744073709551616 ^ n) : (x / g).natAbs < 18446744073709551616 ^ (n + 1) :=
  bound_up (Nat.lt_of_le_of_lt (Int.natAbs_ediv_le_natAbs x g) h) (by omega)
theorem point_law {x y w : Int} (hx : x.natAbs < 18446744073709551616 ^ 100) (hy : y.natAbs < 18446744073709551616) (hw : w.natAbs < 18446744073709551616) : isP12 (G99 x y w) := by
  have hy1 : y.natAbs < 18446744073709551616 ^ 1 := by rw [Nat.pow_one]; exact hy
  have hw1 : w.natAbs < 18446744073709551616 ^ 1 := by rw [Nat.pow_one]; exact hw
  have e1 : unNums (F.sl 3 (lget [numF x, numF y, numF w])) = [x, y, w] := by
    show [unNum (numF x), unNum (numF y), unNum (numF w)] = _
    rw [unNum_numF, unNum_numF, unNum_numF]
  have e0 : isNums 400 (F.sl 3 (lget [numF x, numF y, numF w])) = true := by
    simp only [isNums, isSl, List.all_eq_true, List.mem_range]
    intro i hi
    match i, hi with
    | 0, _ => exact num_ok hx (by omega)
    | 1, _ => exact num_ok hy1 (by omega)
    | 2, _ => exact num_ok hw1 (by omega)
  have e2 : gcdOk [x, y, w] = true := gcdOk_iff.2 ⟨by simp, fun z hz => by
    simp at hz
    rcases hz with rfl | rfl
    · exact hy
    · exact hw⟩
  have z : ∀ {c0 c1 c2 c3 c4 c5 c6 c7 c8 c9 c10 c11 : Int} {b : Bool}, isP12 (some (F.tup [.agg [.int .u64 c0, .int .u64 c1, .int .u64 c2, .int .u64 c3, .int .u64 c4, .int .u64 c5, .int .u64 c6, .int .u64 c7, .int .u64 c8, .int .u64 c9, .int .u64 c10, .int .u64 c11], .bool b])) := ⟨_, _, _, _, _, _, _, _, _, _, _, _, _, rfl⟩
  unfold G99 T99
  simp only [e0, e1, e2, unNum_numF, num_ok hw1 (show 1 ≤ 400 by omega), Bool.and_self, bsel_true]
  by_cases h0 : w = 0
  · subst h0
    exact z
  · have hs : (w.sign == 0) = false := by
      rw [sign_eq0, beq_eq_false_iff_ne]; exact h0
    have hg0 : gcdFrom 0 [x, y, w] ≠ 0 ∧ gcdFrom 0 [x, y, w] ≤ w.natAbs := by
      have e : gcdFrom 0 [x, y, w] = Nat.gcd (Nat.gcd (Nat.gcd 0 x.natAbs) y.natAbs) w.natAbs := rfl
      rw [e]
      have h1 := Nat.gcd_pos_of_pos_right (Nat.gcd (Nat.gcd 0 x.natAbs) y.natAbs) (show 0 < w.natAbs by omega)
      have h2 := Nat.gcd_le_right (Nat.gcd (Nat.gcd 0 x.natAbs) y.natAbs) (show 0 < w.natAbs by omega)
      omega
    generalize gcdFrom 0 [x, y, w] = g at hg0
    have hg1 : ((g : Nat) : Int).natAbs < 18446744073709551616 ^ 1 := by rw [Nat.pow_one]; omega
    have hm1 : (-((g : Nat) : Int)).natAbs < 18446744073709551616 ^ 1 := by rw [Nat.pow_one]; omega
    have o1 : ∀ x : Int, overOk x (g : Int) = true := fun x => divOk_iff.2 ⟨by omega, .inl (by omega)⟩
    have o2 : ∀ x : Int, overOk x (-(g : Int)) = true := fun x => divOk_iff.2 ⟨by omega, .inl (by omega)⟩
    rw [hs, bsel_false]
    refine ends2 ?_ ?_
    · simp only [num_ok hg1 (show 1 ≤ 400 by omega), num_ok hx (show 100 ≤ 399 by omega), num_ok hy1 (show 1 ≤ 399 by omega), num_ok hw1 (show 1 ≤ 399 by omega), num_ok hm1 (show 1 ≤ 399 by omega), o2, num_ok (quot_bound (g := -(g : Int)) hx) (show 100 + 1 ≤ 400 by omega), num_ok (quot_bound (g := -(g : Int)) hy1) (show 1 + 1 ≤ 400 by omega), num_ok (quot_bound (g := -(g : Int)) hw1) (show 1 + 1 ≤ 400 by omega),
        num_ok (quot_bound (g := -(g : Int)) hx) (show 100 + 1 ≤ 399 by omega), num_ok (quot_bound (g := -(g : Int)) hy1) (show 1 + 1 ≤ 399 by omega), num_ok (quot_bound (g := -(g : Int)) hw1) (show 1 + 1 ≤ 399 by omega), Bool.and_self, bsel_true]
      exact ends2 z z
    · simp only [num_ok hg1 (show 1 ≤ 399 by omega), num_ok hx (show 100 ≤ 399 by omega), num_ok hy1 (show 1 ≤ 399 by omega), num_ok hw1 (show 1 ≤ 399 by omega), o1, num_ok (quot_bound (g := (g : Int)) hx) (show 100 + 1 ≤ 400 by omega), num_ok (quot_bound (g := (g : Int)) hy1) (show 1 + 1 ≤ 400 by omega), num_ok (quot_bound (g := (g : Int)) hw1) (show 1 + 1 ≤ 400 by omega),
        num_ok (quot_bound (g := (g : Int)) hx) (show 100 + 1 ≤ 399 by omega), num_ok (quot_bound (g := (g : Int)) hy1) (show 1 + 1 ≤ 399 by omega), num_ok (quot_bound (g := (g : Int)) hw1) (show 1 + 1 ≤ 399 by omega), Bool.and_self, bsel_true]
      exact ends2 z z
def spotF (x y w : Int) : F := .agg [.bool (decide (x < 0)), wordsF (digs 18446744073709551616 x.natAbs), .bool (decide (y < 0)), wordsF (digs 18446744073709551616 y.natAbs), .bool (decide (w < 0)), wordsF (digs 18446744073709551616 w.natAbs)]
def isSpot3 (n : Nat) : F → Bool | .agg [a, b, c, d, e, f] => isNum n (.agg [a, b]) && (isNum n (.agg [c, d]) && isNum n (.agg [e, f])) | _ => false
def unXs : F → Int | .agg [a, b, _, _, _, _] => unNum (.agg [a, b]) | _ => 0
def unYs : F → Int | .agg [_, _, c, d, _, _] => unNum (.agg [c, d]) | _ => 0
def unWs : F → Int | .agg [_, _, _, _, e, f] => unNum (.agg [e, f]) | _ => 0
theorem isSpot3_spotF {n : Nat} {x y w : Int} (hx : x.natAbs < 18446744073709551616 ^ n) (hy : y.natAbs < 18446744073709551616 ^ n) (hw : w.natAbs < 18446744073709551616 ^ n) : isSpot3 n (spotF x y w) = true := by
  have h1 := isNum_numF hx
  have h2 := isNum_numF hy
  have h3 := isNum_numF hw
  unfold numF at h1 h2 h3
  simp only [isSpot3, spotF, h1, h2, h3, Bool.and_self]
theorem spot3_eqv {n : Nat} {x : F} (h : isSpot3 n x = true) : FLe x (spotF (unXs x) (unYs x) (unWs x)) := by
  unfold isSpot3 at h
  split at h
  · rename_i a b c d e f
    rw [Bool.and_eq_true, Bool.and_eq_true] at h
    obtain ⟨s, y, e1, hy, f1⟩ := num_form h.1
    obtain ⟨t, z, e2, hz, f2⟩ := num_form h.2.1
    obtain ⟨r, o, e3, ho, f3⟩ := num_form h.2.2
    cases e1; cases e2; cases e3
    have g : spotF (unXs (.agg [.bool s, b, .bool t, d, .bool r, f])) (unYs (.agg [.bool s, b, .bool t, d, .bool r, f])) (unWs (.agg [.bool s, b, .bool t, d, .bool r, f])) = .agg [.bool s, wordsF (unWords b), .bool t, wordsF (unWords d), .bool r, wordsF (unWords f)] := by
      unfold numF at f1 f2 f3
      injection f1 with f1
      injection f2 with f2
      injection f3 with f3
      simp only [List.cons.injEq, and_true] at f1 f2 f3
      show F.agg [_, _, _, _, _, _] = _
      rw [show unXs (.agg [.bool s, b, .bool t, d, .bool r, f]) = unNum (.agg [.bool s, b]) from rfl, show unYs (.agg [.bool s, b, .bool t, d, .bool r, f]) = unNum (.agg [.bool t, d]) from rfl, show unWs (.agg [.bool s, b, .bool t, d, .bool r, f]) = unNum (.agg [.bool r, f]) from rfl, f1.1, f1.2, f2.1, f2.2, f3.1, f3.2]
    rw [g]
    exact FLe.agg ⟨.refl _, (words_eqv hy).1, .refl _, (words_eqv hz).1, .refl _, (words_eqv ho).1, trivial⟩
  · cases h
theorem spot3_bound {n : Nat} {x : F} (h : isSpot3 n x = true) : (unXs x).natAbs < 18446744073709551616 ^ n ∧ (unYs x).natAbs < 18446744073709551616 ^ n ∧ (unWs x).natAbs < 18446744073709551616 ^ n := by
  unfold isSpot3 at h
  split at h
  · rw [Bool.and_eq_true, Bool.and_eq_true] at h
    exact ⟨natAbs_of_isNum h.1, natAbs_of_isNum h.2.1, natAbs_of_isNum h.2.2⟩
  · cases h
def intAt (l : List F) (i : Nat) : Int := match l[i]? with | some (.int _ n) => n | _ => 0
def ptWV (i : Nat) (x y w : Int) : Int := match G99 x y w with | some (.tup [.agg l, _]) => intAt l i | _ => 0
def pointOkV (x y w : Int) : Bool := match G99 x y w with | some (.tup [_, .bool b]) => b | _ => false
def prePoint : List F → Bool | [x] => isSpot3 1 x | _ => false
def resPoint : List F → F | [x] => .tup [.agg [.int .u64 (ptWV 0 (unXs x) (unYs x) (unWs x)), .int .u64 (ptWV 1 (unXs x) (unYs x) (unWs x)), .int .u64 (ptWV 2 (unXs x) (unYs x) (unWs x)), .int .u64 (ptWV 3 (unXs x) (unYs x) (unWs x)), .int .u64 (ptWV 4 (unXs x) (unYs x) (unWs x)), .int .u64 (ptWV 5 (unXs x) (unYs x) (unWs x)), .int .u64 (ptWV 6 (unXs x) (unYs x) (unWs x)), .int .u64 (ptWV 7 (unXs x) (unYs x) (unWs x)), .int .u64 (ptWV 8 (unXs x) (unYs x) (unWs x)), .int .u64 (ptWV 9 (unXs x) (unYs x) (unWs x)), .int .u64 (ptWV 10 (unXs x) (unYs x) (unWs x)), .int .u64 (ptWV 11 (unXs x) (unYs x) (unWs x))], .bool (pointOkV (unXs x) (unYs x) (unWs x))] | _ => .dflt
theorem okPoint : PureOK Try.prog 99 prePoint resPoint :=
  fn_pure_at (c := bodyOf Try.f99) Try.func99 (by kernel_rfl) (by kernel_rfl) fun xs hp => match xs, hp with
  | [x], hp => by
    obtain ⟨b1, b2, b3⟩ := spot3_bound (n := 1) hp
    obtain ⟨c0, c1, c2, c3, c4, c5, c6, c7, c8, c9, c10, c11, b, e⟩ := point_law (x := unXs x) (y := unYs x) (w := unWs x) (bound_up b1 (show 1 ≤ 100 by omega)) (by rwa [Nat.pow_one] at b2) (by rwa [Nat.pow_one] at b3)
    refine ⟨[spotF (unXs x) (unYs x) (unWs x)], _, ⟨spot3_eqv hp, trivial⟩, t99 _ _ _ _ e, ?_⟩
    have e2 : pointOkV (unXs x) (unYs x) (unWs x) = b := by unfold pointOkV; rw [e]
    show FLe _ (.tup [.agg [.int .u64 (ptWV 0 (unXs x) (unYs x) (unWs x)), .int .u64 (ptWV 1 (unXs x) (unYs x) (unWs x)), .int .u64 (ptWV 2 (unXs x) (unYs x) (unWs x)), .int .u64 (ptWV 3 (unXs x) (unYs x) (unWs x)), .int .u64 (ptWV 4 (unXs x) (unYs x) (unWs x)), .int .u64 (ptWV 5 (unXs x) (unYs x) (unWs x)), .int .u64 (ptWV 6 (unXs x) (unYs x) (unWs x)), .int .u64 (ptWV 7 (unXs x) (unYs x) (unWs x)), .int .u64 (ptWV 8 (unXs x) (unYs x) (unWs x)), .int .u64 (ptWV 9 (unXs x) (unYs x) (unWs x)), .int .u64 (ptWV 10 (unXs x) (unYs x) (unWs x)), .int .u64 (ptWV 11 (unXs x) (unYs x) (unWs x))], .bool (pointOkV (unXs x) (unYs x) (unWs x))])
    simp only [ptWV, e2, e]
    exact .refl _
def envH7 : Env := ((envH6.add 93 (.pure prePw2 resCmpP)).add 94 (.pure preSide resSide)).add 99 (.pure prePoint resPoint)
theorem envH7_ok : EnvOK Try.prog envH7 := (Env.add_ok (Env.add_ok (Env.add_ok envH6_ok okCmpP.sp) okSide.sp) okPoint.sp)
end
end Go.Proofs.Ytmambbfnjbdfgaa.R

namespace Go.Proofs.Ytmambbfnjbdfgaa.R
open Go
noncomputable section
set_option linter.unusedVariables false
set_option linter.unusedSimpArgs false
set_option maxRecDepth 100000
/-! ### function 55 -/
def T55 {ρ : Type} (ret : (Bool) → Option ρ) (x0 : Int) (y0 : Int) (x1 : Int) (y1 : Int) (a0 : Int) (a1 : Int) (a2 : Int) (a3 : Int) (a4 : Int) (a5 : Int) (a6 : Int) (a7 : Int) (a8 : Int) (a9 : Int) (a10 : Int) (a11 : Int) : Option ρ :=
 (bsel (isI64 x0 && isI64 y0)
 (bsel (isPw (wd3 x0) (wd2 x0) (wd1 x0) (wd0 x0) (wd3 y0) (wd2 y0) (wd1 y0) (wd0 y0) (wd3 1) (wd2 1) (wd1 1) (wd0 1) && isPw a0 a1 a2 a3 a4 a5 a6 a7 a8 a9 a10 a11)
 (bsel (decide (cmp3V (wdsS (wd3 x0) (wd2 x0) (wd1 x0) (wd0 x0)) (wdsS (wd3 y0) (wd2 y0) (wd1 y0) (wd0 y0)) (wdsS (wd3 1) (wd2 1) (wd1 1) (wd0 1)) (wdsS a0 a1 a2 a3) (wdsS a4 a5 a6 a7) (wdsS a8 a9 a10 a11) ≤ 0) == true)
 (bsel (isI64 x1 && isI64 y1)
 (bsel (isPw a0 a1 a2 a3 a4 a5 a6 a7 a8 a9 a10 a11 && isPw (wd3 x1) (wd2 x1) (wd1 x1) (wd0 x1) (wd3 y1) (wd2 y1) (wd1 y1) (wd0 y1) (wd3 1) (wd2 1) (wd1 1) (wd0 1))
 (bsel (decide (cmp3V (wdsS a0 a1 a2 a3) (wdsS a4 a5 a6 a7) (wdsS a8 a9 a10 a11) (wdsS (wd3 x1) (wd2 x1) (wd1 x1) (wd0 x1)) (wdsS (wd3 y1) (wd2 y1) (wd1 y1) (wd0 y1)) (wdsS (wd3 1) (wd2 1) (wd1 1) (wd0 1)) ≤ 0) == true)
 (bsel (isSide x0 y0 x1 y1 && isPw a0 a1 a2 a3 a4 a5 a6 a7 a8 a9 a10 a11)
 (ret ((sideZ x0 y0 x1 y1 (wdsS a0 a1 a2 a3) (wdsS a4 a5 a6 a7) (wdsS a8 a9 a10 a11)).sign == 0))
 none)
 (ret (false)))
 none)
 none)
 (ret (false)))
 none)
 none)
def G55 (x0 : Int) (y0 : Int) (x1 : Int) (y1 : Int) (a0 : Int) (a1 : Int) (a2 : Int) (a3 : Int) (a4 : Int) (a5 : Int) (a6 : Int) (a7 : Int) (a8 : Int) (a9 : Int) (a10 : Int) (a11 : Int) : Option (Bool) := T55 some x0 y0 x1 y1 a0 a1 a2 a3 a4 a5 a6 a7 a8 a9 a10 a11
theorem t55 (x0 : Int) (y0 : Int) (x1 : Int) (y1 : Int) (a0 : Int) (a1 : Int) (a2 : Int) (a3 : Int) (a4 : Int) (a5 : Int) (a6 : Int) (a7 : Int) (a8 : Int) (a9 : Int) (a10 : Int) (a11 : Int) (b : Bool) (h : G55 x0 y0 x1 y1 a0 a1 a2 a3 a4 a5 a6 a7 a8 a9 a10 a11 = some b) : Ends Try.prog Try.f55.results.toList [.code (bodyOf Try.f55)] (start Try.f55.ntmps ([F.agg [F.int .i64 x0, F.int .i64 y0, F.int .i64 x1, F.int .i64 y1], F.agg [F.int .u64 a0, F.int .u64 a1, F.int .u64 a2, F.int .u64 a3, F.int .u64 a4, F.int .u64 a5, F.int .u64 a6, F.int .u64 a7, F.int .u64 a8, F.int .u64 a9, F.int .u64 a10, F.int .u64 a11]].map .f)) (F.bool b) := by
  refine Ends.of_run tyOK envH7_ok (T := []) (n := 200) ?_
  have e : run Try.prog (tiOf Try.prog) envH7 [] 0 Try.f55.results.toList some 200 [.code (bodyOf Try.f55)] (start Try.f55.ntmps ([F.agg [F.int .i64 x0, F.int .i64 y0, F.int .i64 x1, F.int .i64 y1], F.agg [F.int .u64 a0, F.int .u64 a1, F.int .u64 a2, F.int .u64 a3, F.int .u64 a4, F.int .u64 a5, F.int .u64 a6, F.int .u64 a7, F.int .u64 a8, F.int .u64 a9, F.int .u64 a10, F.int .u64 a11]].map .f)) = T55 (fun b => some (.ret (F.bool b))) x0 y0 x1 y1 a0 a1 a2 a3 a4 a5 a6 a7 a8 a9 a10 a11 := by kernel_rfl
  rw [e]
  exact (good_sel h (fun _ h => (good_sel h (fun _ h => (good_sel h (fun _ h => (good_sel h (fun _ h => (good_sel h (fun _ h => (good_sel h (fun _ h => (good_sel h (fun _ h => good_ret (by cases h; rfl)) (fun _ h => nomatch h))) (fun _ h => good_ret (by cases h; rfl)))) (fun _ h => nomatch h))) (fun _ h => nomatch h))) (fun _ h => good_ret (by cases h; rfl)))) (fun _ h => nomatch h))) (fun _ h => nomatch h))
def onP (x0 y0 x1 y1 px py pw : Int) : Bool := decide (cmp3V x0 y0 1 px py pw ≤ 0) && (decide (cmp3V px py pw x1 y1 1 ≤ 0) && ((sideZ x0 y0 x1 y1 px py pw).sign == 0))
theorem wide_i64 {z : Int} (h : isI64 z = true) : isWide z = true := by
  have := isI64_iff.1 h
  rw [isWide_iff]
  omega
theorem one_i64 : isI64 1 = true := by decide
theorem pw_of {x y : Int} (hx : isI64 x = true) (hy : isI64 y = true) : isPw (wd3 x) (wd2 x) (wd1 x) (wd0 x) (wd3 y) (wd2 y) (wd1 y) (wd0 y) (wd3 1) (wd2 1) (wd1 1) (wd0 1) = true := by
  unfold isPw
  rw [(wdsS_wd (wide_i64 hx)).2, (wdsS_wd (wide_i64 hy)).2, (wdsS_wd (wide_i64 one_i64)).2]
  rfl
theorem onSeg_law {x0 y0 x1 y1 a0 a1 a2 a3 a4 a5 a6 a7 a8 a9 a10 a11 : Int} (h0 : spotIn x0 y0) (h1 : spotIn x1 y1) (ha : isPw a0 a1 a2 a3 a4 a5 a6 a7 a8 a9 a10 a11 = true) :
    G55 x0 y0 x1 y1 a0 a1 a2 a3 a4 a5 a6 a7 a8 a9 a10 a11 = some (onP x0 y0 x1 y1 (wdsS a0 a1 a2 a3) (wdsS a4 a5 a6 a7) (wdsS a8 a9 a10 a11)) := by
  have s0 := h0
  have s1 := h1
  unfold spotIn at s0 s1
  have i1 : isI64 x0 = true := isI64_iff.2 (by omega)
  have i2 : isI64 y0 = true := isI64_iff.2 (by omega)
  have i3 : isI64 x1 = true := isI64_iff.2 (by omega)
  have i4 : isI64 y1 = true := isI64_iff.2 (by omega)
  unfold G55 T55
  simp only [i1, i2, i3, i4, ha, pw_of i1 i2, pw_of i3 i4, isSide_iff.2 ⟨h0, h1⟩, (wdsS_wd (wide_i64 i1)).1, (wdsS_wd (wide_i64 i2)).1, (wdsS_wd (wide_i64 i3)).1, (wdsS_wd (wide_i64 i4)).1, (wdsS_wd (wide_i64 one_i64)).1, Bool.and_self, bsel_true]
  unfold onP
  cases decide (cmp3V x0 y0 1 (wdsS a0 a1 a2 a3) (wdsS a4 a5 a6 a7) (wdsS a8 a9 a10 a11) ≤ 0) <;> cases decide (cmp3V (wdsS a0 a1 a2 a3) (wdsS a4 a5 a6 a7) (wdsS a8 a9 a10 a11) x1 y1 1 ≤ 0) <;> rfl
def resOnP : List F → F | [.agg [.int .i64 x0, .int .i64 y0, .int .i64 x1, .int .i64 y1], .agg [.int .u64 a0, .int .u64 a1, .int .u64 a2, .int .u64 a3, .int .u64 a4, .int .u64 a5, .int .u64 a6, .int .u64 a7, .int .u64 a8, .int .u64 a9, .int .u64 a10, .int .u64 a11]] => .bool (onP x0 y0 x1 y1 (wdsS a0 a1 a2 a3) (wdsS a4 a5 a6 a7) (wdsS a8 a9 a10 a11)) | _ => .dflt
theorem okOnP : PureOK Try.prog 55 preSide resOnP :=
  fn_pure (c := bodyOf Try.f55) Try.func55 (by kernel_rfl) (by kernel_rfl) fun xs hp => match xs, hp with
  | [.agg [.int .i64 x0, .int .i64 y0, .int .i64 x1, .int .i64 y1], .agg [.int .u64 a0, .int .u64 a1, .int .u64 a2, .int .u64 a3, .int .u64 a4, .int .u64 a5, .int .u64 a6, .int .u64 a7, .int .u64 a8, .int .u64 a9, .int .u64 a10, .int .u64 a11]], hp => by
    simp only [preSide, Bool.and_eq_true] at hp
    exact t55 x0 y0 x1 y1 a0 a1 a2 a3 a4 a5 a6 a7 a8 a9 a10 a11 _ (onSeg_law (isSide_iff.1 hp.1).1 (isSide_iff.1 hp.1).2 hp.2)
theorem onP_on (x0 y0 x1 y1 p q : Int) : onP x0 y0 x1 y1 p q 1 = true ↔ onSg x0 y0 x1 y1 p q := by
  have e : sideZ x0 y0 x1 y1 p q 1 = crossZ x0 y0 x1 y1 p q := by
    unfold sideZ crossZ
    rw [Int.mul_one, Int.mul_one]
  unfold onP onSg
  rw [e, Bool.and_eq_true, Bool.and_eq_true, decide_eq_true_eq, decide_eq_true_eq, (cmp3_one _ _ _ _).1, (cmp3_one _ _ _ _).1, beq_iff_eq, Int.sign_eq_zero_iff_zero]
  exact ⟨fun ⟨a, b, c⟩ => ⟨c, a, b⟩, fun ⟨c, a, b⟩ => ⟨a, b, c⟩⟩
/-! ### function 96 -/
def T96 {ρ : Type} (ret : (F) → Option ρ)  : Option ρ :=
 (ret (F.tup [F.int .i64 0, F.agg [F.int .u64 0, F.int .u64 0, F.int .u64 0, F.int .u64 0, F.int .u64 0, F.int .u64 0, F.int .u64 0, F.int .u64 0, F.int .u64 0, F.int .u64 0, F.int .u64 0, F.int .u64 0], F.agg [F.int .u64 0, F.int .u64 0, F.int .u64 0, F.int .u64 0, F.int .u64 0, F.int .u64 0, F.int .u64 0, F.int .u64 0, F.int .u64 0, F.int .u64 0, F.int .u64 0, F.int .u64 0]]))
def G96  : Option (F) := T96 some 
theorem t96  (r : F) (h : G96  = some r) : Ends Try.prog Try.f96.results.toList [.code (bodyOf Try.f96)] (start Try.f96.ntmps ([].map .f)) (r) := by
  refine Ends.of_run tyOK envH7_ok (T := []) (n := 200) ?_
  have e : run Try.prog (tiOf Try.prog) envH7 [] 0 Try.f96.results.toList some 200 [.code (bodyOf Try.f96)] (start Try.f96.ntmps ([].map .f)) = T96 (fun r => some (.ret (r)))  := by kernel_rfl
  rw [e]
  exact good_ret (by cases h; rfl)
def preNone : List F → Bool | [] => true | _ => false
def resNone : List F → F := fun _ => .tup [.int .i64 0, .agg [.int .u64 0, .int .u64 0, .int .u64 0, .int .u64 0, .int .u64 0, .int .u64 0, .int .u64 0, .int .u64 0, .int .u64 0, .int .u64 0, .int .u64 0, .int .u64 0], .agg [.int .u64 0, .int .u64 0, .int .u64 0, .int .u64 0, .int .u64 0, .int .u64 0, .int .u64 0, .int .u64 0, .int .u64 0, .int .u64 0, .int .u64 0, .int .u64 0]]
theorem okNone : PureOK Try.prog 96 preNone resNone :=
  fn_pure (c := bodyOf Try.f96) Try.func96 (by kernel_rfl) (by kernel_rfl) fun xs hp => match xs, hp with
  | [], hp => t96 _ rfl
def envH8 : Env := (envH7.add 55 (.pure preSide resOnP)).add 96 (.pure preNone resNone)
theorem envH8_ok : EnvOK Try.prog envH8 := (Env.add_ok (Env.add_ok envH7_ok okOnP.sp) okNone.sp)
end
end Go.Proofs.Ytmambbfnjbdfgaa.R

namespace Go.Proofs.Ytmambbfnjbdfgaa.R
open Go
noncomputable section
set_option linter.unusedVariables false
set_option linter.unusedSimpArgs false
set_option maxRecDepth 100000
set_option maxHeartbeats 2000000
/-! ### function 57 -/
def T57 {ρ : Type} (ret : (F) → Option ρ) (x0 : Int) (y0 : Int) (x1 : Int) (y1 : Int) (u0 : Int) (v0 : Int) (u1 : Int) (v1 : Int) : Option ρ :=
 (bsel (decide ((if true = true then if u0 > x0 then u0 else x0 else if u0 < x0 then u0 else x0) > if false = true then if u1 > x1 then u1 else x1 else if u1 < x1 then u1 else x1) == false)
 (bsel (decide ((if true = true then if (if false = true then if v1 > v0 then v1 else v0 else if v1 < v0 then v1 else v0) > if false = true then if y1 > y0 then y1 else y0 else if y1 < y0 then y1 else y0 then if false = true then if v1 > v0 then v1 else v0 else if v1 < v0 then v1 else v0 else if false = true then if y1 > y0 then y1 else y0 else if y1 < y0 then y1 else y0 else if (if false = true then if v1 > v0 then v1 else v0 else if v1 < v0 then v1 else v0) < if false = true then if y1 > y0 then y1 else y0 else if y1 < y0 then y1 else y0 then if false = true then if v1 > v0 then v1 else v0 else if v1 < v0 then v1 else v0 else if false = true then if y1 > y0 then y1 else y0 else if y1 < y0 then y1 else y0) > if false = true then if (if true = true then if v1 > v0 then v1 else v0 else if v1 < v0 then v1 else v0) > if true = true then if y1 > y0 then y1 else y0 else if y1 < y0 then y1 else y0 then if true = true then if v1 > v0 then v1 else v0 else if v1 < v0 then v1 else v0 else if true = true then if y1 > y0 then y1 else y0 else if y1 < y0 then y1 else y0 else if (if true = true then if v1 > v0 then v1 else v0 else if v1 < v0 then v1 else v0) < if true = true then if y1 > y0 then y1 else y0 else if y1 < y0 then y1 else y0 then if true = true then if v1 > v0 then v1 else v0 else if v1 < v0 then v1 else v0 else if true = true then if y1 > y0 then y1 else y0 else if y1 < y0 then y1 else y0))
 (ret (F.tup [F.int .i64 0, F.agg [F.int .u64 0, F.int .u64 0, F.int .u64 0, F.int .u64 0, F.int .u64 0, F.int .u64 0, F.int .u64 0, F.int .u64 0, F.int .u64 0, F.int .u64 0, F.int .u64 0, F.int .u64 0], F.agg [F.int .u64 0, F.int .u64 0, F.int .u64 0, F.int .u64 0, F.int .u64 0, F.int .u64 0, F.int .u64 0, F.int .u64 0, F.int .u64 0, F.int .u64 0, F.int .u64 0, F.int .u64 0]]))
 (bsel ((crossW x0 y0 x1 y1 u0 v0 == 0) == true)
 (bsel (crossW x0 y0 x1 y1 u1 v1 == 0)
 (bsel (decide (cmpV u0 v0 x0 y0 > 0))
 (bsel (decide (cmpV u1 v1 x1 y1 < 0))
 (bsel (decide (cmpV u0 v0 u1 v1 > 0))
 (ret (F.tup [F.int .i64 0, F.agg [F.int .u64 0, F.int .u64 0, F.int .u64 0, F.int .u64 0, F.int .u64 0, F.int .u64 0, F.int .u64 0, F.int .u64 0, F.int .u64 0, F.int .u64 0, F.int .u64 0, F.int .u64 0], F.agg [F.int .u64 0, F.int .u64 0, F.int .u64 0, F.int .u64 0, F.int .u64 0, F.int .u64 0, F.int .u64 0, F.int .u64 0, F.int .u64 0, F.int .u64 0, F.int .u64 0, F.int .u64 0]]))
 (bsel (cmpV u0 v0 u1 v1 == 0)
 (bsel (isI64 u0 && isI64 v0)
 (ret (F.tup [F.int .i64 1, F.agg [F.int .u64 (wd3 u0), F.int .u64 (wd2 u0), F.int .u64 (wd1 u0), F.int .u64 (wd0 u0), F.int .u64 (wd3 v0), F.int .u64 (wd2 v0), F.int .u64 (wd1 v0), F.int .u64 (wd0 v0), F.int .u64 (wd3 1), F.int .u64 (wd2 1), F.int .u64 (wd1 1), F.int .u64 (wd0 1)], F.agg [F.int .u64 0, F.int .u64 0, F.int .u64 0, F.int .u64 0, F.int .u64 0, F.int .u64 0, F.int .u64 0, F.int .u64 0, F.int .u64 0, F.int .u64 0, F.int .u64 0, F.int .u64 0]]))
 none)
 (bsel (isI64 u0 && isI64 v0)
 (bsel (isI64 u1 && isI64 v1)
 (ret (F.tup [F.int .i64 2, F.agg [F.int .u64 (wd3 u0), F.int .u64 (wd2 u0), F.int .u64 (wd1 u0), F.int .u64 (wd0 u0), F.int .u64 (wd3 v0), F.int .u64 (wd2 v0), F.int .u64 (wd1 v0), F.int .u64 (wd0 v0), F.int .u64 (wd3 1), F.int .u64 (wd2 1), F.int .u64 (wd1 1), F.int .u64 (wd0 1)], F.agg [F.int .u64 (wd3 u1), F.int .u64 (wd2 u1), F.int .u64 (wd1 u1), F.int .u64 (wd0 u1), F.int .u64 (wd3 v1), F.int .u64 (wd2 v1), F.int .u64 (wd1 v1), F.int .u64 (wd0 v1), F.int .u64 (wd3 1), F.int .u64 (wd2 1), F.int .u64 (wd1 1), F.int .u64 (wd0 1)]]))
 none)
 none)))
 (bsel (decide (cmpV u0 v0 x1 y1 > 0))
 (ret (F.tup [F.int .i64 0, F.agg [F.int .u64 0, F.int .u64 0, F.int .u64 0, F.int .u64 0, F.int .u64 0, F.int .u64 0, F.int .u64 0, F.int .u64 0, F.int .u64 0, F.int .u64 0, F.int .u64 0, F.int .u64 0], F.agg [F.int .u64 0, F.int .u64 0, F.int .u64 0, F.int .u64 0, F.int .u64 0, F.int .u64 0, F.int .u64 0, F.int .u64 0, F.int .u64 0, F.int .u64 0, F.int .u64 0, F.int .u64 0]]))
 (bsel (cmpV u0 v0 x1 y1 == 0)
 (bsel (isI64 u0 && isI64 v0)
 (ret (F.tup [F.int .i64 1, F.agg [F.int .u64 (wd3 u0), F.int .u64 (wd2 u0), F.int .u64 (wd1 u0), F.int .u64 (wd0 u0), F.int .u64 (wd3 v0), F.int .u64 (wd2 v0), F.int .u64 (wd1 v0), F.int .u64 (wd0 v0), F.int .u64 (wd3 1), F.int .u64 (wd2 1), F.int .u64 (wd1 1), F.int .u64 (wd0 1)], F.agg [F.int .u64 0, F.int .u64 0, F.int .u64 0, F.int .u64 0, F.int .u64 0, F.int .u64 0, F.int .u64 0, F.int .u64 0, F.int .u64 0, F.int .u64 0, F.int .u64 0, F.int .u64 0]]))
 none)
 (bsel (isI64 u0 && isI64 v0)
 (bsel (isI64 x1 && isI64 y1)
 (ret (F.tup [F.int .i64 2, F.agg [F.int .u64 (wd3 u0), F.int .u64 (wd2 u0), F.int .u64 (wd1 u0), F.int .u64 (wd0 u0), F.int .u64 (wd3 v0), F.int .u64 (wd2 v0), F.int .u64 (wd1 v0), F.int .u64 (wd0 v0), F.int .u64 (wd3 1), F.int .u64 (wd2 1), F.int .u64 (wd1 1), F.int .u64 (wd0 1)], F.agg [F.int .u64 (wd3 x1), F.int .u64 (wd2 x1), F.int .u64 (wd1 x1), F.int .u64 (wd0 x1), F.int .u64 (wd3 y1), F.int .u64 (wd2 y1), F.int .u64 (wd1 y1), F.int .u64 (wd0 y1), F.int .u64 (wd3 1), F.int .u64 (wd2 1), F.int .u64 (wd1 1), F.int .u64 (wd0 1)]]))
 none)
 none))))
 (bsel (decide (cmpV u1 v1 x1 y1 < 0))
 (bsel (decide (cmpV x0 y0 u1 v1 > 0))
 (ret (F.tup [F.int .i64 0, F.agg [F.int .u64 0, F.int .u64 0, F.int .u64 0, F.int .u64 0, F.int .u64 0, F.int .u64 0, F.int .u64 0, F.int .u64 0, F.int .u64 0, F.int .u64 0, F.int .u64 0, F.int .u64 0], F.agg [F.int .u64 0, F.int .u64 0, F.int .u64 0, F.int .u64 0, F.int .u64 0, F.int .u64 0, F.int .u64 0, F.int .u64 0, F.int .u64 0, F.int .u64 0, F.int .u64 0, F.int .u64 0]]))
 (bsel (cmpV x0 y0 u1 v1 == 0)
 (bsel (isI64 x0 && isI64 y0)
 (ret (F.tup [F.int .i64 1, F.agg [F.int .u64 (wd3 x0), F.int .u64 (wd2 x0), F.int .u64 (wd1 x0), F.int .u64 (wd0 x0), F.int .u64 (wd3 y0), F.int .u64 (wd2 y0), F.int .u64 (wd1 y0), F.int .u64 (wd0 y0), F.int .u64 (wd3 1), F.int .u64 (wd2 1), F.int .u64 (wd1 1), F.int .u64 (wd0 1)], F.agg [F.int .u64 0, F.int .u64 0, F.int .u64 0, F.int .u64 0, F.int .u64 0, F.int .u64 0, F.int .u64 0, F.int .u64 0, F.int .u64 0, F.int .u64 0, F.int .u64 0, F.int .u64 0]]))
 none)
 (bsel (isI64 x0 && isI64 y0)
 (bsel (isI64 u1 && isI64 v1)
 (ret (F.tup [F.int .i64 2, F.agg [F.int .u64 (wd3 x0), F.int .u64 (wd2 x0), F.int .u64 (wd1 x0), F.int .u64 (wd0 x0), F.int .u64 (wd3 y0), F.int .u64 (wd2 y0), F.int .u64 (wd1 y0), F.int .u64 (wd0 y0), F.int .u64 (wd3 1), F.int .u64 (wd2 1), F.int .u64 (wd1 1), F.int .u64 (wd0 1)], F.agg [F.int .u64 (wd3 u1), F.int .u64 (wd2 u1), F.int .u64 (wd1 u1), F.int .u64 (wd0 u1), F.int .u64 (wd3 v1), F.int .u64 (wd2 v1), F.int .u64 (wd1 v1), F.int .u64 (wd0 v1), F.int .u64 (wd3 1), F.int .u64 (wd2 1), F.int .u64 (wd1 1), F.int .u64 (wd0 1)]]))
 none)
 none)))
 (bsel (decide (cmpV x0 y0 x1 y1 > 0))
 (ret (F.tup [F.int .i64 0, F.agg [F.int .u64 0, F.int .u64 0, F.int .u64 0, F.int .u64 0, F.int .u64 0, F.int .u64 0, F.int .u64 0, F.int .u64 0, F.int .u64 0, F.int .u64 0, F.int .u64 0, F.int .u64 0], F.agg [F.int .u64 0, F.int .u64 0, F.int .u64 0, F.int .u64 0, F.int .u64 0, F.int .u64 0, F.int .u64 0, F.int .u64 0, F.int .u64 0, F.int .u64 0, F.int .u64 0, F.int .u64 0]]))
 (bsel (cmpV x0 y0 x1 y1 == 0)
 (bsel (isI64 x0 && isI64 y0)
 (ret (F.tup [F.int .i64 1, F.agg [F.int .u64 (wd3 x0), F.int .u64 (wd2 x0), F.int .u64 (wd1 x0), F.int .u64 (wd0 x0), F.int .u64 (wd3 y0), F.int .u64 (wd2 y0), F.int .u64 (wd1 y0), F.int .u64 (wd0 y0), F.int .u64 (wd3 1), F.int .u64 (wd2 1), F.int .u64 (wd1 1), F.int .u64 (wd0 1)], F.agg [F.int .u64 0, F.int .u64 0, F.int .u64 0, F.int .u64 0, F.int .u64 0, F.int .u64 0, F.int .u64 0, F.int .u64 0, F.int .u64 0, F.int .u64 0, F.int .u64 0, F.int .u64 0]]))
 none)
 (bsel (isI64 x0 && isI64 y0)
 (bsel (isI64 x1 && isI64 y1)
 (ret (F.tup [F.int .i64 2, F.agg [F.int .u64 (wd3 x0), F.int .u64 (wd2 x0), F.int .u64 (wd1 x0), F.int .u64 (wd0 x0), F.int .u64 (wd3 y0), F.int .u64 (wd2 y0), F.int .u64 (wd1 y0), F.int .u64 (wd0 y0), F.int .u64 (wd3 1), F.int .u64 (wd2 1), F.int .u64 (wd1 1), F.int .u64 (wd0 1)], F.agg [F.int .u64 (wd3 x1), F.int .u64 (wd2 x1), F.int .u64 (wd1 x1), F.int .u64 (wd0 x1), F.int .u64 (wd3 y1), F.int .u64 (wd2 y1), F.int .u64 (wd1 y1), F.int .u64 (wd0 y1), F.int .u64 (wd3 1), F.int .u64 (wd2 1), F.int .u64 (wd1 1), F.int .u64 (wd0 1)]]))
 none)
 none)))))
 (bsel (decide (IntKind.i64.wrap (signV (crossW x0 y0 x1 y1 u0 v0) * signV (crossW x0 y0 x1 y1 u1 v1)) > 0) == false)
 (bsel (decide (IntKind.i64.wrap (signV (crossW u0 v0 u1 v1 x0 y0) * signV (crossW u0 v0 u1 v1 x1 y1)) > 0))
 (ret (F.tup [F.int .i64 0, F.agg [F.int .u64 0, F.int .u64 0, F.int .u64 0, F.int .u64 0, F.int .u64 0, F.int .u64 0, F.int .u64 0, F.int .u64 0, F.int .u64 0, F.int .u64 0, F.int .u64 0, F.int .u64 0], F.agg [F.int .u64 0, F.int .u64 0, F.int .u64 0, F.int .u64 0, F.int .u64 0, F.int .u64 0, F.int .u64 0, F.int .u64 0, F.int .u64 0, F.int .u64 0, F.int .u64 0, F.int .u64 0]]))
 (bsel (isI64 (IntKind.i64.wrap (crossW x0 y0 x1 y1 u0 v0 - crossW x0 y0 x1 y1 u1 v1)))
 (bsel (isI64 u0)
 (bsel (isNum 400 (resWhole [F.int .i64 u0]) && isNum 400 (numF (IntKind.i64.wrap (crossW x0 y0 x1 y1 u0 v0 - crossW x0 y0 x1 y1 u1 v1))))
 (bsel (isI64 (crossW x0 y0 x1 y1 u0 v0))
 (bsel (isI64 (IntKind.i64.wrap (u1 - u0)))
 (bsel (isNum 400 (resWhole [F.int .i64 (crossW x0 y0 x1 y1 u0 v0)]) && isNum 400 (resWhole [F.int .i64 (IntKind.i64.wrap (u1 - u0))]))
 (bsel (isNum 400 (resBy [resWhole [F.int .i64 u0], numF (IntKind.i64.wrap (crossW x0 y0 x1 y1 u0 v0 - crossW x0 y0 x1 y1 u1 v1))]) && isNum 400 (resBy [resWhole [F.int .i64 (crossW x0 y0 x1 y1 u0 v0)], resWhole [F.int .i64 (IntKind.i64.wrap (u1 - u0))]]))
 (bsel (isI64 v0)
 (bsel (isNum 400 (resWhole [F.int .i64 v0]) && isNum 400 (numF (IntKind.i64.wrap (crossW x0 y0 x1 y1 u0 v0 - crossW x0 y0 x1 y1 u1 v1))))
 (bsel (isI64 (crossW x0 y0 x1 y1 u0 v0))
 (bsel (isI64 (IntKind.i64.wrap (v1 - v0)))
 (bsel (isNum 400 (resWhole [F.int .i64 (crossW x0 y0 x1 y1 u0 v0)]) && isNum 400 (resWhole [F.int .i64 (IntKind.i64.wrap (v1 - v0))]))
 (bsel (isNum 400 (resBy [resWhole [F.int .i64 v0], numF (IntKind.i64.wrap (crossW x0 y0 x1 y1 u0 v0 - crossW x0 y0 x1 y1 u1 v1))]) && isNum 400 (resBy [resWhole [F.int .i64 (crossW x0 y0 x1 y1 u0 v0)], resWhole [F.int .i64 (IntKind.i64.wrap (v1 - v0))]]))
 (bsel (isSpot3 1 (spotF (unNum (resBy [resWhole [F.int .i64 u0], numF (IntKind.i64.wrap (crossW x0 y0 x1 y1 u0 v0 - crossW x0 y0 x1 y1 u1 v1))]) + unNum (resBy [resWhole [F.int .i64 (crossW x0 y0 x1 y1 u0 v0)], resWhole [F.int .i64 (IntKind.i64.wrap (u1 - u0))]])) (unNum (resBy [resWhole [F.int .i64 v0], numF (IntKind.i64.wrap (crossW x0 y0 x1 y1 u0 v0 - crossW x0 y0 x1 y1 u1 v1))]) + unNum (resBy [resWhole [F.int .i64 (crossW x0 y0 x1 y1 u0 v0)], resWhole [F.int .i64 (IntKind.i64.wrap (v1 - v0))]])) (IntKind.i64.wrap (crossW x0 y0 x1 y1 u0 v0 - crossW x0 y0 x1 y1 u1 v1))))
 (ret (F.tup [F.int .i64 1, F.agg [F.int .u64 (ptWV 0 (unXs (spotF (unNum (resBy [resWhole [F.int .i64 u0], numF (IntKind.i64.wrap (crossW x0 y0 x1 y1 u0 v0 - crossW x0 y0 x1 y1 u1 v1))]) + unNum (resBy [resWhole [F.int .i64 (crossW x0 y0 x1 y1 u0 v0)], resWhole [F.int .i64 (IntKind.i64.wrap (u1 - u0))]])) (unNum (resBy [resWhole [F.int .i64 v0], numF (IntKind.i64.wrap (crossW x0 y0 x1 y1 u0 v0 - crossW x0 y0 x1 y1 u1 v1))]) + unNum (resBy [resWhole [F.int .i64 (crossW x0 y0 x1 y1 u0 v0)], resWhole [F.int .i64 (IntKind.i64.wrap (v1 - v0))]])) (IntKind.i64.wrap (crossW x0 y0 x1 y1 u0 v0 - crossW x0 y0 x1 y1 u1 v1)))) (unYs (spotF (unNum (resBy [resWhole [F.int .i64 u0], numF (IntKind.i64.wrap (crossW x0 y0 x1 y1 u0 v0 - crossW x0 y0 x1 y1 u1 v1))]) + unNum (resBy [resWhole [F.int .i64 (crossW x0 y0 x1 y1 u0 v0)], resWhole [F.int .i64 (IntKind.i64.wrap (u1 - u0))]])) (unNum (resBy [resWhole [F.int .i64 v0], numF (IntKind.i64.wrap (crossW x0 y0 x1 y1 u0 v0 - crossW x0 y0 x1 y1 u1 v1))]) + unNum (resBy [resWhole [F.int .i64 (crossW x0 y0 x1 y1 u0 v0)], resWhole [F.int .i64 (IntKind.i64.wrap (v1 - v0))]])) (IntKind.i64.wrap (crossW x0 y0 x1 y1 u0 v0 - crossW x0 y0 x1 y1 u1 v1)))) (unWs (spotF (unNum (resBy [resWhole [F.int .i64 u0], numF (IntKind.i64.wrap (crossW x0 y0 x1 y1 u0 v0 - crossW x0 y0 x1 y1 u1 v1))]) + unNum (resBy [resWhole [F.int .i64 (crossW x0 y0 x1 y1 u0 v0)], resWhole [F.int .i64 (IntKind.i64.wrap (u1 - u0))]])) (unNum (resBy [resWhole [F.int .i64 v0], numF (IntKind.i64.wrap (crossW x0 y0 x1 y1 u0 v0 - crossW x0 y0 x1 y1 u1 v1))]) + unNum (resBy [resWhole [F.int .i64 (crossW x0 y0 x1 y1 u0 v0)], resWhole [F.int .i64 (IntKind.i64.wrap (v1 - v0))]])) (IntKind.i64.wrap (crossW x0 y0 x1 y1 u0 v0 - crossW x0 y0 x1 y1 u1 v1))))), F.int .u64 (ptWV 1 (unXs (spotF (unNum (resBy [resWhole [F.int .i64 u0], numF (IntKind.i64.wrap (crossW x0 y0 x1 y1 u0 v0 - crossW x0 y0 x1 y1 u1 v1))]) + unNum (resBy [resWhole [F.int .i64 (crossW x0 y0 x1 y1 u0 v0)], resWhole [F.int .i64 (IntKind.i64.wrap (u1 - u0))]])) (unNum (resBy [resWhole [F.int .i64 v0], numF (IntKind.i64.wrap (crossW x0 y0 x1 y1 u0 v0 - crossW x0 y0 x1 y1 u1 v1))]) + unNum (resBy [resWhole [F.int .i64 (crossW x0 y0 x1 y1 u0 v0)], resWhole [F.int .i64 (IntKind.i64.wrap (v1 - v0))]])) (IntKind.i64.wrap (crossW x0 y0 x1 y1 u0 v0 - crossW x0 y0 x1 y1 u1 v1)))) (unYs (spotF (unNum (resBy [resWhole [F.int .i64 u0], numF (IntKind.i64.wrap (crossW x0 y0 x1 y1 u0 v0 - crossW x0 y0 x1 y1 u1 v1))]) + unNum (resBy [resWhole [F.int .i64 (crossW x0 y0 x1 y1 u0 v0)], resWhole [F.int .i64 (IntKind.i64.wrap (u1 - u0))]])) (unNum (resBy [resWhole [F.int .i64 v0], numF (IntKind.i64.wrap (crossW x0 y0 x1 y1 u0 v0 - crossW x0 y0 x1 y1 u1 v1))]) + unNum (resBy [resWhole [F.int .i64 (crossW x0 y0 x1 y1 u0 v0)], resWhole [F.int .i64 (IntKind.i64.wrap (v1 - v0))]])) (IntKind.i64.wrap (crossW x0 y0 x1 y1 u0 v0 - crossW x0 y0 x1 y1 u1 v1)))) (unWs (spotF (unNum (resBy [resWhole [F.int .i64 u0], numF (IntKind.i64.wrap (crossW x0 y0 x1 y1 u0 v0 - crossW x0 y0 x1 y1 u1 v1))]) + unNum (resBy [resWhole [F.int .i64 (crossW x0 y0 x1 y1 u0 v0)], resWhole [F.int .i64 (IntKind.i64.wrap (u1 - u0))]])) (unNum (resBy [resWhole [F.int .i64 v0], numF (IntKind.i64.wrap (crossW x0 y0 x1 y1 u0 v0 - crossW x0 y0 x1 y1 u1 v1))]) + unNum (resBy [resWhole [F.int .i64 (crossW x0 y0 x1 y1 u0 v0)], resWhole [F.int .i64 (IntKind.i64.wrap (v1 - v0))]])) (IntKind.i64.wrap (crossW x0 y0 x1 y1 u0 v0 - crossW x0 y0 x1 y1 u1 v1))))), F.int .u64 (ptWV 2 (unXs (spotF (unNum (resBy [resWhole [F.int .i64 u0], numF (IntKind.i64.wrap (crossW x0 y0 x1 y1 u0 v0 - crossW x0 y0 x1 y1 u1 v1))]) + unNum (resBy [resWhole [F.int .i64 (crossW x0 y0 x1 y1 u0 v0)], resWhole [F.int .i64 (IntKind.i64.wrap (u1 - u0))]])) (unNum (resBy [resWhole [F.int .i64 v0], numF (IntKind.i64.wrap (crossW x0 y0 x1 y1 u0 v0 - crossW x0 y0 x1 y1 u1 v1))]) + unNum (resBy [resWhole [F.int .i64 (crossW x0 y0 x1 y1 u0 v0)], resWhole [F.int .i64 (IntKind.i64.wrap (v1 - v0))]])) (IntKind.i64.wrap (crossW x0 y0 x1 y1 u0 v0 - crossW x0 y0 x1 y1 u1 v1)))) (unYs (spotF (unNum (resBy [resWhole [F.int .i64 u0], numF (IntKind.i64.wrap (crossW x0 y0 x1 y1 u0 v0 - crossW x0 y0 x1 y1 u1 v1))]) + unNum (resBy [resWhole [F.int .i64 (crossW x0 y0 x1 y1 u0 v0)], resWhole [F.int .i64 (IntKind.i64.wrap (u1 - u0))]])) (unNum (resBy [resWhole [F.int .i64 v0], numF (IntKind.i64.wrap (crossW x0 y0 x1 y1 u0 v0 - crossW x0 y0 x1 y1 u1 v1))]) + unNum (resBy [resWhole [F.int .i64 (crossW x0 y0 x1 y1 u0 v0)], resWhole [F.int .i64 (IntKind.i64.wrap (v1 - v0))]])) (IntKind.i64.wrap (crossW x0 y0 x1 y1 u0 v0 - crossW x0 y0 x1 y1 u1 v1)))) (unWs (spotF (unNum (resBy [resWhole [F.int .i64 u0], numF (IntKind.i64.wrap (crossW x0 y0 x1 y1 u0 v0 - crossW x0 y0 x1 y1 u1 v1))]) + unNum (resBy [resWhole [F.int .i64 (crossW x0 y0 x1 y1 u0 v0)], resWhole [F.int .i64 (IntKind.i64.wrap (u1 - u0))]])) (unNum (resBy [resWhole [F.int .i64 v0], numF (IntKind.i64.wrap (crossW x0 y0 x1 y1 u0 v0 - crossW x0 y0 x1 y1 u1 v1))]) + unNum (resBy [resWhole [F.int .i64 (crossW x0 y0 x1 y1 u0 v0)], resWhole [F.int .i64 (IntKind.i64.wrap (v1 - v0))]])) (IntKind.i64.wrap (crossW x0 y0 x1 y1 u0 v0 - crossW x0 y0 x1 y1 u1 v1))))), F.int .u64 (ptWV 3 (unXs (spotF (unNum (resBy [resWhole [F.int .i64 u0], numF (IntKind.i64.wrap (crossW x0 y0 x1 y1 u0 v0 - crossW x0 y0 x1 y1 u1 v1))]) + unNum (resBy [resWhole [F.int .i64 (crossW x0 y0 x1 y1 u0 v0)], resWhole [F.int .i64 (IntKind.i64.wrap (u1 - u0))]])) (unNum (resBy [resWhole [F.int .i64 v0], numF (IntKind.i64.wrap (crossW x0 y0 x1 y1 u0 v0 - crossW x0 y0 x1 y1 u1 v1))]) + unNum (resBy [resWhole [F.int .i64 (crossW x0 y0 x1 y1 u0 v0)], resWhole [F.int .i64 (IntKind.i64.wrap (v1 - v0))]])) (IntKind.i64.wrap (crossW x0 y0 x1 y1 u0 v0 - crossW x0 y0 x1 y1 u1 v1)))) (unYs (spotF (unNum (resBy [resWhole [F.int .i64 u0], numF (IntKind.i64.wrap (crossW x0 y0 x1 y1 u0 v0 - crossW x0 y0 x1 y1 u1 v1))]) + unNum (resBy [resWhole [F.int .i64 (crossW x0 y0 x1 y1 u0 v0)], resWhole [F.int .i64 (IntKind.i64.wrap (u1 - u0))]])) (unNum (resBy [resWhole [F.int .i64 v0], numF (IntKind.i64.wrap (crossW x0 y0 x1 y1 u0 v0 - crossW x0 y0 x1 y1 u1 v1))]) + unNum (resBy [resWhole [F.int .i64 (crossW x0 y0 x1 y1 u0 v0)], resWhole [F.int .i64 (IntKind.i64.wrap (v1 - v0))]])) (IntKind.i64.wrap (crossW x0 y0 x1 y1 u0 v0 - crossW x0 y0 x1 y1 u1 v1)))) (unWs (spotF (unNum (resBy [resWhole [F.int .i64 u0], numF (IntKind.i64.wrap (crossW x0 y0 x1 y1 u0 v0 - crossW x0 y0 x1 y1 u1 v1))]) + unNum (resBy [resWhole [F.int .i64 (crossW x0 y0 x1 y1 u0 v0)], resWhole [F.int .i64 (IntKind.i64.wrap (u1 - u0))]])) (unNum (resBy [resWhole [F.int .i64 v0], numF (IntKind.i64.wrap (crossW x0 y0 x1 y1 u0 v0 - crossW x0 y0 x1 y1 u1 v1))]) + unNum (resBy [resWhole [F.int .i64 (crossW x0 y0 x1 y1 u0 v0)], resWhole [F.int .i64 (IntKind.i64.wrap (v1 - v0))]])) (IntKind.i64.wrap (crossW x0 y0 x1 y1 u0 v0 - crossW x0 y0 x1 y1 u1 v1))))), F.int .u64 (ptWV 4 (unXs (spotF (unNum (resBy [resWhole [F.int .i64 u0], numF (IntKind.i64.wrap (crossW x0 y0 x1 y1 u0 v0 - crossW x0 y0 x1 y1 u1 v1))]) + unNum (resBy [resWhole [F.int .i64 (crossW x0 y0 x1 y1 u0 v0)], resWhole [F.int .i64 (IntKind.i64.wrap (u1 - u0))]])) (unNum (resBy [resWhole [F.int .i64 v0], numF (IntKind.i64.wrap (crossW x0 y0 x1 y1 u0 v0 - crossW x0 y0 x1 y1 u1 v1))]) + unNum (resBy [resWhole [F.int .i64 (crossW x0 y0 x1 y1 u0 v0)], resWhole [F.int .i64 (IntKind.i64.wrap (v1 - v0))]])) (IntKind.i64.wrap (crossW x0 y0 x1 y1 u0 v0 - crossW x0 y0 x1 y1 u1 v1)))) (unYs (spotF (unNum (resBy [resWhole [F.int .i64 u0], numF (IntKind.i64.wrap (crossW x0 y0 x1 y1 u0 v0 - crossW x0 y0 x1 y1 u1 v1))]) + unNum (resBy [resWhole [F.int .i64 (crossW x0 y0 x1 y1 u0 v0)], resWhole [F.int .i64 (IntKind.i64.wrap (u1 - u0))]])) (unNum (resBy [resWhole [F.int .i64 v0], numF (IntKind.i64.wrap (crossW x0 y0 x1 y1 u0 v0 - crossW x0 y0 x1 y1 u1 v1))]) + unNum (resBy [resWhole [F.int .i64 (crossW x0 y0 x1 y1 u0 v0)], resWhole [F.int .i64 (IntKind.i64.wrap (v1 - v0))]])) (IntKind.i64.wrap (crossW x0 y0 x1 y1 u0 v0 - crossW x0 y0 x1 y1 u1 v1)))) (unWs (spotF (unNum (resBy [resWhole [F.int .i64 u0], numF (IntKind.i64.wrap (crossW x0 y0 x1 y1 u0 v0 - crossW x0 y0 x1 y1 u1 v1))]) + unNum (resBy [resWhole [F.int .i64 (crossW x0 y0 x1 y1 u0 v0)], resWhole [F.int .i64 (IntKind.i64.wrap (u1 - u0))]])) (unNum (resBy [resWhole [F.int .i64 v0], numF (IntKind.i64.wrap (crossW x0 y0 x1 y1 u0 v0 - crossW x0 y0 x1 y1 u1 v1))]) + unNum (resBy [resWhole [F.int .i64 (crossW x0 y0 x1 y1 u0 v0)], resWhole [F.int .i64 (IntKind.i64.wrap (v1 - v0))]])) (IntKind.i64.wrap (crossW x0 y0 x1 y1 u0 v0 - crossW x0 y0 x1 y1 u1 v1))))), F.int .u64 (ptWV 5 (unXs (spotF (unNum (resBy [resWhole [F.int .i64 u0], numF (IntKind.i64.wrap (crossW x0 y0 x1 y1 u0 v0 - crossW x0 y0 x1 y1 u1 v1))]) + unNum (resBy [resWhole [F.int .i64 (crossW x0 y0 x1 y1 u0 v0)], resWhole [F.int .i64 (IntKind.i64.wrap (u1 - u0))]])) (unNum (resBy [resWhole [F.int .i64 v0], numF (IntKind.i64.wrap (crossW x0 y0 x1 y1 u0 v0 - crossW x0 y0 x1 y1 u1 v1))]) + unNum (resBy [resWhole [F.int .i64 (crossW x0 y0 x1 y1 u0 v0)], resWhole [F.int .i64 (IntKind.i64.wrap (v1 - v0))]])) (IntKind.i64.wrap (crossW x0 y0 x1 y1 u0 v0 - crossW x0 y0 x1 y1 u1 v1)))) (unYs (spotF (unNum (resBy [resWhole [F.int .i64 u0], numF (IntKind.i64.wrap (crossW x0 y0 x1 y1 u0 v0 - crossW x0 y0 x1 y1 u1 v1))]) + unNum (resBy [resWhole [F.int .i64 (crossW x0 y0 x1 y1 u0 v0)], resWhole [F.int .i64 (IntKind.i64.wrap (u1 - u0))]])) (unNum (resBy [resWhole [F.int .i64 v0], numF (IntKind.i64.wrap (crossW x0 y0 x1 y1 u0 v0 - crossW x0 y0 x1 y1 u1 v1))]) + unNum (resBy [resWhole [F.int .i64 (crossW x0 y0 x1 y1 u0 v0)], resWhole [F.int .i64 (IntKind.i64.wrap (v1 - v0))]])) (IntKind.i64.wrap (crossW x0 y0 x1 y1 u0 v0 - crossW x0 y0 x1 y1 u1 v1)))) (unWs (spotF (unNum (resBy [resWhole [F.int .i64 u0], numF (IntKind.i64.wrap (crossW x0 y0 x1 y1 u0 v0 - crossW x0 y0 x1 y1 u1 v1))]) + unNum (resBy [resWhole [F.int .i64 (crossW x0 y0 x1 y1 u0 v0)], resWhole [F.int .i64 (IntKind.i64.wrap (u1 - u0))]])) (unNum (resBy [resWhole [F.int .i64 v0], numF (IntKind.i64.wrap (crossW x0 y0 x1 y1 u0 v0 - crossW x0 y0 x1 y1 u1 v1))]) + unNum (resBy [resWhole [F.int .i64 (crossW x0 y0 x1 y1 u0 v0)], resWhole [F.int .i64 (IntKind.i64.wrap (v1 - v0))]])) (IntKind.i64.wrap (crossW x0 y0 x1 y1 u0 v0 - crossW x0 y0 x1 y1 u1 v1))))), F.int .u64 (ptWV 6 (unXs (spotF (unNum (resBy [resWhole [F.int .i64 u0], numF (IntKind.i64.wrap (crossW x0 y0 x1 y1 u0 v0 - crossW x0 y0 x1 y1 u1 v1))]) + unNum (resBy [resWhole [F.int .i64 (crossW x0 y0 x1 y1 u0 v0)], resWhole [F.int .i64 (IntKind.i64.wrap (u1 - u0))]])) (unNum (resBy [resWhole [F.int .i64 v0], numF (IntKind.i64.wrap (crossW x0 y0 x1 y1 u0 v0 - crossW x0 y0 x1 y1 u1 v1))]) + unNum (resBy [resWhole [F.int .i64 (crossW x0 y0 x1 y1 u0 v0)], resWhole [F.int .i64 (IntKind.i64.wrap (v1 - v0))]])) (IntKind.i64.wrap (crossW x0 y0 x1 y1 u0 v0 - crossW x0 y0 x1 y1 u1 v1)))) (unYs (spotF (unNum (resBy [resWhole [F.int .i64 u0], numF (IntKind.i64.wrap (crossW x0 y0 x1 y1 u0 v0 - crossW x0 y0 x1 y1 u1 v1))]) + unNum (resBy [resWhole [F.int .i64 (crossW x0 y0 x1 y1 u0 v0)], resWhole [F.int .i64 (IntKind.i64.wrap (u1 - u0))]])) (unNum (resBy [resWhole [F.int .i64 v0], numF (IntKind.i64.wrap (crossW x0 y0 x1 y1 u0 v0 - crossW x0 y0 x1 y1 u1 v1))]) + unNum (resBy [resWhole [F.int .i64 (crossW x0 y0 x1 y1 u0 v0)], resWhole [F.int .i64 (IntKind.i64.wrap (v1 - v0))]])) (IntKind.i64.wrap (crossW x0 y0 x1 y1 u0 v0 - crossW x0 y0 x1 y1 u1 v1)))) (unWs (spotF (unNum (resBy [resWhole [F.int .i64 u0], numF (IntKind.i64.wrap (crossW x0 y0 x1 y1 u0 v0 - crossW x0 y0 x1 y1 u1 v1))]) + unNum (resBy [resWhole [F.int .i64 (crossW x0 y0 x1 y1 u0 v0)], resWhole [F.int .i64 (IntKind.i64.wrap (u1 - u0))]])) (unNum (resBy [resWhole [F.int .i64 v0], numF (IntKind.i64.wrap (crossW x0 y0 x1 y1 u0 v0 - crossW x0 y0 x1 y1 u1 v1))]) + unNum (resBy [resWhole [F.int .i64 (crossW x0 y0 x1 y1 u0 v0)], resWhole [F.int .i64 (IntKind.i64.wrap (v1 - v0))]])) (IntKind.i64.wrap (crossW x0 y0 x1 y1 u0 v0 - crossW x0 y0 x1 y1 u1 v1))))), F.int .u64 (ptWV 7 (unXs (spotF (unNum (resBy [resWhole [F.int .i64 u0], numF (IntKind.i64.wrap (crossW x0 y0 x1 y1 u0 v0 - crossW x0 y0 x1 y1 u1 v1))]) + unNum (resBy [resWhole [F.int .i64 (crossW x0 y0 x1 y1 u0 v0)], resWhole [F.int .i64 (IntKind.i64.wrap (u1 - u0))]])) (unNum (resBy [resWhole [F.int .i64 v0], numF (IntKind.i64.wrap (crossW x0 y0 x1 y1 u0 v0 - crossW x0 y0 x1 y1 u1 v1))]) + unNum (resBy [resWhole [F.int .i64 (crossW x0 y0 x1 y1 u0 v0)], resWhole [F.int .i64 (IntKind.i64.wrap (v1 - v0))]])) (IntKind.i64.wrap (crossW x0 y0 x1 y1 u0 v0 - crossW x0 y0 x1 y1 u1 v1)))) (unYs (spotF (unNum (resBy [resWhole [F.int .i64 u0], numF (IntKind.i64.wrap (crossW x0 y0 x1 y1 u0 v0 - crossW x0 y0 x1 y1 u1 v1))]) + unNum (resBy [resWhole [F.int .i64 (crossW x0 y0 x1 y1 u0 v0)], resWhole [F.int .i64 (IntKind.i64.wrap (u1 - u0))]])) (unNum (resBy [resWhole [F.int .i64 v0], numF (IntKind.i64.wrap (crossW x0 y0 x1 y1 u0 v0 - crossW x0 y0 x1 y1 u1 v1))]) + unNum (resBy [resWhole [F.int .i64 (crossW x0 y0 x1 y1 u0 v0)], resWhole [F.int .i64 (IntKind.i64.wrap (v1 - v0))]])) (IntKind.i64.wrap (crossW x0 y0 x1 y1 u0 v0 - crossW x0 y0 x1 y1 u1 v1)))) (unWs (spotF (unNum (resBy [resWhole [F.int .i64 u0], numF (IntKind.i64.wrap (crossW x0 y0 x1 y1 u0 v0 - crossW x0 y0 x1 y1 u1 v1))]) + unNum (resBy [resWhole [F.int .i64 (crossW x0 y0 x1 y1 u0 v0)], resWhole [F.int .i64 (IntKind.i64.wrap (u1 - u0))]])) (unNum (resBy [resWhole [F.int .i64 v0], numF (IntKind.i64.wrap (crossW x0 y0 x1 y1 u0 v0 - crossW x0 y0 x1 y1 u1 v1))]) + unNum (resBy [resWhole [F.int .i64 (crossW x0 y0 x1 y1 u0 v0)], resWhole [F.int .i64 (IntKind.i64.wrap (v1 - v0))]])) (IntKind.i64.wrap (crossW x0 y0 x1 y1 u0 v0 - crossW x0 y0 x1 y1 u1 v1))))), F.int .u64 (ptWV 8 (unXs (spotF (unNum (resBy [resWhole [F.int .i64 u0], numF (IntKind.i64.wrap (crossW x0 y0 x1 y1 u0 v0 - crossW x0 y0 x1 y1 u1 v1))]) + unNum (resBy [resWhole [F.int .i64 (crossW x0 y0 x1 y1 u0 v0)], resWhole [F.int .i64 (IntKind.i64.wrap (u1 - u0))]])) (unNum (resBy [resWhole [F.int .i64 v0], numF (IntKind.i64.wrap (crossW x0 y0 x1 y1 u0 v0 - crossW x0 y0 x1 y1 u1 v1))]) + unNum (resBy [resWhole [F.int .i64 (crossW x0 y0 x1 y1 u0 v0)], resWhole [F.int .i64 (IntKind.i64.wrap (v1 - v0))]])) (IntKind.i64.wrap (crossW x0 y0 x1 y1 u0 v0 - crossW x0 y0 x1 y1 u1 v1)))) (unYs (spotF (unNum (resBy [resWhole [F.int .i64 u0], numF (IntKind.i64.wrap (crossW x0 y0 x1 y1 u0 v0 - crossW x0 y0 x1 y1 u1 v1))]) + unNum (resBy [resWhole [F.int .i64 (crossW x0 y0 x1 y1 u0 v0)], resWhole [F.int .i64 (IntKind.i64.wrap (u1 - u0))]])) (unNum (resBy [resWhole [F.int .i64 v0], numF (IntKind.i64.wrap (crossW x0 y0 x1 y1 u0 v0 - crossW x0 y0 x1 y1 u1 v1))]) + unNum (resBy [resWhole [F.int .i64 (crossW x0 y0 x1 y1 u0 v0)], resWhole [F.int .i64 (IntKind.i64.wrap (v1 - v0))]])) (IntKind.i64.wrap (crossW x0 y0 x1 y1 u0 v0 - crossW x0 y0 x1 y1 u1 v1)))) (unWs (spotF (unNum (resBy [resWhole [F.int .i64 u0], numF (IntKind.i64.wrap (crossW x0 y0 x1 y1 u0 v0 - crossW x0 y0 x1 y1 u1 v1))]) + unNum (resBy [resWhole [F.int .i64 (crossW x0 y0 x1 y1 u0 v0)], resWhole [F.int .i64 (IntKind.i64.wrap (u1 - u0))]])) (unNum (resBy [resWhole [F.int .i64 v0], numF (IntKind.i64.wrap (crossW x0 y0 x1 y1 u0 v0 - crossW x0 y0 x1 y1 u1 v1))]) + unNum (resBy [resWhole [F.int .i64 (crossW x0 y0 x1 y1 u0 v0)], resWhole [F.int .i64 (IntKind.i64.wrap (v1 - v0))]])) (IntKind.i64.wrap (crossW x0 y0 x1 y1 u0 v0 - crossW x0 y0 x1 y1 u1 v1))))), F.int .u64 (ptWV 9 (unXs (spotF (unNum (resBy [resWhole [F.int .i64 u0], numF (IntKind.i64.wrap (crossW x0 y0 x1 y1 u0 v0 - crossW x0 y0 x1 y1 u1 v1))]) + unNum (resBy [resWhole [F.int .i64 (crossW x0 y0 x1 y1 u0 v0)], resWhole [F.int .i64 (IntKind.i64.wrap (u1 - u0))]])) (unNum (resBy [resWhole [F.int .i64 v0], numF (IntKind.i64.wrap (crossW x0 y0 x1 y1 u0 v0 - crossW x0 y0 x1 y1 u1 v1))]) + unNum (resBy [resWhole [F.int .i64 (crossW x0 y0 x1 y1 u0 v0)], resWhole [F.int .i64 (IntKind.i64.wrap (v1 - v0))]])) (IntKind.i64.wrap (crossW x0 y0 x1 y1 u0 v0 - crossW x0 y0 x1 y1 u1 v1)))) (unYs (spotF (unNum (resBy [resWhole [F.int .i64 u0], numF (IntKind.i64.wrap (crossW x0 y0 x1 y1 u0 v0 - crossW x0 y0 x1 y1 u1 v1))]) + unNum (resBy [resWhole [F.int .i64 (crossW x0 y0 x1 y1 u0 v0)], resWhole [F.int .i64 (IntKind.i64.wrap (u1 - u0))]])) (unNum (resBy [resWhole [F.int .i64 v0], numF (IntKind.i64.wrap (crossW x0 y0 x1 y1 u0 v0 - crossW x0 y0 x1 y1 u1 v1))]) + unNum (resBy [resWhole [F.int .i64 (crossW x0 y0 x1 y1 u0 v0)], resWhole [F.int .i64 (IntKind.i64.wrap (v1 - v0))]])) (IntKind.i64.wrap (crossW x0 y0 x1 y1 u0 v0 - crossW x0 y0 x1 y1 u1 v1)))) (unWs (spotF (unNum (resBy [resWhole [F.int .i64 u0], numF (IntKind.i64.wrap (crossW x0 y0 x1 y1 u0 v0 - crossW x0 y0 x1 y1 u1 v1))]) + unNum (resBy [resWhole [F.int .i64 (crossW x0 y0 x1 y1 u0 v0)], resWhole [F.int .i64 (IntKind.i64.wrap (u1 - u0))]])) (unNum (resBy [resWhole [F.int .i64 v0], numF (IntKind.i64.wrap (crossW x0 y0 x1 y1 u0 v0 - crossW x0 y0 x1 y1 u1 v1))]) + unNum (resBy [resWhole [F.int .i64 (crossW x0 y0 x1 y1 u0 v0)], resWhole [F.int .i64 (IntKind.i64.wrap (v1 - v0))]])) (IntKind.i64.wrap (crossW x0 y0 x1 y1 u0 v0 - crossW x0 y0 x1 y1 u1 v1))))), F.int .u64 (ptWV 10 (unXs (spotF (unNum (resBy [resWhole [F.int .i64 u0], numF (IntKind.i64.wrap (crossW x0 y0 x1 y1 u0 v0 - crossW x0 y0 x1 y1 u1 v1))]) + unNum (resBy [resWhole [F.int .i64 (crossW x0 y0 x1 y1 u0 v0)], resWhole [F.int .i64 (IntKind.i64.wrap (u1 - u0))]])) (unNum (resBy [resWhole [F.int .i64 v0], numF (IntKind.i64.wrap (crossW x0 y0 x1 y1 u0 v0 - crossW x0 y0 x1 y1 u1 v1))]) + unNum (resBy [resWhole [F.int .i64 (crossW x0 y0 x1 y1 u0 v0)], resWhole [F.int .i64 (IntKind.i64.wrap (v1 - v0))]])) (IntKind.i64.wrap (crossW x0 y0 x1 y1 u0 v0 - crossW x0 y0 x1 y1 u1 v1)))) (unYs (spotF (unNum (resBy [resWhole [F.int .i64 u0], numF (IntKind.i64.wrap (crossW x0 y0 x1 y1 u0 v0 - crossW x0 y0 x1 y1 u1 v1))]) + unNum (resBy [resWhole [F.int .i64 (crossW x0 y0 x1 y1 u0 v0)], resWhole [F.int .i64 (IntKind.i64.wrap (u1 - u0))]])) (unNum (resBy [resWhole [F.int .i64 v0], numF (IntKind.i64.wrap (crossW x0 y0 x1 y1 u0 v0 - crossW x0 y0 x1 y1 u1 v1))]) + unNum (resBy [resWhole [F.int .i64 (crossW x0 y0 x1 y1 u0 v0)], resWhole [F.int .i64 (IntKind.i64.wrap (v1 - v0))]])) (IntKind.i64.wrap (crossW x0 y0 x1 y1 u0 v0 - crossW x0 y0 x1 y1 u1 v1)))) (unWs (spotF (unNum (resBy [resWhole [F.int .i64 u0], numF (IntKind.i64.wrap (crossW x0 y0 x1 y1 u0 v0 - crossW x0 y0 x1 y1 u1 v1))]) + unNum (resBy [resWhole [F.int .i64 (crossW x0 y0 x1 y1 u0 v0)], resWhole [F.int .i64 (IntKind.i64.wrap (u1 - u0))]])) (unNum (resBy [resWhole [F.int .i64 v0], numF (IntKind.i64.wrap (crossW x0 y0 x1 y1 u0 v0 - crossW x0 y0 x1 y1 u1 v1))]) + unNum (resBy [resWhole [F.int .i64 (crossW x0 y0 x1 y1 u0 v0)], resWhole [F.int .i64 (IntKind.i64.wrap (v1 - v0))]])) (IntKind.i64.wrap (crossW x0 y0 x1 y1 u0 v0 - crossW x0 y0 x1 y1 u1 v1))))), F.int .u64 (ptWV 11 (unXs (spotF (unNum (resBy [resWhole [F.int .i64 u0], numF (IntKind.i64.wrap (crossW x0 y0 x1 y1 u0 v0 - crossW x0 y0 x1 y1 u1 v1))]) + unNum (resBy [resWhole [F.int .i64 (crossW x0 y0 x1 y1 u0 v0)], resWhole [F.int .i64 (IntKind.i64.wrap (u1 - u0))]])) (unNum (resBy [resWhole [F.int .i64 v0], numF (IntKind.i64.wrap (crossW x0 y0 x1 y1 u0 v0 - crossW x0 y0 x1 y1 u1 v1))]) + unNum (resBy [resWhole [F.int .i64 (crossW x0 y0 x1 y1 u0 v0)], resWhole [F.int .i64 (IntKind.i64.wrap (v1 - v0))]])) (IntKind.i64.wrap (crossW x0 y0 x1 y1 u0 v0 - crossW x0 y0 x1 y1 u1 v1)))) (unYs (spotF (unNum (resBy [resWhole [F.int .i64 u0], numF (IntKind.i64.wrap (crossW x0 y0 x1 y1 u0 v0 - crossW x0 y0 x1 y1 u1 v1))]) + unNum (resBy [resWhole [F.int .i64 (crossW x0 y0 x1 y1 u0 v0)], resWhole [F.int .i64 (IntKind.i64.wrap (u1 - u0))]])) (unNum (resBy [resWhole [F.int .i64 v0], numF (IntKind.i64.wrap (crossW x0 y0 x1 y1 u0 v0 - crossW x0 y0 x1 y1 u1 v1))]) + unNum (resBy [resWhole [F.int .i64 (crossW x0 y0 x1 y1 u0 v0)], resWhole [F.int .i64 (IntKind.i64.wrap (v1 - v0))]])) (IntKind.i64.wrap (crossW x0 y0 x1 y1 u0 v0 - crossW x0 y0 x1 y1 u1 v1)))) (unWs (spotF (unNum (resBy [resWhole [F.int .i64 u0], numF (IntKind.i64.wrap (crossW x0 y0 x1 y1 u0 v0 - crossW x0 y0 x1 y1 u1 v1))]) + unNum (resBy [resWhole [F.int .i64 (crossW x0 y0 x1 y1 u0 v0)], resWhole [F.int .i64 (IntKind.i64.wrap (u1 - u0))]])) (unNum (resBy [resWhole [F.int .i64 v0], numF (IntKind.i64.wrap (crossW x0 y0 x1 y1 u0 v0 - crossW x0 y0 x1 y1 u1 v1))]) + unNum (resBy [resWhole [F.int .i64 (crossW x0 y0 x1 y1 u0 v0)], resWhole [F.int .i64 (IntKind.i64.wrap (v1 - v0))]])) (IntKind.i64.wrap (crossW x0 y0 x1 y1 u0 v0 - crossW x0 y0 x1 y1 u1 v1)))))], F.agg [F.int .u64 0, F.int .u64 0, F.int .u64 0, F.int .u64 0, F.int .u64 0, F.int .u64 0, F.int .u64 0, F.int .u64 0, F.int .u64 0, F.int .u64 0, F.int .u64 0, F.int .u64 0]]))
 none)
 none)
 none)
 none)
 none)
 none)
 none)
 none)
 none)
 none)
 none)
 none)
 none)
 none))
 (ret (F.tup [F.int .i64 0, F.agg [F.int .u64 0, F.int .u64 0, F.int .u64 0, F.int .u64 0, F.int .u64 0, F.int .u64 0, F.int .u64 0, F.int .u64 0, F.int .u64 0, F.int .u64 0, F.int .u64 0, F.int .u64 0], F.agg [F.int .u64 0, F.int .u64 0, F.int .u64 0, F.int .u64 0, F.int .u64 0, F.int .u64 0, F.int .u64 0, F.int .u64 0, F.int .u64 0, F.int .u64 0, F.int .u64 0, F.int .u64 0]]))))
 (bsel (decide (IntKind.i64.wrap (signV (crossW x0 y0 x1 y1 u0 v0) * signV (crossW x0 y0 x1 y1 u1 v1)) > 0) == false)
 (bsel (decide (IntKind.i64.wrap (signV (crossW u0 v0 u1 v1 x0 y0) * signV (crossW u0 v0 u1 v1 x1 y1)) > 0))
 (ret (F.tup [F.int .i64 0, F.agg [F.int .u64 0, F.int .u64 0, F.int .u64 0, F.int .u64 0, F.int .u64 0, F.int .u64 0, F.int .u64 0, F.int .u64 0, F.int .u64 0, F.int .u64 0, F.int .u64 0, F.int .u64 0], F.agg [F.int .u64 0, F.int .u64 0, F.int .u64 0, F.int .u64 0, F.int .u64 0, F.int .u64 0, F.int .u64 0, F.int .u64 0, F.int .u64 0, F.int .u64 0, F.int .u64 0, F.int .u64 0]]))
 (bsel (isI64 (IntKind.i64.wrap (crossW x0 y0 x1 y1 u0 v0 - crossW x0 y0 x1 y1 u1 v1)))
 (bsel (isI64 u0)
 (bsel (isNum 400 (resWhole [F.int .i64 u0]) && isNum 400 (numF (IntKind.i64.wrap (crossW x0 y0 x1 y1 u0 v0 - crossW x0 y0 x1 y1 u1 v1))))
 (bsel (isI64 (crossW x0 y0 x1 y1 u0 v0))
 (bsel (isI64 (IntKind.i64.wrap (u1 - u0)))
 (bsel (isNum 400 (resWhole [F.int .i64 (crossW x0 y0 x1 y1 u0 v0)]) && isNum 400 (resWhole [F.int .i64 (IntKind.i64.wrap (u1 - u0))]))
 (bsel (isNum 400 (resBy [resWhole [F.int .i64 u0], numF (IntKind.i64.wrap (crossW x0 y0 x1 y1 u0 v0 - crossW x0 y0 x1 y1 u1 v1))]) && isNum 400 (resBy [resWhole [F.int .i64 (crossW x0 y0 x1 y1 u0 v0)], resWhole [F.int .i64 (IntKind.i64.wrap (u1 - u0))]]))
 (bsel (isI64 v0)
 (bsel (isNum 400 (resWhole [F.int .i64 v0]) && isNum 400 (numF (IntKind.i64.wrap (crossW x0 y0 x1 y1 u0 v0 - crossW x0 y0 x1 y1 u1 v1))))
 (bsel (isI64 (crossW x0 y0 x1 y1 u0 v0))
 (bsel (isI64 (IntKind.i64.wrap (v1 - v0)))
 (bsel (isNum 400 (resWhole [F.int .i64 (crossW x0 y0 x1 y1 u0 v0)]) && isNum 400 (resWhole [F.int .i64 (IntKind.i64.wrap (v1 - v0))]))
 (bsel (isNum 400 (resBy [resWhole [F.int .i64 v0], numF (IntKind.i64.wrap (crossW x0 y0 x1 y1 u0 v0 - crossW x0 y0 x1 y1 u1 v1))]) && isNum 400 (resBy [resWhole [F.int .i64 (crossW x0 y0 x1 y1 u0 v0)], resWhole [F.int .i64 (IntKind.i64.wrap (v1 - v0))]]))
 (bsel (isSpot3 1 (spotF (unNum (resBy [resWhole [F.int .i64 u0], numF (IntKind.i64.wrap (crossW x0 y0 x1 y1 u0 v0 - crossW x0 y0 x1 y1 u1 v1))]) + unNum (resBy [resWhole [F.int .i64 (crossW x0 y0 x1 y1 u0 v0)], resWhole [F.int .i64 (IntKind.i64.wrap (u1 - u0))]])) (unNum (resBy [resWhole [F.int .i64 v0], numF (IntKind.i64.wrap (crossW x0 y0 x1 y1 u0 v0 - crossW x0 y0 x1 y1 u1 v1))]) + unNum (resBy [resWhole [F.int .i64 (crossW x0 y0 x1 y1 u0 v0)], resWhole [F.int .i64 (IntKind.i64.wrap (v1 - v0))]])) (IntKind.i64.wrap (crossW x0 y0 x1 y1 u0 v0 - crossW x0 y0 x1 y1 u1 v1))))
 (ret (F.tup [F.int .i64 1, F.agg [F.int .u64 (ptWV 0 (unXs (spotF (unNum (resBy [resWhole [F.int .i64 u0], numF (IntKind.i64.wrap (crossW x0 y0 x1 y1 u0 v0 - crossW x0 y0 x1 y1 u1 v1))]) + unNum (resBy [resWhole [F.int .i64 (crossW x0 y0 x1 y1 u0 v0)], resWhole [F.int .i64 (IntKind.i64.wrap (u1 - u0))]])) (unNum (resBy [resWhole [F.int .i64 v0], numF (IntKind.i64.wrap (crossW x0 y0 x1 y1 u0 v0 - crossW x0 y0 x1 y1 u1 v1))]) + unNum (resBy [resWhole [F.int .i64 (crossW x0 y0 x1 y1 u0 v0)], resWhole [F.int .i64 (IntKind.i64.wrap (v1 - v0))]])) (IntKind.i64.wrap (crossW x0 y0 x1 y1 u0 v0 - crossW x0 y0 x1 y1 u1 v1)))) (unYs (spotF (unNum (resBy [resWhole [F.int .i64 u0], numF (IntKind.i64.wrap (crossW x0 y0 x1 y1 u0 v0 - crossW x0 y0 x1 y1 u1 v1))]) + unNum (resBy [resWhole [F.int .i64 (crossW x0 y0 x1 y1 u0 v0)], resWhole [F.int .i64 (IntKind.i64.wrap (u1 - u0))]])) (unNum (resBy [resWhole [F.int .i64 v0], numF (IntKind.i64.wrap (crossW x0 y0 x1 y1 u0 v0 - crossW x0 y0 x1 y1 u1 v1))]) + unNum (resBy [resWhole [F.int .i64 (crossW x0 y0 x1 y1 u0 v0)], resWhole [F.int .i64 (IntKind.i64.wrap (v1 - v0))]])) (IntKind.i64.wrap (crossW x0 y0 x1 y1 u0 v0 - crossW x0 y0 x1 y1 u1 v1)))) (unWs (spotF (unNum (resBy [resWhole [F.int .i64 u0], numF (IntKind.i64.wrap (crossW x0 y0 x1 y1 u0 v0 - crossW x0 y0 x1 y1 u1 v1))]) + unNum (resBy [resWhole [F.int .i64 (crossW x0 y0 x1 y1 u0 v0)], resWhole [F.int .i64 (IntKind.i64.wrap (u1 - u0))]])) (unNum (resBy [resWhole [F.int .i64 v0], numF (IntKind.i64.wrap (crossW x0 y0 x1 y1 u0 v0 - crossW x0 y0 x1 y1 u1 v1))]) + unNum (resBy [resWhole [F.int .i64 (crossW x0 y0 x1 y1 u0 v0)], resWhole [F.int .i64 (IntKind.i64.wrap (v1 - v0))]])) (IntKind.i64.wrap (crossW x0 y0 x1 y1 u0 v0 - crossW x0 y0 x1 y1 u1 v1))))), F.int .u64 (ptWV 1 (unXs (spotF (unNum (resBy [resWhole [F.int .i64 u0], numF (IntKind.i64.wrap (crossW x0 y0 x1 y1 u0 v0 - crossW x0 y0 x1 y1 u1 v1))]) + unNum (resBy [resWhole [F.int .i64 (crossW x0 y0 x1 y1 u0 v0)], resWhole [F.int .i64 (IntKind.i64.wrap (u1 - u0))]])) (unNum (resBy [resWhole [F.int .i64 v0], numF (IntKind.i64.wrap (crossW x0 y0 x1 y1 u0 v0 - crossW x0 y0 x1 y1 u1 v1))]) + unNum (resBy [resWhole [F.int .i64 (crossW x0 y0 x1 y1 u0 v0)], resWhole [F.int .i64 (IntKind.i64.wrap (v1 - v0))]])) (IntKind.i64.wrap (crossW x0 y0 x1 y1 u0 v0 - crossW x0 y0 x1 y1 u1 v1)))) (unYs (spotF (unNum (resBy [resWhole [F.int .i64 u0], numF (IntKind.i64.wrap (crossW x0 y0 x1 y1 u0 v0 - crossW x0 y0 x1 y1 u1 v1))]) + unNum (resBy [resWhole [F.int .i64 (crossW x0 y0 x1 y1 u0 v0)], resWhole [F.int .i64 (IntKind.i64.wrap (u1 - u0))]])) (unNum (resBy [resWhole [F.int .i64 v0], numF (IntKind.i64.wrap (crossW x0 y0 x1 y1 u0 v0 - crossW x0 y0 x1 y1 u1 v1))]) + unNum (resBy [resWhole [F.int .i64 (crossW x0 y0 x1 y1 u0 v0)], resWhole [F.int .i64 (IntKind.i64.wrap (v1 - v0))]])) (IntKind.i64.wrap (crossW x0 y0 x1 y1 u0 v0 - crossW x0 y0 x1 y1 u1 v1)))) (unWs (spotF (unNum (resBy [resWhole [F.int .i64 u0], numF (IntKind.i64.wrap (crossW x0 y0 x1 y1 u0 v0 - crossW x0 y0 x1 y1 u1 v1))]) + unNum (resBy [resWhole [F.int .i64 (crossW x0 y0 x1 y1 u0 v0)], resWhole [F.int .i64 (IntKind.i64.wrap (u1 - u0))]])) (unNum (resBy [resWhole [F.int .i64 v0], numF (IntKind.i64.wrap (crossW x0 y0 x1 y1 u0 v0 - crossW x0 y0 x1 y1 u1 v1))]) + unNum (resBy [resWhole [F.int .i64 (crossW x0 y0 x1 y1 u0 v0)], resWhole [F.int .i64 (IntKind.i64.wrap (v1 - v0))]])) (IntKind.i64.wrap (crossW x0 y0 x1 y1 u0 v0 - crossW x0 y0 x1 y1 u1 v1))))), F.int .u64 (ptWV 2 (unXs (spotF (unNum (resBy [resWhole [F.int .i64 u0], numF (IntKind.i64.wrap (crossW x0 y0 x1 y1 u0 v0 - crossW x0 y0 x1 y1 u1 v1))]) + unNum (resBy [resWhole [F.int .i64 (crossW x0 y0 x1 y1 u0 v0)], resWhole [F.int .i64 (IntKind.i64.wrap (u1 - u0))]])) (unNum (resBy [resWhole [F.int .i64 v0], numF (IntKind.i64.wrap (crossW x0 y0 x1 y1 u0 v0 - crossW x0 y0 x1 y1 u1 v1))]) + unNum (resBy [resWhole [F.int .i64 (crossW x0 y0 x1 y1 u0 v0)], resWhole [F.int .i64 (IntKind.i64.wrap (v1 - v0))]])) (IntKind.i64.wrap (crossW x0 y0 x1 y1 u0 v0 - crossW x0 y0 x1 y1 u1 v1)))) (unYs (spotF (unNum (resBy [resWhole [F.int .i64 u0], numF (IntKind.i64.wrap (crossW x0 y0 x1 y1 u0 v0 - crossW x0 y0 x1 y1 u1 v1))]) + unNum (resBy [resWhole [F.int .i64 (crossW x0 y0 x1 y1 u0 v0)], resWhole [F.int .i64 (IntKind.i64.wrap (u1 - u0))]])) (unNum (resBy [resWhole [F.int .i64 v0], numF (IntKind.i64.wrap (crossW x0 y0 x1 y1 u0 v0 - crossW x0 y0 x1 y1 u1 v1))]) + unNum (resBy [resWhole [F.int .i64 (crossW x0 y0 x1 y1 u0 v0)], resWhole [F.int .i64 (IntKind.i64.wrap (v1 - v0))]])) (IntKind.i64.wrap (crossW x0 y0 x1 y1 u0 v0 - crossW x0 y0 x1 y1 u1 v1)))) (unWs (spotF (unNum (resBy [resWhole [F.int .i64 u0], numF (IntKind.i64.wrap (crossW x0 y0 x1 y1 u0 v0 - crossW x0 y0 x1 y1 u1 v1))]) + unNum (resBy [resWhole [F.int .i64 (crossW x0 y0 x1 y1 u0 v0)], resWhole [F.int .i64 (IntKind.i64.wrap (u1 - u0))]])) (unNum (resBy [resWhole [F.int .i64 v0], numF (IntKind.i64.wrap (crossW x0 y0 x1 y1 u0 v0 - crossW x0 y0 x1 y1 u1 v1))]) + unNum (resBy [resWhole [F.int .i64 (crossW x0 y0 x1 y1 u0 v0)], resWhole [F.int .i64 (IntKind.i64.wrap (v1 - v0))]])) (IntKind.i64.wrap (crossW x0 y0 x1 y1 u0 v0 - crossW x0 y0 x1 y1 u1 v1))))), F.int .u64 (ptWV 3 (unXs (spotF (unNum (resBy [resWhole [F.int .i64 u0], numF (IntKind.i64.wrap (crossW x0 y0 x1 y1 u0 v0 - crossW x0 y0 x1 y1 u1 v1))]) + unNum (resBy [resWhole [F.int .i64 (crossW x0 y0 x1 y1 u0 v0)], resWhole [F.int .i64 (IntKind.i64.wrap (u1 - u0))]])) (unNum (resBy [resWhole [F.int .i64 v0], numF (IntKind.i64.wrap (crossW x0 y0 x1 y1 u0 v0 - crossW x0 y0 x1 y1 u1 v1))]) + unNum (resBy [resWhole [F.int .i64 (crossW x0 y0 x1 y1 u0 v0)], resWhole [F.int .i64 (IntKind.i64.wrap (v1 - v0))]])) (IntKind.i64.wrap (crossW x0 y0 x1 y1 u0 v0 - crossW x0 y0 x1 y1 u1 v1)))) (unYs (spotF (unNum (resBy [resWhole [F.int .i64 u0], numF (IntKind.i64.wrap (crossW x0 y0 x1 y1 u0 v0 - crossW x0 y0 x1 y1 u1 v1))]) + unNum (resBy [resWhole [F.int .i64 (crossW x0 y0 x1 y1 u0 v0)], resWhole [F.int .i64 (IntKind.i64.wrap (u1 - u0))]])) (unNum (resBy [resWhole [F.int .i64 v0], numF (IntKind.i64.wrap (crossW x0 y0 x1 y1 u0 v0 - crossW x0 y0 x1 y1 u1 v1))]) + unNum (resBy [resWhole [F.int .i64 (crossW x0 y0 x1 y1 u0 v0)], resWhole [F.int .i64 (IntKind.i64.wrap (v1 - v0))]])) (IntKind.i64.wrap (crossW x0 y0 x1 y1 u0 v0 - crossW x0 y0 x1 y1 u1 v1)))) (unWs (spotF (unNum (resBy [resWhole [F.int .i64 u0], numF (IntKind.i64.wrap (crossW x0 y0 x1 y1 u0 v0 - crossW x0 y0 x1 y1 u1 v1))]) + unNum (resBy [resWhole [F.int .i64 (crossW x0 y0 x1 y1 u0 v0)], resWhole [F.int .i64 (IntKind.i64.wrap (u1 - u0))]])) (unNum (resBy [resWhole [F.int .i64 v0], numF (IntKind.i64.wrap (crossW x0 y0 x1 y1 u0 v0 - crossW x0 y0 x1 y1 u1 v1))]) + unNum (resBy [resWhole [F.int .i64 (crossW x0 y0 x1 y1 u0 v0)], resWhole [F.int .i64 (IntKind.i64.wrap (v1 - v0))]])) (IntKind.i64.wrap (crossW x0 y0 x1 y1 u0 v0 - crossW x0 y0 x1 y1 u1 v1))))), F.int .u64 (ptWV 4 (unXs (spotF (unNum (resBy [resWhole [F.int .i64 u0], numF (IntKind.i64.wrap (crossW x0 y0 x1 y1 u0 v0 - crossW x0 y0 x1 y1 u1 v1))]) + unNum (resBy [resWhole [F.int .i64 (crossW x0 y0 x1 y1 u0 v0)], resWhole [F.int .i64 (IntKind.i64.wrap (u1 - u0))]])) (unNum (resBy [resWhole [F.int .i64 v0], numF (IntKind.i64.wrap (crossW x0 y0 x1 y1 u0 v0 - crossW x0 y0 x1 y1 u1 v1))]) + unNum (resBy [resWhole [F.int .i64 (crossW x0 y0 x1 y1 u0 v0)], resWhole [F.int .i64 (IntKind.i64.wrap (v1 - v0))]])) (IntKind.i64.wrap (crossW x0 y0 x1 y1 u0 v0 - crossW x0 y0 x1 y1 u1 v1)))) (unYs (spotF (unNum (resBy [resWhole [F.int .i64 u0], numF (IntKind.i64.wrap (crossW x0 y0 x1 y1 u0 v0 - crossW x0 y0 x1 y1 u1 v1))]) + unNum (resBy [resWhole [F.int .i64 (crossW x0 y0 x1 y1 u0 v0)], resWhole [F.int .i64 (IntKind.i64.wrap (u1 - u0))]])) (unNum (resBy [resWhole [F.int .i64 v0], numF (IntKind.i64.wrap (crossW x0 y0 x1 y1 u0 v0 - crossW x0 y0 x1 y1 u1 v1))]) + unNum (resBy [resWhole [F.int .i64 (crossW x0 y0 x1 y1 u0 v0)], resWhole [F.int .i64 (IntKind.i64.wrap (v1 - v0))]])) (IntKind.i64.wrap (crossW x0 y0 x1 y1 u0 v0 - crossW x0 y0 x1 y1 u1 v1)))) (unWs (spotF (unNum (resBy [resWhole [F.int .i64 u0], numF (IntKind.i64.wrap (crossW x0 y0 x1 y1 u0 v0 - crossW x0 y0 x1 y1 u1 v1))]) + unNum (resBy [resWhole [F.int .i64 (crossW x0 y0 x1 y1 u0 v0)], resWhole [F.int .i64 (IntKind.i64.wrap (u1 - u0))]])) (unNum (resBy [resWhole [F.int .i64 v0], numF (IntKind.i64.wrap (crossW x0 y0 x1 y1 u0 v0 - crossW x0 y0 x1 y1 u1 v1))]) + unNum (resBy [resWhole [F.int .i64 (crossW x0 y0 x1 y1 u0 v0)], resWhole [F.int .i64 (IntKind.i64.wrap (v1 - v0))]])) (IntKind.i64.wrap (crossW x0 y0 x1 y1 u0 v0 - crossW x0 y0 x1 y1 u1 v1))))), F.int .u64 (ptWV 5 (unXs (spotF (unNum (resBy [resWhole [F.int .i64 u0], numF (IntKind.i64.wrap (crossW x0 y0 x1 y1 u0 v0 - crossW x0 y0 x1 y1 u1 v1))]) + unNum (resBy [resWhole [F.int .i64 (crossW x0 y0 x1 y1 u0 v0)], resWhole [F.int .i64 (IntKind.i64.wrap (u1 - u0))]])) (unNum (resBy [resWhole [F.int .i64 v0], numF (IntKind.i64.wrap (crossW x0 y0 x1 y1 u0 v0 - crossW x0 y0 x1 y1 u1 v1))]) + unNum (resBy [resWhole [F.int .i64 (crossW x0 y0 x1 y1 u0 v0)], resWhole [F.int .i64 (IntKind.i64.wrap (v1 - v0))]])) (IntKind.i64.wrap (crossW x0 y0 x1 y1 u0 v0 - crossW x0 y0 x1 y1 u1 v1)))) (unYs (spotF (unNum (resBy [resWhole [F.int .i64 u0], numF (IntKind.i64.wrap (crossW x0 y0 x1 y1 u0 v0 - crossW x0 y0 x1 y1 u1 v1))]) + unNum (resBy [resWhole [F.int .i64 (crossW x0 y0 x1 y1 u0 v0)], resWhole [F.int .i64 (IntKind.i64.wrap (u1 - u0))]])) (unNum (resBy [resWhole [F.int .i64 v0], numF (IntKind.i64.wrap (crossW x0 y0 x1 y1 u0 v0 - crossW x0 y0 x1 y1 u1 v1))]) + unNum (resBy [resWhole [F.int .i64 (crossW x0 y0 x1 y1 u0 v0)], resWhole [F.int .i64 (IntKind.i64.wrap (v1 - v0))]])) (IntKind.i64.wrap (crossW x0 y0 x1 y1 u0 v0 - crossW x0 y0 x1 y1 u1 v1)))) (unWs (spotF (unNum (resBy [resWhole [F.int .i64 u0], numF (IntKind.i64.wrap (crossW x0 y0 x1 y1 u0 v0 - crossW x0 y0 x1 y1 u1 v1))]) + unNum (resBy [resWhole [F.int .i64 (crossW x0 y0 x1 y1 u0 v0)], resWhole [F.int .i64 (IntKind.i64.wrap (u1 - u0))]])) (unNum (resBy [resWhole [F.int .i64 v0], numF (IntKind.i64.wrap (crossW x0 y0 x1 y1 u0 v0 - crossW x0 y0 x1 y1 u1 v1))]) + unNum (resBy [resWhole [F.int .i64 (crossW x0 y0 x1 y1 u0 v0)], resWhole [F.int .i64 (IntKind.i64.wrap (v1 - v0))]])) (IntKind.i64.wrap (crossW x0 y0 x1 y1 u0 v0 - crossW x0 y0 x1 y1 u1 v1))))), F.int .u64 (ptWV 6 (unXs (spotF (unNum (resBy [resWhole [F.int .i64 u0], numF (IntKind.i64.wrap (crossW x0 y0 x1 y1 u0 v0 - crossW x0 y0 x1 y1 u1 v1))]) + unNum (resBy [resWhole [F.int .i64 (crossW x0 y0 x1 y1 u0 v0)], resWhole [F.int .i64 (IntKind.i64.wrap (u1 - u0))]])) (unNum (resBy [resWhole [F.int .i64 v0], numF (IntKind.i64.wrap (crossW x0 y0 x1 y1 u0 v0 - crossW x0 y0 x1 y1 u1 v1))]) + unNum (resBy [resWhole [F.int .i64 (crossW x0 y0 x1 y1 u0 v0)], resWhole [F.int .i64 (IntKind.i64.wrap (v1 - v0))]])) (IntKind.i64.wrap (crossW x0 y0 x1 y1 u0 v0 - crossW x0 y0 x1 y1 u1 v1)))) (unYs (spotF (unNum (resBy [resWhole [F.int .i64 u0], numF (IntKind.i64.wrap (crossW x0 y0 x1 y1 u0 v0 - crossW x0 y0 x1 y1 u1 v1))]) + unNum (resBy [resWhole [F.int .i64 (crossW x0 y0 x1 y1 u0 v0)], resWhole [F.int .i64 (IntKind.i64.wrap (u1 - u0))]])) (unNum (resBy [resWhole [F.int .i64 v0], numF (IntKind.i64.wrap (crossW x0 y0 x1 y1 u0 v0 - crossW x0 y0 x1 y1 u1 v1))]) + unNum (resBy [resWhole [F.int .i64 (crossW x0 y0 x1 y1 u0 v0)], resWhole [F.int .i64 (IntKind.i64.wrap (v1 - v0))]])) (IntKind.i64.wrap (crossW x0 y0 x1 y1 u0 v0 - crossW x0 y0 x1 y1 u1 v1)))) (unWs (spotF (unNum (resBy [resWhole [F.int .i64 u0], numF (IntKind.i64.wrap (crossW x0 y0 x1 y1 u0 v0 - crossW x0 y0 x1 y1 u1 v1))]) + unNum (resBy [resWhole [F.int .i64 (crossW x0 y0 x1 y1 u0 v0)], resWhole [F.int .i64 (IntKind.i64.wrap (u1 - u0))]])) (unNum (resBy [resWhole [F.int .i64 v0], numF (IntKind.i64.wrap (crossW x0 y0 x1 y1 u0 v0 - crossW x0 y0 x1 y1 u1 v1))]) + unNum (resBy [resWhole [F.int .i64 (crossW x0 y0 x1 y1 u0 v0)], resWhole [F.int .i64 (IntKind.i64.wrap (v1 - v0))]])) (IntKind.i64.wrap (crossW x0 y0 x1 y1 u0 v0 - crossW x0 y0 x1 y1 u1 v1))))), F.int .u64 (ptWV 7 (unXs (spotF (unNum (resBy [resWhole [F.int .i64 u0], numF (IntKind.i64.wrap (crossW x0 y0 x1 y1 u0 v0 - crossW x0 y0 x1 y1 u1 v1))]) + unNum (resBy [resWhole [F.int .i64 (crossW x0 y0 x1 y1 u0 v0)], resWhole [F.int .i64 (IntKind.i64.wrap (u1 - u0))]])) (unNum (resBy [resWhole [F.int .i64 v0], numF (IntKind.i64.wrap (crossW x0 y0 x1 y1 u0 v0 - crossW x0 y0 x1 y1 u1 v1))]) + unNum (resBy [resWhole [F.int .i64 (crossW x0 y0 x1 y1 u0 v0)], resWhole [F.int .i64 (IntKind.i64.wrap (v1 - v0))]])) (IntKind.i64.wrap (crossW x0 y0 x1 y1 u0 v0 - crossW x0 y0 x1 y1 u1 v1)))) (unYs (spotF (unNum (resBy [resWhole [F.int .i64 u0], numF (IntKind.i64.wrap (crossW x0 y0 x1 y1 u0 v0 - crossW x0 y0 x1 y1 u1 v1))]) + unNum (resBy [resWhole [F.int .i64 (crossW x0 y0 x1 y1 u0 v0)], resWhole [F.int .i64 (IntKind.i64.wrap (u1 - u0))]])) (unNum (resBy [resWhole [F.int .i64 v0], numF (IntKind.i64.wrap (crossW x0 y0 x1 y1 u0 v0 - crossW x0 y0 x1 y1 u1 v1))]) + unNum (resBy [resWhole [F.int .i64 (crossW x0 y0 x1 y1 u0 v0)], resWhole [F.int .i64 (IntKind.i64.wrap (v1 - v0))]])) (IntKind.i64.wrap (crossW x0 y0 x1 y1 u0 v0 - crossW x0 y0 x1 y1 u1 v1)))) (unWs (spotF (unNum (resBy [resWhole [F.int .i64 u0], numF (IntKind.i64.wrap (crossW x0 y0 x1 y1 u0 v0 - crossW x0 y0 x1 y1 u1 v1))]) + unNum (resBy [resWhole [F.int .i64 (crossW x0 y0 x1 y1 u0 v0)], resWhole [F.int .i64 (IntKind.i64.wrap (u1 - u0))]])) (unNum (resBy [resWhole [F.int .i64 v0], numF (IntKind.i64.wrap (crossW x0 y0 x1 y1 u0 v0 - crossW x0 y0 x1 y1 u1 v1))]) + unNum (resBy [resWhole [F.int .i64 (crossW x0 y0 x1 y1 u0 v0)], resWhole [F.int .i64 (IntKind.i64.wrap (v1 - v0))]])) (IntKind.i64.wrap (crossW x0 y0 x1 y1 u0 v0 - crossW x0 y0 x1 y1 u1 v1))))), F.int .u64 (ptWV 8 (unXs (spotF (unNum (resBy [resWhole [F.int .i64 u0], numF (IntKind.i64.wrap (crossW x0 y0 x1 y1 u0 v0 - crossW x0 y0 x1 y1 u1 v1))]) + unNum (resBy [resWhole [F.int .i64 (crossW x0 y0 x1 y1 u0 v0)], resWhole [F.int .i64 (IntKind.i64.wrap (u1 - u0))]])) (unNum (resBy [resWhole [F.int .i64 v0], numF (IntKind.i64.wrap (crossW x0 y0 x1 y1 u0 v0 - crossW x0 y0 x1 y1 u1 v1))]) + unNum (resBy [resWhole [F.int .i64 (crossW x0 y0 x1 y1 u0 v0)], resWhole [F.int .i64 (IntKind.i64.wrap (v1 - v0))]])) (IntKind.i64.wrap (crossW x0 y0 x1 y1 u0 v0 - crossW x0 y0 x1 y1 u1 v1)))) (unYs (spotF (unNum (resBy [resWhole [F.int .i64 u0], numF (IntKind.i64.wrap (crossW x0 y0 x1 y1 u0 v0 - crossW x0 y0 x1 y1 u1 v1))]) + unNum (resBy [resWhole [F.int .i64 (crossW x0 y0 x1 y1 u0 v0)], resWhole [F.int .i64 (IntKind.i64.wrap (u1 - u0))]])) (unNum (resBy [resWhole [F.int .i64 v0], numF (IntKind.i64.wrap (crossW x0 y0 x1 y1 u0 v0 - crossW x0 y0 x1 y1 u1 v1))]) + unNum (resBy [resWhole [F.int .i64 (crossW x0 y0 x1 y1 u0 v0)], resWhole [F.int .i64 (IntKind.i64.wrap (v1 - v0))]])) (IntKind.i64.wrap (crossW x0 y0 x1 y1 u0 v0 - crossW x0 y0 x1 y1 u1 v1)))) (unWs (spotF (unNum (resBy [resWhole [F.int .i64 u0], numF (IntKind.i64.wrap (crossW x0 y0 x1 y1 u0 v0 - crossW x0 y0 x1 y1 u1 v1))]) + unNum (resBy [resWhole [F.int .i64 (crossW x0 y0 x1 y1 u0 v0)], resWhole [F.int .i64 (IntKind.i64.wrap (u1 - u0))]])) (unNum (resBy [resWhole [F.int .i64 v0], numF (IntKind.i64.wrap (crossW x0 y0 x1 y1 u0 v0 - crossW x0 y0 x1 y1 u1 v1))]) + unNum (resBy [resWhole [F.int .i64 (crossW x0 y0 x1 y1 u0 v0)], resWhole [F.int .i64 (IntKind.i64.wrap (v1 - v0))]])) (IntKind.i64.wrap (crossW x0 y0 x1 y1 u0 v0 - crossW x0 y0 x1 y1 u1 v1))))), F.int .u64 (ptWV 9 (unXs (spotF (unNum (resBy [resWhole [F.int .i64 u0], numF (IntKind.i64.wrap (crossW x0 y0 x1 y1 u0 v0 - crossW x0 y0 x1 y1 u1 v1))]) + unNum (resBy [resWhole [F.int .i64 (crossW x0 y0 x1 y1 u0 v0)], resWhole [F.int .i64 (IntKind.i64.wrap (u1 - u0))]])) (unNum (resBy [resWhole [F.int .i64 v0], numF (IntKind.i64.wrap (crossW x0 y0 x1 y1 u0 v0 - crossW x0 y0 x1 y1 u1 v1))]) + unNum (resBy [resWhole [F.int .i64 (crossW x0 y0 x1 y1 u0 v0)], resWhole [F.int .i64 (IntKind.i64.wrap (v1 - v0))]])) (IntKind.i64.wrap (crossW x0 y0 x1 y1 u0 v0 - crossW x0 y0 x1 y1 u1 v1)))) (unYs (spotF (unNum (resBy [resWhole [F.int .i64 u0], numF (IntKind.i64.wrap (crossW x0 y0 x1 y1 u0 v0 - crossW x0 y0 x1 y1 u1 v1))]) + unNum (resBy [resWhole [F.int .i64 (crossW x0 y0 x1 y1 u0 v0)], resWhole [F.int .i64 (IntKind.i64.wrap (u1 - u0))]])) (unNum (resBy [resWhole [F.int .i64 v0], numF (IntKind.i64.wrap (crossW x0 y0 x1 y1 u0 v0 - crossW x0 y0 x1 y1 u1 v1))]) + unNum (resBy [resWhole [F.int .i64 (crossW x0 y0 x1 y1 u0 v0)], resWhole [F.int .i64 (IntKind.i64.wrap (v1 - v0))]])) (IntKind.i64.wrap (crossW x0 y0 x1 y1 u0 v0 - crossW x0 y0 x1 y1 u1 v1)))) (unWs (spotF (unNum (resBy [resWhole [F.int .i64 u0], numF (IntKind.i64.wrap (crossW x0 y0 x1 y1 u0 v0 - crossW x0 y0 x1 y1 u1 v1))]) + unNum (resBy [resWhole [F.int .i64 (crossW x0 y0 x1 y1 u0 v0)], resWhole [F.int .i64 (IntKind.i64.wrap (u1 - u0))]])) (unNum (resBy [resWhole [F.int .i64 v0], numF (IntKind.i64.wrap (crossW x0 y0 x1 y1 u0 v0 - crossW x0 y0 x1 y1 u1 v1))]) + unNum (resBy [resWhole [F.int .i64 (crossW x0 y0 x1 y1 u0 v0)], resWhole [F.int .i64 (IntKind.i64.wrap (v1 - v0))]])) (IntKind.i64.wrap (crossW x0 y0 x1 y1 u0 v0 - crossW x0 y0 x1 y1 u1 v1))))), F.int .u64 (ptWV 10 (unXs (spotF (unNum (resBy [resWhole [F.int .i64 u0], numF (IntKind.i64.wrap (crossW x0 y0 x1 y1 u0 v0 - crossW x0 y0 x1 y1 u1 v1))]) + unNum (resBy [resWhole [F.int .i64 (crossW x0 y0 x1 y1 u0 v0)], resWhole [F.int .i64 (IntKind.i64.wrap (u1 - u0))]])) (unNum (resBy [resWhole [F.int .i64 v0], numF (IntKind.i64.wrap (crossW x0 y0 x1 y1 u0 v0 - crossW x0 y0 x1 y1 u1 v1))]) + unNum (resBy [resWhole [F.int .i64 (crossW x0 y0 x1 y1 u0 v0)], resWhole [F.int .i64 (IntKind.i64.wrap (v1 - v0))]])) (IntKind.i64.wrap (crossW x0 y0 x1 y1 u0 v0 - crossW x0 y0 x1 y1 u1 v1)))) (unYs (spotF (unNum (resBy [resWhole [F.int .i64 u0], numF (IntKind.i64.wrap (crossW x0 y0 x1 y1 u0 v0 - crossW x0 y0 x1 y1 u1 v1))]) + unNum (resBy [resWhole [F.int .i64 (crossW x0 y0 x1 y1 u0 v0)], resWhole [F.int .i64 (IntKind.i64.wrap (u1 - u0))]])) (unNum (resBy [resWhole [F.int .i64 v0], numF (IntKind.i64.wrap (crossW x0 y0 x1 y1 u0 v0 - crossW x0 y0 x1 y1 u1 v1))]) + unNum (resBy [resWhole [F.int .i64 (crossW x0 y0 x1 y1 u0 v0)], resWhole [F.int .i64 (IntKind.i64.wrap (v1 - v0))]])) (IntKind.i64.wrap (crossW x0 y0 x1 y1 u0 v0 - crossW x0 y0 x1 y1 u1 v1)))) (unWs (spotF (unNum (resBy [resWhole [F.int .i64 u0], numF (IntKind.i64.wrap (crossW x0 y0 x1 y1 u0 v0 - crossW x0 y0 x1 y1 u1 v1))]) + unNum (resBy [resWhole [F.int .i64 (crossW x0 y0 x1 y1 u0 v0)], resWhole [F.int .i64 (IntKind.i64.wrap (u1 - u0))]])) (unNum (resBy [resWhole [F.int .i64 v0], numF (IntKind.i64.wrap (crossW x0 y0 x1 y1 u0 v0 - crossW x0 y0 x1 y1 u1 v1))]) + unNum (resBy [resWhole [F.int .i64 (crossW x0 y0 x1 y1 u0 v0)], resWhole [F.int .i64 (IntKind.i64.wrap (v1 - v0))]])) (IntKind.i64.wrap (crossW x0 y0 x1 y1 u0 v0 - crossW x0 y0 x1 y1 u1 v1))))), F.int .u64 (ptWV 11 (unXs (spotF (unNum (resBy [resWhole [F.int .i64 u0], numF (IntKind.i64.wrap (crossW x0 y0 x1 y1 u0 v0 - crossW x0 y0 x1 y1 u1 v1))]) + unNum (resBy [resWhole [F.int .i64 (crossW x0 y0 x1 y1 u0 v0)], resWhole [F.int .i64 (IntKind.i64.wrap (u1 - u0))]])) (unNum (resBy [resWhole [F.int .i64 v0], numF (IntKind.i64.wrap (crossW x0 y0 x1 y1 u0 v0 - crossW x0 y0 x1 y1 u1 v1))]) + unNum (resBy [resWhole [F.int .i64 (crossW x0 y0 x1 y1 u0 v0)], resWhole [F.int .i64 (IntKind.i64.wrap (v1 - v0))]])) (IntKind.i64.wrap (crossW x0 y0 x1 y1 u0 v0 - crossW x0 y0 x1 y1 u1 v1)))) (unYs (spotF (unNum (resBy [resWhole [F.int .i64 u0], numF (IntKind.i64.wrap (crossW x0 y0 x1 y1 u0 v0 - crossW x0 y0 x1 y1 u1 v1))]) + unNum (resBy [resWhole [F.int .i64 (crossW x0 y0 x1 y1 u0 v0)], resWhole [F.int .i64 (IntKind.i64.wrap (u1 - u0))]])) (unNum (resBy [resWhole [F.int .i64 v0], numF (IntKind.i64.wrap (crossW x0 y0 x1 y1 u0 v0 - crossW x0 y0 x1 y1 u1 v1))]) + unNum (resBy [resWhole [F.int .i64 (crossW x0 y0 x1 y1 u0 v0)], resWhole [F.int .i64 (IntKind.i64.wrap (v1 - v0))]])) (IntKind.i64.wrap (crossW x0 y0 x1 y1 u0 v0 - crossW x0 y0 x1 y1 u1 v1)))) (unWs (spotF (unNum (resBy [resWhole [F.int .i64 u0], numF (IntKind.i64.wrap (crossW x0 y0 x1 y1 u0 v0 - crossW x0 y0 x1 y1 u1 v1))]) + unNum (resBy [resWhole [F.int .i64 (crossW x0 y0 x1 y1 u0 v0)], resWhole [F.int .i64 (IntKind.i64.wrap (u1 - u0))]])) (unNum (resBy [resWhole [F.int .i64 v0], numF (IntKind.i64.wrap (crossW x0 y0 x1 y1 u0 v0 - crossW x0 y0 x1 y1 u1 v1))]) + unNum (resBy [resWhole [F.int .i64 (crossW x0 y0 x1 y1 u0 v0)], resWhole [F.int .i64 (IntKind.i64.wrap (v1 - v0))]])) (IntKind.i64.wrap (crossW x0 y0 x1 y1 u0 v0 - crossW x0 y0 x1 y1 u1 v1)))))], F.agg [F.int .u64 0, F.int .u64 0, F.int .u64 0, F.int .u64 0, F.int .u64 0, F.int .u64 0, F.int .u64 0, F.int .u64 0, F.int .u64 0, F.int .u64 0, F.int .u64 0, F.int .u64 0]]))
 none)
 none)
 none)
 none)
 none)
 none)
 none)
 none)
 none)
 none)
 none)
 none)
 none)
 none))
 (ret (F.tup [F.int .i64 0, F.agg [F.int .u64 0, F.int .u64 0, F.int .u64 0, F.int .u64 0, F.int .u64 0, F.int .u64 0, F.int .u64 0, F.int .u64 0, F.int .u64 0, F.int .u64 0, F.int .u64 0, F.int .u64 0], F.agg [F.int .u64 0, F.int .u64 0, F.int .u64 0, F.int .u64 0, F.int .u64 0, F.int .u64 0, F.int .u64 0, F.int .u64 0, F.int .u64 0, F.int .u64 0, F.int .u64 0, F.int .u64 0]])))))
 (ret (F.tup [F.int .i64 0, F.agg [F.int .u64 0, F.int .u64 0, F.int .u64 0, F.int .u64 0, F.int .u64 0, F.int .u64 0, F.int .u64 0, F.int .u64 0, F.int .u64 0, F.int .u64 0, F.int .u64 0, F.int .u64 0], F.agg [F.int .u64 0, F.int .u64 0, F.int .u64 0, F.int .u64 0, F.int .u64 0, F.int .u64 0, F.int .u64 0, F.int .u64 0, F.int .u64 0, F.int .u64 0, F.int .u64 0, F.int .u64 0]])))
def G57 (x0 : Int) (y0 : Int) (x1 : Int) (y1 : Int) (u0 : Int) (v0 : Int) (u1 : Int) (v1 : Int) : Option (F) := T57 some x0 y0 x1 y1 u0 v0 u1 v1
theorem t57 (x0 : Int) (y0 : Int) (x1 : Int) (y1 : Int) (u0 : Int) (v0 : Int) (u1 : Int) (v1 : Int) (r : F) (h : G57 x0 y0 x1 y1 u0 v0 u1 v1 = some r) : Ends Try.prog Try.f57.results.toList [.code (bodyOf Try.f57)] (start Try.f57.ntmps ([F.agg [F.int .i64 x0, F.int .i64 y0, F.int .i64 x1, F.int .i64 y1], F.agg [F.int .i64 u0, F.int .i64 v0, F.int .i64 u1, F.int .i64 v1]].map .f)) (r) := by
  refine Ends.of_run tyOK envH8_ok (T := []) (n := 200) ?_
  have e : run Try.prog (tiOf Try.prog) envH8 [] 0 Try.f57.results.toList some 200 [.code (bodyOf Try.f57)] (start Try.f57.ntmps ([F.agg [F.int .i64 x0, F.int .i64 y0, F.int .i64 x1, F.int .i64 y1], F.agg [F.int .i64 u0, F.int .i64 v0, F.int .i64 u1, F.int .i64 v1]].map .f)) = T57 (fun r => some (.ret (r))) x0 y0 x1 y1 u0 v0 u1 v1 := by kernel_rfl
  rw [e]
  exact (good_sel h (fun _ h => (good_sel h (fun _ h => good_ret (by cases h; rfl)) (fun _ h => (good_sel h (fun _ h => (good_sel h (fun _ h => (good_sel h (fun _ h => (good_sel h (fun _ h => (good_sel h (fun _ h => good_ret (by cases h; rfl)) (fun _ h => (good_sel h (fun _ h => (good_sel h (fun _ h => good_ret (by cases h; rfl)) (fun _ h => nomatch h))) (fun _ h => (good_sel h (fun _ h => (good_sel h (fun _ h => good_ret (by cases h; rfl)) (fun _ h => nomatch h))) (fun _ h => nomatch h))))))) (fun _ h => (good_sel h (fun _ h => good_ret (by cases h; rfl)) (fun _ h => (good_sel h (fun _ h => (good_sel h (fun _ h => good_ret (by cases h; rfl)) (fun _ h => nomatch h))) (fun _ h => (good_sel h (fun _ h => (good_sel h (fun _ h => good_ret (by cases h; rfl)) (fun _ h => nomatch h))) (fun _ h => nomatch h))))))))) (fun _ h => (good_sel h (fun _ h => (good_sel h (fun _ h => good_ret (by cases h; rfl)) (fun _ h => (good_sel h (fun _ h => (good_sel h (fun _ h => good_ret (by cases h; rfl)) (fun _ h => nomatch h))) (fun _ h => (good_sel h (fun _ h => (good_sel h (fun _ h => good_ret (by cases h; rfl)) (fun _ h => nomatch h))) (fun _ h => nomatch h))))))) (fun _ h => (good_sel h (fun _ h => good_ret (by cases h; rfl)) (fun _ h => (good_sel h (fun _ h => (good_sel h (fun _ h => good_ret (by cases h; rfl)) (fun _ h => nomatch h))) (fun _ h => (good_sel h (fun _ h => (good_sel h (fun _ h => good_ret (by cases h; rfl)) (fun _ h => nomatch h))) (fun _ h => nomatch h))))))))))) (fun _ h => (good_sel h (fun _ h => (good_sel h (fun _ h => good_ret (by cases h; rfl)) (fun _ h => (good_sel h (fun _ h => (good_sel h (fun _ h => (good_sel h (fun _ h => (good_sel h (fun _ h => (good_sel h (fun _ h => (good_sel h (fun _ h => (good_sel h (fun _ h => (good_sel h (fun _ h => (good_sel h (fun _ h => (good_sel h (fun _ h => (good_sel h (fun _ h => (good_sel h (fun _ h => (good_sel h (fun _ h => (good_sel h (fun _ h => good_ret (by cases h; rfl)) (fun _ h => nomatch h))) (fun _ h => nomatch h))) (fun _ h => nomatch h))) (fun _ h => nomatch h))) (fun _ h => nomatch h))) (fun _ h => nomatch h))) (fun _ h => nomatch h))) (fun _ h => nomatch h))) (fun _ h => nomatch h))) (fun _ h => nomatch h))) (fun _ h => nomatch h))) (fun _ h => nomatch h))) (fun _ h => nomatch h))) (fun _ h => nomatch h))))) (fun _ h => good_ret (by cases h; rfl)))))) (fun _ h => (good_sel h (fun _ h => (good_sel h (fun _ h => good_ret (by cases h; rfl)) (fun _ h => (good_sel h (fun _ h => (good_sel h (fun _ h => (good_sel h (fun _ h => (good_sel h (fun _ h => (good_sel h (fun _ h => (good_sel h (fun _ h => (good_sel h (fun _ h => (good_sel h (fun _ h => (good_sel h (fun _ h => (good_sel h (fun _ h => (good_sel h (fun _ h => (good_sel h (fun _ h => (good_sel h (fun _ h => (good_sel h (fun _ h => good_ret (by cases h; rfl)) (fun _ h => nomatch h))) (fun _ h => nomatch h))) (fun _ h => nomatch h))) (fun _ h => nomatch h))) (fun _ h => nomatch h))) (fun _ h => nomatch h))) (fun _ h => nomatch h))) (fun _ h => nomatch h))) (fun _ h => nomatch h))) (fun _ h => nomatch h))) (fun _ h => nomatch h))) (fun _ h => nomatch h))) (fun _ h => nomatch h))) (fun _ h => nomatch h))))) (fun _ h => good_ret (by cases h; rfl)))))))) (fun _ h => good_ret (by cases h; rfl)))
def goodI (X : Option F) (M S : Prop) : Prop := ∃ (k a0 a1 a2 a3 a4 a5 a6 a7 a8 a9 a10 a11 b0 b1 b2 b3 b4 b5 b6 b7 b8 b9 b10 b11 : Int), X = some (F.tup [.int .i64 k, .agg [.int .u64 a0, .int .u64 a1, .int .u64 a2, .int .u64 a3, .int .u64 a4, .int .u64 a5, .int .u64 a6, .int .u64 a7, .int .u64 a8, .int .u64 a9, .int .u64 a10, .int .u64 a11], .agg [.int .u64 b0, .int .u64 b1, .int .u64 b2, .int .u64 b3, .int .u64 b4, .int .u64 b5, .int .u64 b6, .int .u64 b7, .int .u64 b8, .int .u64 b9, .int .u64 b10, .int .u64 b11]]) ∧ kindOk k M S
theorem goodI_of {k a0 a1 a2 a3 a4 a5 a6 a7 a8 a9 a10 a11 b0 b1 b2 b3 b4 b5 b6 b7 b8 b9 b10 b11 : Int} {M S : Prop} (h : kindOk k M S) : goodI (some (F.tup [.int .i64 k, .agg [.int .u64 a0, .int .u64 a1, .int .u64 a2, .int .u64 a3, .int .u64 a4, .int .u64 a5, .int .u64 a6, .int .u64 a7, .int .u64 a8, .int .u64 a9, .int .u64 a10, .int .u64 a11], .agg [.int .u64 b0, .int .u64 b1, .int .u64 b2, .int .u64 b3, .int .u64 b4, .int .u64 b5, .int .u64 b6, .int .u64 b7, .int .u64 b8, .int .u64 b9, .int .u64 b10, .int .u64 b11]])) M S := ⟨_, _, _, _, _, _, _, _, _, _, _, _, _, _, _, _, _, _, _, _, _, _, _, _, _, rfl, h⟩
theorem goodI_sel {c : Bool} {X Y : Option F} {M S : Prop} (h1 : c = true → goodI X M S) (h2 : c = false → goodI Y M S) : goodI (bsel c X Y) M S := by
  cases c
  · exact h2 rfl
  · exact h1 rfl
theorem spans_meets {x0 y0 x1 y1 u0 v0 u1 v1 : Int} (h : spans x0 y0 x1 y1 u0 v0 u1 v1) : meets x0 y0 x1 y1 u0 v0 u1 v1 := by
  obtain ⟨h1, h2, h3, h4⟩ := h
  refine .inl ⟨h1, h2, ?_⟩
  unfold lexLt at h3 h4
  unfold lexLe
  omega
theorem kind_no {x0 y0 x1 y1 u0 v0 u1 v1 : Int} (h : ¬ meets x0 y0 x1 y1 u0 v0 u1 v1) : kindOk 0 (meets x0 y0 x1 y1 u0 v0 u1 v1) (spans x0 y0 x1 y1 u0 v0 u1 v1) := ⟨.inl rfl, by simp [h], ⟨fun e => by omega, fun g => absurd (spans_meets g) h⟩⟩
theorem mx_eq (a b : Int) : (if b > a then b else a) = max a b := by
  rw [Int.max_def]
  split <;> split <;> omega
theorem mn_eq (a b : Int) : (if b < a then b else a) = min a b := by
  rw [Int.min_def]
  split <;> split <;> omega
theorem cmpV_neg (x0 y0 x1 y1 : Int) : decide (cmpV x0 y0 x1 y1 < 0) = (lessV x0 y0 x1 y1) := by
  unfold cmpV
  cases h1 : (x0 == x1 && y0 == y1) with
  | true =>
    simp only [Bool.and_eq_true, beq_iff_eq] at h1
    cases h2 : lessV x0 y0 x1 y1 with
    | false => rfl
    | true =>
      have := lessV_lt.1 h2
      unfold lexLt at this
      omega
  | false => cases lessV x0 y0 x1 y1 <;> rfl
theorem cmpV_zero (x0 y0 x1 y1 : Int) : (cmpV x0 y0 x1 y1 == 0) = (x0 == x1 && y0 == y1) := by
  unfold cmpV
  cases (x0 == x1 && y0 == y1) <;> cases lessV x0 y0 x1 y1 <;> rfl
theorem meet_col {x0 y0 x1 y1 u0 v0 u1 v1 : Int} (h0 : spotIn x0 y0) (h1 : spotIn x1 y1) (k0 : spotIn u0 v0) (k1 : spotIn u1 v1) (hs : lexLt x0 y0 x1 y1) (ht : lexLt u0 v0 u1 v1) (ha : crossZ x0 y0 x1 y1 u0 v0 = 0) (hb : crossZ x0 y0 x1 y1 u1 v1 = 0)
    (hA : ¬ (max x0 u0 > min x1 u1)) (hB : ¬ (max (min y0 y1) (min v0 v1) > min (max y0 y1) (max v0 v1))) : goodI (G57 x0 y0 x1 y1 u0 v0 u1 v1) (meets x0 y0 x1 y1 u0 v0 u1 v1) (spans x0 y0 x1 y1 u0 v0 u1 v1) := by
  have i : ∀ {x y : Int}, spotIn x y → isI64 x = true ∧ isI64 y = true := fun h => by
    unfold spotIn at h
    exact ⟨isI64_iff.2 (by omega), isI64_iff.2 (by omega)⟩
  have hm : meets x0 y0 x1 y1 u0 v0 u1 v1 ↔ (lexLe u0 v0 x1 y1 ∧ lexLe x0 y0 u1 v1) := by
    unfold meets
    rw [ha, hb]
    constructor
    · rintro (⟨_, _, h⟩ | ⟨h, _⟩)
      · exact h
      · exact absurd ⟨rfl, rfl⟩ h
    · exact fun h => .inl ⟨rfl, rfl, h⟩
  have hsp : spans x0 y0 x1 y1 u0 v0 u1 v1 ↔ (lexLt u0 v0 x1 y1 ∧ lexLt x0 y0 u1 v1) := by
    unfold spans
    rw [ha, hb]
    exact ⟨fun h => h.2.2, fun h => ⟨rfl, rfl, h⟩⟩
  unfold G57 T57
  rw [(crossW_eq h0 h1 k0).1, (crossW_eq h0 h1 k1).1, ha, hb]
  simp only [if_true, Bool.false_eq_true, if_false, mx_eq, mn_eq, decide_eq_false hA, decide_eq_false hB, beq_self_eq_true, bsel_true, bsel_false, cmpV_pos, cmpV_neg, cmpV_zero, i h0, i h1, i k0, i k1, Bool.and_self]
  clear hA hB
  unfold lexLt at hs ht
  repeat' first
    | (refine goodI_of ?_; refine kindOk_of fun j hj => ?_; rw [hm, hsp]; clear hm hsp ha hb i h0 h1 k0 k1; simp only [lessV_lt, lessV_no, Bool.and_true, Bool.and_eq_true, Bool.and_eq_false_iff, beq_iff_eq, beq_eq_false_iff_ne, ne_eq] at *; unfold lexLe at *; unfold lexLt at *; omega)
    | (refine goodI_sel (fun _ => ?_) (fun _ => ?_))
theorem meet_off {x0 y0 x1 y1 u0 v0 u1 v1 : Int} (h0 : spotIn x0 y0) (h1 : spotIn x1 y1) (k0 : spotIn u0 v0) (k1 : spotIn u1 v1) (hn : ¬ (crossZ x0 y0 x1 y1 u0 v0 = 0 ∧ crossZ x0 y0 x1 y1 u1 v1 = 0))
    (ho : ¬ (apart (crossZ x0 y0 x1 y1 u0 v0) (crossZ x0 y0 x1 y1 u1 v1) ∧ apart (crossZ u0 v0 u1 v1 x0 y0) (crossZ u0 v0 u1 v1 x1 y1)))
    (hA : ¬ (max x0 u0 > min x1 u1)) (hB : ¬ (max (min y0 y1) (min v0 v1) > min (max y0 y1) (max v0 v1))) : goodI (G57 x0 y0 x1 y1 u0 v0 u1 v1) (meets x0 y0 x1 y1 u0 v0 u1 v1) (spans x0 y0 x1 y1 u0 v0 u1 v1) := by
  have hm : ¬ meets x0 y0 x1 y1 u0 v0 u1 v1 := by
    unfold meets
    rintro (⟨a, b, _⟩ | ⟨_, h⟩)
    · exact hn ⟨a, b⟩
    · exact ho h
  have z := kind_no hm
  have tt : (true == true) = true := rfl
  have ft : (false == true) = false := rfl
  have tf : (true == false) = false := rfl
  have ff : (false == false) = true := rfl
  unfold G57 T57
  rw [(crossW_eq h0 h1 k0).1, (crossW_eq h0 h1 k1).1, (crossW_eq k0 k1 h0).1, (crossW_eq k0 k1 h1).1]
  simp only [if_true, Bool.false_eq_true, if_false, mx_eq, mn_eq, decide_eq_false hA, decide_eq_false hB, ff, bsel_true, bsel_false, signV_sign]
  clear hA hB
  generalize crossZ x0 y0 x1 y1 u0 v0 = A at *
  generalize crossZ x0 y0 x1 y1 u1 v1 = B at *
  generalize crossZ u0 v0 u1 v1 x0 y0 = C at *
  generalize crossZ u0 v0 u1 v1 x1 y1 = D at *
  by_cases ap : apart A B
  · have cd : ¬ apart C D := fun h => ho ⟨ap, h⟩
    rw [apart_yes ap, apart_no cd]
    by_cases hA : A = 0
    · have hB : ¬ B = 0 := fun h => hn ⟨hA, h⟩
      rw [show (A == 0) = true from beq_iff_eq.2 hA, show (B == 0) = false from beq_eq_false_iff_ne.2 hB]
      simp only [tt, ff, bsel_true, bsel_false]
      exact goodI_of z
    · rw [show (A == 0) = false from beq_eq_false_iff_ne.2 hA]
      simp only [ft, ff, bsel_true, bsel_false]
      exact goodI_of z
  · rw [apart_no ap]
    by_cases hA : A = 0
    · exact absurd (show apart A B by unfold apart; omega) ap
    · rw [show (A == 0) = false from beq_eq_false_iff_ne.2 hA]
      simp only [ft, tf, bsel_true, bsel_false]
      exact goodI_of z
theorem mulC {a b : Int} (ha : -1000000 ≤ a ∧ a ≤ 1000000) (hb : -8000000000000 ≤ b ∧ b ≤ 8000000000000) : -8000000000000000000 ≤ a * b ∧ a * b ≤ 8000000000000000000 := by
  have h : (a * b).natAbs ≤ 1000000 * 8000000000000 := by rw [Int.natAbs_mul]; exact Nat.mul_le_mul (by omega) (by omega)
  omega
theorem meet_in {x0 y0 x1 y1 u0 v0 u1 v1 : Int} (h0 : spotIn x0 y0) (h1 : spotIn x1 y1) (k0 : spotIn u0 v0) (k1 : spotIn u1 v1) (hn : ¬ (crossZ x0 y0 x1 y1 u0 v0 = 0 ∧ crossZ x0 y0 x1 y1 u1 v1 = 0))
    (ho : apart (crossZ x0 y0 x1 y1 u0 v0) (crossZ x0 y0 x1 y1 u1 v1) ∧ apart (crossZ u0 v0 u1 v1 x0 y0) (crossZ u0 v0 u1 v1 x1 y1))
    (hA : ¬ (max x0 u0 > min x1 u1)) (hB : ¬ (max (min y0 y1) (min v0 v1) > min (max y0 y1) (max v0 v1))) : goodI (G57 x0 y0 x1 y1 u0 v0 u1 v1) (meets x0 y0 x1 y1 u0 v0 u1 v1) (spans x0 y0 x1 y1 u0 v0 u1 v1) := by
  have hm : meets x0 y0 x1 y1 u0 v0 u1 v1 := .inr ⟨hn, ho⟩
  have hsp : ¬ spans x0 y0 x1 y1 u0 v0 u1 v1 := fun h => hn ⟨h.1, h.2.1⟩
  have z : kindOk 1 (meets x0 y0 x1 y1 u0 v0 u1 v1) (spans x0 y0 x1 y1 u0 v0 u1 v1) := ⟨.inr (.inl rfl), by simp [hm], by simp [hsp]⟩
  have tt : (true == true) = true := rfl
  have ft : (false == true) = false := rfl
  have ff : (false == false) = true := rfl
  obtain ⟨e0, l0, g0⟩ := crossW_eq h0 h1 k0
  obtain ⟨e1, l1, g1⟩ := crossW_eq h0 h1 k1
  have s0 := h0
  have s1 := h1
  have t0 := k0
  have t1 := k1
  unfold spotIn at s0 s1 t0 t1
  have r : ∀ n : Int, resWhole [F.int .i64 n] = numF n := fun _ => rfl
  unfold G57 T57
  rw [e0, e1, (crossW_eq k0 k1 h0).1, (crossW_eq k0 k1 h1).1]
  simp only [if_true, Bool.false_eq_true, if_false, mx_eq, mn_eq, decide_eq_false hA, decide_eq_false hB, ff, bsel_true, bsel_false, signV_sign, apart_yes ho.1, apart_yes ho.2]
  clear hA hB hm hsp
  have wx : IntKind.i64.wrap (u1 - u0) = u1 - u0 := wrapI (by omega) (by omega)
  have wy : IntKind.i64.wrap (v1 - v0) = v1 - v0 := wrapI (by omega) (by omega)
  have ho1 := ho.1
  generalize crossZ x0 y0 x1 y1 u0 v0 = A at *
  generalize crossZ x0 y0 x1 y1 u1 v1 = B at *
  have wd : IntKind.i64.wrap (A - B) = A - B := wrapI (by omega) (by omega)
  have n1 : ∀ {w : Int}, isI64 w = true → w.natAbs < 18446744073709551616 ^ 1 := fun h => by have := isI64_iff.1 h; omega
  have iA : isI64 A = true := isI64_iff.2 (by omega)
  have id : isI64 (A - B) = true := isI64_iff.2 (by omega)
  have iu : isI64 u0 = true := isI64_iff.2 (by omega)
  have iv : isI64 v0 = true := isI64_iff.2 (by omega)
  have ix : isI64 (u1 - u0) = true := isI64_iff.2 (by omega)
  have iy : isI64 (v1 - v0) = true := isI64_iff.2 (by omega)
  have bx : (u0 * (A - B) + A * (u1 - u0)).natAbs < 18446744073709551616 ^ 1 := by
    have e : u0 * (A - B) + A * (u1 - u0) = u1 * A - u0 * B := by grind
    have m1 := mulC (a := u1) (b := A) (by omega) (by omega)
    have m2 := mulC (a := u0) (b := B) (by omega) (by omega)
    rw [e, Nat.pow_one]
    omega
  have by' : (v0 * (A - B) + A * (v1 - v0)).natAbs < 18446744073709551616 ^ 1 := by
    have e : v0 * (A - B) + A * (v1 - v0) = v1 * A - v0 * B := by grind
    have m1 := mulC (a := v1) (b := A) (by omega) (by omega)
    have m2 := mulC (a := v0) (b := B) (by omega) (by omega)
    rw [e, Nat.pow_one]
    omega
  have hsp3 : isSpot3 1 (spotF (u0 * (A - B) + A * (u1 - u0)) (v0 * (A - B) + A * (v1 - v0)) (A - B)) = true := isSpot3_spotF bx by' (n1 id)
  simp only [wx, wy, wd, r, resBy_num, unNum_numF, iA, id, iu, iv, ix, iy, num_ok (n1 iA) (show 1 ≤ 400 by omega), num_ok (n1 id) (show 1 ≤ 400 by omega), num_ok (n1 iu) (show 1 ≤ 400 by omega), num_ok (n1 iv) (show 1 ≤ 400 by omega), num_ok (n1 ix) (show 1 ≤ 400 by omega), num_ok (n1 iy) (show 1 ≤ 400 by omega),
    num_ok (mul_bound (n1 iu) (n1 id)) (show 1 + 1 ≤ 400 by omega), num_ok (mul_bound (n1 iv) (n1 id)) (show 1 + 1 ≤ 400 by omega), num_ok (mul_bound (n1 iA) (n1 ix)) (show 1 + 1 ≤ 400 by omega), num_ok (mul_bound (n1 iA) (n1 iy)) (show 1 + 1 ≤ 400 by omega), hsp3, Bool.and_self, bsel_true]
  by_cases hA : A = 0
  · have hB : ¬ B = 0 := fun h => hn ⟨hA, h⟩
    rw [show (A == 0) = true from beq_iff_eq.2 hA, show (B == 0) = false from beq_eq_false_iff_ne.2 hB]
    simp only [tt, ff, bsel_true, bsel_false]
    exact goodI_of z
  · rw [show (A == 0) = false from beq_eq_false_iff_ne.2 hA]
    simp only [ft, ff, bsel_true, bsel_false]
    exact goodI_of z
theorem meet_law {x0 y0 x1 y1 u0 v0 u1 v1 : Int} (h0 : spotIn x0 y0) (h1 : spotIn x1 y1) (k0 : spotIn u0 v0) (k1 : spotIn u1 v1) (hs : lexLt x0 y0 x1 y1) (ht : lexLt u0 v0 u1 v1) : goodI (G57 x0 y0 x1 y1 u0 v0 u1 v1) (meets x0 y0 x1 y1 u0 v0 u1 v1) (spans x0 y0 x1 y1 u0 v0 u1 v1) := by
  have box := meets_box (x0 := x0) (y0 := y0) (x1 := x1) (y1 := y1) (u0 := u0) (v0 := v0) (u1 := u1) (v1 := v1) hs ht
  have ff : (false == false) = true := rfl
  have tf : (true == false) = false := rfl
  by_cases hA : max x0 u0 > min x1 u1
  · have hm : ¬ meets x0 y0 x1 y1 u0 v0 u1 v1 := fun h => by
      have := (box h).1
      unfold lexLt at hs ht
      omega
    unfold G57 T57
    simp only [if_true, Bool.false_eq_true, if_false, mx_eq, mn_eq, decide_eq_true hA, tf, bsel_false]
    exact goodI_of (kind_no hm)
  · by_cases hB : max (min y0 y1) (min v0 v1) > min (max y0 y1) (max v0 v1)
    · have hm : ¬ meets x0 y0 x1 y1 u0 v0 u1 v1 := fun h => by
        have := (box h).2
        omega
      unfold G57 T57
      simp only [if_true, Bool.false_eq_true, if_false, mx_eq, mn_eq, decide_eq_false hA, decide_eq_true hB, ff, bsel_true]
      exact goodI_of (kind_no hm)
    · by_cases hn : crossZ x0 y0 x1 y1 u0 v0 = 0 ∧ crossZ x0 y0 x1 y1 u1 v1 = 0
      · exact meet_col h0 h1 k0 k1 hs ht hn.1 hn.2 hA hB
      · by_cases ho : apart (crossZ x0 y0 x1 y1 u0 v0) (crossZ x0 y0 x1 y1 u1 v1) ∧ apart (crossZ u0 v0 u1 v1 x0 y0) (crossZ u0 v0 u1 v1 x1 y1)
        · exact meet_in h0 h1 k0 k1 hn ho hA hB
        · exact meet_off h0 h1 k0 k1 hn ho hA hB
def kindIV (x0 y0 x1 y1 u0 v0 u1 v1 : Int) : Int := match G57 x0 y0 x1 y1 u0 v0 u1 v1 with | some (.tup [.int _ k, _, _]) => k | _ => 0
def mtWV (i : Nat) (x0 y0 x1 y1 u0 v0 u1 v1 : Int) : Int := match G57 x0 y0 x1 y1 u0 v0 u1 v1 with | some (.tup [_, .agg l, .agg m]) => intAt (l ++ m) i | _ => 0
theorem kindI_ok {x0 y0 x1 y1 u0 v0 u1 v1 : Int} (hs : segOkV x0 y0 x1 y1 = true) (ht : segOkV u0 v0 u1 v1 = true) : kindOk (kindIV x0 y0 x1 y1 u0 v0 u1 v1) (meets x0 y0 x1 y1 u0 v0 u1 v1) (spans x0 y0 x1 y1 u0 v0 u1 v1) := by
  obtain ⟨h0, h1, h2⟩ := sgOk_parts hs
  obtain ⟨k0, k1, k2⟩ := sgOk_parts ht
  obtain ⟨_, _, _, _, _, _, _, _, _, _, _, _, _, _, _, _, _, _, _, _, _, _, _, _, _, e, h⟩ := meet_law h0 h1 k0 k1 h2 k2
  unfold kindIV
  rw [e]
  exact h
def resMeetI : List F → F | [.agg [.int .i64 a, .int .i64 b, .int .i64 c, .int .i64 d], .agg [.int .i64 e, .int .i64 f, .int .i64 g, .int .i64 h]] => .tup [.int .i64 (kindIV a b c d e f g h), .agg [.int .u64 (mtWV 0 a b c d e f g h), .int .u64 (mtWV 1 a b c d e f g h), .int .u64 (mtWV 2 a b c d e f g h), .int .u64 (mtWV 3 a b c d e f g h), .int .u64 (mtWV 4 a b c d e f g h), .int .u64 (mtWV 5 a b c d e f g h), .int .u64 (mtWV 6 a b c d e f g h), .int .u64 (mtWV 7 a b c d e f g h), .int .u64 (mtWV 8 a b c d e f g h), .int .u64 (mtWV 9 a b c d e f g h), .int .u64 (mtWV 10 a b c d e f g h), .int .u64 (mtWV 11 a b c d e f g h)], .agg [.int .u64 (mtWV 12 a b c d e f g h), .int .u64 (mtWV 13 a b c d e f g h), .int .u64 (mtWV 14 a b c d e f g h), .int .u64 (mtWV 15 a b c d e f g h), .int .u64 (mtWV 16 a b c d e f g h), .int .u64 (mtWV 17 a b c d e f g h), .int .u64 (mtWV 18 a b c d e f g h), .int .u64 (mtWV 19 a b c d e f g h), .int .u64 (mtWV 20 a b c d e f g h), .int .u64 (mtWV 21 a b c d e f g h), .int .u64 (mtWV 22 a b c d e f g h), .int .u64 (mtWV 23 a b c d e f g h)]] | _ => .dflt
theorem okMeetI : PureOK Try.prog 57 preMeet3 resMeetI :=
  fn_pure (c := bodyOf Try.f57) Try.func57 (by kernel_rfl) (by kernel_rfl) fun xs hp => match xs, hp with
  | [.agg [.int .i64 a, .int .i64 b, .int .i64 c, .int .i64 d], .agg [.int .i64 e, .int .i64 f, .int .i64 g, .int .i64 h]], hp => by
    simp only [preMeet3, Bool.and_eq_true] at hp
    obtain ⟨h0, h1, h2⟩ := sgOk_parts hp.1
    obtain ⟨k0, k1, k2⟩ := sgOk_parts hp.2
    obtain ⟨k, p0, p1, p2, p3, p4, p5, p6, p7, p8, p9, p10, p11, q0, q1, q2, q3, q4, q5, q6, q7, q8, q9, q10, q11, e1, hk⟩ := meet_law h0 h1 k0 k1 h2 k2
    have t := t57 a b c d e f g h _ e1
    have r : resMeetI [.agg [.int .i64 a, .int .i64 b, .int .i64 c, .int .i64 d], .agg [.int .i64 e, .int .i64 f, .int .i64 g, .int .i64 h]] = .tup [.int .i64 k, .agg [.int .u64 p0, .int .u64 p1, .int .u64 p2, .int .u64 p3, .int .u64 p4, .int .u64 p5, .int .u64 p6, .int .u64 p7, .int .u64 p8, .int .u64 p9, .int .u64 p10, .int .u64 p11], .agg [.int .u64 q0, .int .u64 q1, .int .u64 q2, .int .u64 q3, .int .u64 q4, .int .u64 q5, .int .u64 q6, .int .u64 q7, .int .u64 q8, .int .u64 q9, .int .u64 q10, .int .u64 q11]] := by
      show F.tup [.int .i64 (kindIV a b c d e f g h), .agg [.int .u64 (mtWV 0 a b c d e f g h), .int .u64 (mtWV 1 a b c d e f g h), .int .u64 (mtWV 2 a b c d e f g h), .int .u64 (mtWV 3 a b c d e f g h), .int .u64 (mtWV 4 a b c d e f g h), .int .u64 (mtWV 5 a b c d e f g h), .int .u64 (mtWV 6 a b c d e f g h), .int .u64 (mtWV 7 a b c d e f g h), .int .u64 (mtWV 8 a b c d e f g h), .int .u64 (mtWV 9 a b c d e f g h), .int .u64 (mtWV 10 a b c d e f g h), .int .u64 (mtWV 11 a b c d e f g h)], .agg [.int .u64 (mtWV 12 a b c d e f g h), .int .u64 (mtWV 13 a b c d e f g h), .int .u64 (mtWV 14 a b c d e f g h), .int .u64 (mtWV 15 a b c d e f g h), .int .u64 (mtWV 16 a b c d e f g h), .int .u64 (mtWV 17 a b c d e f g h), .int .u64 (mtWV 18 a b c d e f g h), .int .u64 (mtWV 19 a b c d e f g h), .int .u64 (mtWV 20 a b c d e f g h), .int .u64 (mtWV 21 a b c d e f g h), .int .u64 (mtWV 22 a b c d e f g h), .int .u64 (mtWV 23 a b c d e f g h)]] = _
      simp only [kindIV, mtWV, e1]
      rfl
    rw [r]
    exact t
def envH9 : Env := envH8.add 57 (.pure preMeet3 resMeetI)
theorem envH9_ok : EnvOK Try.prog envH9 := (Env.add_ok envH8_ok okMeetI.sp)
end
end Go.Proofs.Ytmambbfnjbdfgaa.R

namespace Go.Proofs.Ytmambbfnjbdfgaa.R
open Go
noncomputable section
set_option linter.unusedVariables false
set_option linter.unusedSimpArgs false
set_option maxRecDepth 100000
/-! ### function 53 -/
def T53 {ρ : Type} (ret : (Int) → (Int) → (Int) → (Int) → (Bool) → Option ρ) (x0 : Int) (y0 : Int) (x1 : Int) (y1 : Int) : Option ρ :=
 (bsel (lessV x1 y1 x0 y0)
 (bsel (!segOkV x1 y1 x0 y0)
 (ret (0) (0) (0) (0) (false))
 (ret (x1) (y1) (x0) (y0) (true)))
 (bsel (!segOkV x0 y0 x1 y1)
 (ret (0) (0) (0) (0) (false))
 (ret (x0) (y0) (x1) (y1) (true))))
def G53 (x0 : Int) (y0 : Int) (x1 : Int) (y1 : Int) : Option ((Int) × (Int) × (Int) × (Int) × (Bool)) := T53 (fun a b c d ok => some (a, b, c, d, ok)) x0 y0 x1 y1
theorem t53 (x0 : Int) (y0 : Int) (x1 : Int) (y1 : Int) (a : Int) (b : Int) (c : Int) (d : Int) (ok : Bool) (h : G53 x0 y0 x1 y1 = some (a, b, c, d, ok)) : Ends Try.prog Try.f53.results.toList [.code (bodyOf Try.f53)] (start Try.f53.ntmps ([F.agg [F.int .i64 x0, F.int .i64 y0], F.agg [F.int .i64 x1, F.int .i64 y1]].map .f)) (F.tup [F.agg [F.int .i64 a, F.int .i64 b, F.int .i64 c, F.int .i64 d], F.bool ok]) := by
  refine Ends.of_run tyOK envH8_ok (T := []) (n := 200) ?_
  have e : run Try.prog (tiOf Try.prog) envH8 [] 0 Try.f53.results.toList some 200 [.code (bodyOf Try.f53)] (start Try.f53.ntmps ([F.agg [F.int .i64 x0, F.int .i64 y0], F.agg [F.int .i64 x1, F.int .i64 y1]].map .f)) = T53 (fun a b c d ok => some (.ret (F.tup [F.agg [F.int .i64 a, F.int .i64 b, F.int .i64 c, F.int .i64 d], F.bool ok]))) x0 y0 x1 y1 := by kernel_rfl
  rw [e]
  exact (good_sel h (fun _ h => (good_sel h (fun _ h => good_ret (by cases h; rfl)) (fun _ h => good_ret (by cases h; rfl)))) (fun _ h => (good_sel h (fun _ h => good_ret (by cases h; rfl)) (fun _ h => good_ret (by cases h; rfl)))))
def legKV (x0 y0 x1 y1 : Int) : Bool := segOkV (legOf ⟨x0, y0⟩ ⟨x1, y1⟩).x0 (legOf ⟨x0, y0⟩ ⟨x1, y1⟩).y0 (legOf ⟨x0, y0⟩ ⟨x1, y1⟩).x1 (legOf ⟨x0, y0⟩ ⟨x1, y1⟩).y1
def legGV (x0 y0 x1 y1 : Int) : Sg := bif legKV x0 y0 x1 y1 then legOf ⟨x0, y0⟩ ⟨x1, y1⟩ else .zero
theorem legG_law (x0 y0 x1 y1 : Int) : G53 x0 y0 x1 y1 = some ((legGV x0 y0 x1 y1).x0, (legGV x0 y0 x1 y1).y0, (legGV x0 y0 x1 y1).x1, (legGV x0 y0 x1 y1).y1, legKV x0 y0 x1 y1) := by
  unfold G53 T53 legGV legKV legOf
  cases h1 : lessV x1 y1 x0 y0 <;> simp only [h1, bsel_true, bsel_false, cond_true, cond_false]
  · cases segOkV x0 y0 x1 y1 <;> rfl
  · cases segOkV x1 y1 x0 y0 <;> rfl
def resLegG : List F → F | [.agg [.int .i64 a, .int .i64 b], .agg [.int .i64 c, .int .i64 d]] => .tup [.agg [.int .i64 (legGV a b c d).x0, .int .i64 (legGV a b c d).y0, .int .i64 (legGV a b c d).x1, .int .i64 (legGV a b c d).y1], .bool (legKV a b c d)] | _ => .dflt
theorem okLegG : PureOK Try.prog 53 pre2p resLegG :=
  fn_pure (c := bodyOf Try.f53) Try.func53 (by kernel_rfl) (by kernel_rfl) fun xs hp => match xs, hp with
  | [.agg [.int .i64 a, .int .i64 b], .agg [.int .i64 c, .int .i64 d]], hp => t53 a b c d _ _ _ _ _ (legG_law a b c d)
/-! ### function 50 -/
def S50_4 (q : List Pt) (i : Int) : St := ⟨[(U.f (ptsF q)), .bad, .bad, (U.f (F.int .i64 i)), .bad, .bad, .bad, .bad, .bad, .bad, .bad, .bad, .bad, .bad, .bad, .bad, .bad, .bad, .bad, .bad, .bad, .bad, .bad, .bad], []⟩
def T50_4 {ρ : Type} (ret : (Bool) → Option ρ) (c4 : (List Pt) → (Int) → Option ρ) (q : List Pt) (i : Int) : Option ρ :=
 (bsel (decide (i < (↑q.length : Int)))
 (bsel (decide (0 ≤ i))
 (bsel (decide (i < (↑q.length : Int)))
 (bsel (!spotOkV (q.getD i.toNat Pt.zero).x (q.getD i.toNat Pt.zero).y)
 (ret (false))
 (c4 (q) (IntKind.i64.wrap (i + 1))))
 none)
 none)
 (ret (true)))
def L50_4 : Nat → (List Pt) → (Int) → Option (Bool)
  | 0, _, _ => none
  | k + 1, q, i => T50_4 some (L50_4 k) q i
def T50 {ρ : Type} (ret : (Bool) → Option ρ) (c4 : (List Pt) → (Int) → Option ρ) (q : List Pt) : Option ρ :=
 (bsel (decide ((↑q.length : Int) < 1) == false)
 (bsel (decide ((↑q.length : Int) > 12))
 (ret (false))
 (c4 (q) (0)))
 (ret (false)))
def G50 (k : Nat) (q : List Pt) : Option (Bool) := T50 some (L50_4 k) q
theorem t50_4 : ∀ (k : Nat) (q : List Pt) (i : Int) (ok : Bool), L50_4 k q i = some ok → Ends Try.prog Try.f50.results.toList (at_ Try.f50 4) (S50_4 q i) (F.bool ok)
  | 0, _, _, _, h => nomatch h
  | k + 1, q, i, ok, h => by
    refine Ends.of_cut tyOK envH8_ok (T := [(4, [0, 3], 1000)]) (n := 200) ?_
    have e : runCut Try.prog (tiOf Try.prog) envH8 [(4, [0, 3], 1000)] 0 Try.f50.results.toList some 200 (at_ Try.f50 4) (S50_4 q i) = T50_4 (fun ok => some (.ret (F.bool ok))) (fun q i => some (.cut (at_ Try.f50 4) (S50_4 q i))) q i := by kernel_rfl
    rw [e]
    exact (good_sel h (fun _ h => (good_sel h (fun _ h => (good_sel h (fun _ h => (good_sel h (fun _ h => good_ret (by cases h; rfl)) (fun _ h => good_cut (t50_4 k _ _ ok h)))) (fun _ h => nomatch h))) (fun _ h => nomatch h))) (fun _ h => good_ret (by cases h; rfl)))
theorem t50 (k : Nat) (q : List Pt) (ok : Bool) (h : G50 k q = some ok) : Ends Try.prog Try.f50.results.toList [.code (bodyOf Try.f50)] (start Try.f50.ntmps ([ptsF q].map .f)) (F.bool ok) := by
  refine Ends.of_run tyOK envH8_ok (T := [(4, [0, 3], 1000)]) (n := 200) ?_
  have e : run Try.prog (tiOf Try.prog) envH8 [(4, [0, 3], 1000)] 0 Try.f50.results.toList some 200 [.code (bodyOf Try.f50)] (start Try.f50.ntmps ([ptsF q].map .f)) = T50 (fun ok => some (.ret (F.bool ok))) (fun q i => some (.cut (at_ Try.f50 4) (S50_4 q i))) q := by kernel_rfl
  rw [e]
  exact (good_sel h (fun _ h => (good_sel h (fun _ h => good_ret (by cases h; rfl)) (fun _ h => good_cut (t50_4 k _ _ ok h)))) (fun _ h => good_ret (by cases h; rfl)))
def wayOkV (q : List Pt) : Bool := decide (1 ≤ q.length ∧ q.length ≤ 12) && q.all fun p => spotOkV p.x p.y
theorem way_loop (q : List Pt) (hl : q.length ≤ 12) : ∀ (d i k : Nat), i + d = q.length → d + 1 ≤ k → L50_4 k q i = some ((q.drop i).all fun p => spotOkV p.x p.y)
  | d, i, 0, h, hk => by omega
  | 0, i, k + 1, h, hk => by
    rw [L50_4]
    unfold T50_4
    rw [decide_eq_false (by omega), bsel_false, List.drop_eq_nil_of_le (by omega)]
    rfl
  | d + 1, i, k + 1, h, hk => by
    have hi : i < q.length := by omega
    have hg : q.getD i Pt.zero = q[i] := by simp [List.getD, List.getElem?_eq_getElem hi]
    rw [L50_4]
    unfold T50_4
    rw [decide_eq_true (show (i : Int) < q.length by omega), decide_eq_true (show (0 : Int) ≤ i by omega), Int.toNat_natCast, hg, wrapI (by omega) (by omega), show (i : Int) + 1 = ((i + 1 : Nat) : Int) by omega, way_loop q hl d (i + 1) k (by omega) (by omega), List.drop_eq_getElem_cons hi, List.all_cons]
    simp only [bsel_true]
    cases spotOkV q[i].x q[i].y <;> rfl
theorem wayOk_law (q : List Pt) : G50 20 q = some (wayOkV q) := by
  unfold G50 T50 wayOkV
  by_cases h1 : q.length < 1
  · rw [decide_eq_true (show (q.length : Int) < 1 by omega), decide_eq_false (show ¬ (1 ≤ q.length ∧ q.length ≤ 12) by omega)]; rfl
  · by_cases h2 : q.length > 12
    · rw [decide_eq_false (show ¬ (q.length : Int) < 1 by omega), decide_eq_true (show (q.length : Int) > 12 by omega), decide_eq_false (show ¬ (1 ≤ q.length ∧ q.length ≤ 12) by omega)]; rfl
    · rw [decide_eq_false (show ¬ (q.length : Int) < 1 by omega), decide_eq_false (show ¬ (q.length : Int) > 12 by omega), decide_eq_true (show 1 ≤ q.length ∧ q.length ≤ 12 by omega)]
      exact way_loop q (by omega) q.length 0 20 (by omega) (by omega)
def preWay : List F → Bool | [x] => isPts x | _ => false
def resWay : List F → F | [x] => .bool (wayOkV (unPts x)) | _ => .dflt
theorem okWay : PureOK Try.prog 50 preWay resWay :=
  fn_pure_at (c := bodyOf Try.f50) Try.func50 (by kernel_rfl) (by kernel_rfl) fun xs hp => match xs, hp with
  | [x], hp => ⟨[ptsF (unPts x)], _, ⟨(pts_eqv hp).1, trivial⟩, t50 _ _ _ (wayOk_law _), .refl _⟩
def envH10 : Env := (envH8.add 53 (.pure pre2p resLegG)).add 50 (.pure preWay resWay)
theorem envH10_ok : EnvOK Try.prog envH10 := (Env.add_ok (Env.add_ok envH8_ok okLegG.sp) okWay.sp)
end
end Go.Proofs.Ytmambbfnjbdfgaa.R
