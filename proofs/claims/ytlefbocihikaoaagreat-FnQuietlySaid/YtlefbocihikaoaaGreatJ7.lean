/-
 The own walk and what it shows,part 7 of 10.
-/
import Derived.Test.YtlefbocihikaoaaGreatJ1
import Derived.Test.YtlefbocihikaoaaGreatJ2
import Derived.Test.YtlefbocihikaoaaGreatJ3
import Derived.Test.YtlefbocihikaoaaGreatJ4
import Derived.Test.YtlefbocihikaoaaGreatJ5
import Derived.Test.YtlefbocihikaoaaGreatJ6
set_option linter.unusedVariables false
set_option linter.unusedSimpArgs false
set_option maxRecDepth 100000
set_option exponentiation.threshold 30000
namespace Go.Proofs.YtlefbocihikaoaaGreat.R
open Go
noncomputable section
set_option maxHeartbeats 2000000
/-! ### function 22 -/
def T22 {ρ:Type} (ret:(F)→Option ρ) (x0:Int) (y0:Int) (x1:Int) (y1:Int) (u0:Int) (v0:Int) (u1:Int) (v1:Int):Option ρ :=
 (AC (decide ((if true=true then if u0 > x0 then u0 else x0 else if u0<x0 then u0 else x0) > if false=true then if u1 > x1 then u1 else x1 else if u1<x1 then u1 else x1)==false)
 (AC (decide ((if true=true then if (if false=true then if v1 > v0 then v1 else v0 else if v1<v0 then v1 else v0) > if false=true then if y1 > y0 then y1 else y0 else if y1<y0 then y1 else y0 then if false=true then if v1 > v0 then v1 else v0 else if v1<v0 then v1 else v0 else if false=true then if y1 > y0 then y1 else y0 else if y1<y0 then y1 else y0 else if (if false=true then if v1 > v0 then v1 else v0 else if v1<v0 then v1 else v0)<if false=true then if y1 > y0 then y1 else y0 else if y1<y0 then y1 else y0 then if false=true then if v1 > v0 then v1 else v0 else if v1<v0 then v1 else v0 else if false=true then if y1 > y0 then y1 else y0 else if y1<y0 then y1 else y0) > if false=true then if (if true=true then if v1 > v0 then v1 else v0 else if v1<v0 then v1 else v0) > if true=true then if y1 > y0 then y1 else y0 else if y1<y0 then y1 else y0 then if true=true then if v1 > v0 then v1 else v0 else if v1<v0 then v1 else v0 else if true=true then if y1 > y0 then y1 else y0 else if y1<y0 then y1 else y0 else if (if true=true then if v1 > v0 then v1 else v0 else if v1<v0 then v1 else v0)<if true=true then if y1 > y0 then y1 else y0 else if y1<y0 then y1 else y0 then if true=true then if v1 > v0 then v1 else v0 else if v1<v0 then v1 else v0 else if true=true then if y1 > y0 then y1 else y0 else if y1<y0 then y1 else y0))
 (ret (F.tup [F.int .i64 0,F.agg [F.int .u64 0,F.int .u64 0,F.int .u64 0,F.int .u64 0,F.int .u64 0,F.int .u64 0,F.int .u64 0,F.int .u64 0,F.int .u64 0,F.int .u64 0,F.int .u64 0,F.int .u64 0],F.agg [F.int .u64 0,F.int .u64 0,F.int .u64 0,F.int .u64 0,F.int .u64 0,F.int .u64 0,F.int .u64 0,F.int .u64 0,F.int .u64 0,F.int .u64 0,F.int .u64 0,F.int .u64 0]]))
 (AC ((AE x0 y0 x1 y1 u0 v0==0)==true)
 (AC (AE x0 y0 x1 y1 u1 v1==0)
 (AC (decide (EH u0 v0 x0 y0 > 0))
 (AC (decide (EH u1 v1 x1 y1<0))
 (AC (decide (EH u0 v0 u1 v1 > 0))
 (ret (F.tup [F.int .i64 0,F.agg [F.int .u64 0,F.int .u64 0,F.int .u64 0,F.int .u64 0,F.int .u64 0,F.int .u64 0,F.int .u64 0,F.int .u64 0,F.int .u64 0,F.int .u64 0,F.int .u64 0,F.int .u64 0],F.agg [F.int .u64 0,F.int .u64 0,F.int .u64 0,F.int .u64 0,F.int .u64 0,F.int .u64 0,F.int .u64 0,F.int .u64 0,F.int .u64 0,F.int .u64 0,F.int .u64 0,F.int .u64 0]]))
 (AC (EH u0 v0 u1 v1==0)
 (AC (Al u0&&Al v0)
 (ret (F.tup [F.int .i64 1,F.agg [F.int .u64 (wd3 u0),F.int .u64 (wd2 u0),F.int .u64 (wd1 u0),F.int .u64 (wd0 u0),F.int .u64 (wd3 v0),F.int .u64 (wd2 v0),F.int .u64 (wd1 v0),F.int .u64 (wd0 v0),F.int .u64 (wd3 1),F.int .u64 (wd2 1),F.int .u64 (wd1 1),F.int .u64 (wd0 1)],F.agg [F.int .u64 0,F.int .u64 0,F.int .u64 0,F.int .u64 0,F.int .u64 0,F.int .u64 0,F.int .u64 0,F.int .u64 0,F.int .u64 0,F.int .u64 0,F.int .u64 0,F.int .u64 0]]))
 none)
 (AC (Al u0&&Al v0)
 (AC (Al u1&&Al v1)
 (ret (F.tup [F.int .i64 2,F.agg [F.int .u64 (wd3 u0),F.int .u64 (wd2 u0),F.int .u64 (wd1 u0),F.int .u64 (wd0 u0),F.int .u64 (wd3 v0),F.int .u64 (wd2 v0),F.int .u64 (wd1 v0),F.int .u64 (wd0 v0),F.int .u64 (wd3 1),F.int .u64 (wd2 1),F.int .u64 (wd1 1),F.int .u64 (wd0 1)],F.agg [F.int .u64 (wd3 u1),F.int .u64 (wd2 u1),F.int .u64 (wd1 u1),F.int .u64 (wd0 u1),F.int .u64 (wd3 v1),F.int .u64 (wd2 v1),F.int .u64 (wd1 v1),F.int .u64 (wd0 v1),F.int .u64 (wd3 1),F.int .u64 (wd2 1),F.int .u64 (wd1 1),F.int .u64 (wd0 1)]]))
 none)
 none)))
 (AC (decide (EH u0 v0 x1 y1 > 0))
 (ret (F.tup [F.int .i64 0,F.agg [F.int .u64 0,F.int .u64 0,F.int .u64 0,F.int .u64 0,F.int .u64 0,F.int .u64 0,F.int .u64 0,F.int .u64 0,F.int .u64 0,F.int .u64 0,F.int .u64 0,F.int .u64 0],F.agg [F.int .u64 0,F.int .u64 0,F.int .u64 0,F.int .u64 0,F.int .u64 0,F.int .u64 0,F.int .u64 0,F.int .u64 0,F.int .u64 0,F.int .u64 0,F.int .u64 0,F.int .u64 0]]))
 (AC (EH u0 v0 x1 y1==0)
 (AC (Al u0&&Al v0)
 (ret (F.tup [F.int .i64 1,F.agg [F.int .u64 (wd3 u0),F.int .u64 (wd2 u0),F.int .u64 (wd1 u0),F.int .u64 (wd0 u0),F.int .u64 (wd3 v0),F.int .u64 (wd2 v0),F.int .u64 (wd1 v0),F.int .u64 (wd0 v0),F.int .u64 (wd3 1),F.int .u64 (wd2 1),F.int .u64 (wd1 1),F.int .u64 (wd0 1)],F.agg [F.int .u64 0,F.int .u64 0,F.int .u64 0,F.int .u64 0,F.int .u64 0,F.int .u64 0,F.int .u64 0,F.int .u64 0,F.int .u64 0,F.int .u64 0,F.int .u64 0,F.int .u64 0]]))
 none)
 (AC (Al u0&&Al v0)
 (AC (Al x1&&Al y1)
 (ret (F.tup [F.int .i64 2,F.agg [F.int .u64 (wd3 u0),F.int .u64 (wd2 u0),F.int .u64 (wd1 u0),F.int .u64 (wd0 u0),F.int .u64 (wd3 v0),F.int .u64 (wd2 v0),F.int .u64 (wd1 v0),F.int .u64 (wd0 v0),F.int .u64 (wd3 1),F.int .u64 (wd2 1),F.int .u64 (wd1 1),F.int .u64 (wd0 1)],F.agg [F.int .u64 (wd3 x1),F.int .u64 (wd2 x1),F.int .u64 (wd1 x1),F.int .u64 (wd0 x1),F.int .u64 (wd3 y1),F.int .u64 (wd2 y1),F.int .u64 (wd1 y1),F.int .u64 (wd0 y1),F.int .u64 (wd3 1),F.int .u64 (wd2 1),F.int .u64 (wd1 1),F.int .u64 (wd0 1)]]))
 none)
 none))))
 (AC (decide (EH u1 v1 x1 y1<0))
 (AC (decide (EH x0 y0 u1 v1 > 0))
 (ret (F.tup [F.int .i64 0,F.agg [F.int .u64 0,F.int .u64 0,F.int .u64 0,F.int .u64 0,F.int .u64 0,F.int .u64 0,F.int .u64 0,F.int .u64 0,F.int .u64 0,F.int .u64 0,F.int .u64 0,F.int .u64 0],F.agg [F.int .u64 0,F.int .u64 0,F.int .u64 0,F.int .u64 0,F.int .u64 0,F.int .u64 0,F.int .u64 0,F.int .u64 0,F.int .u64 0,F.int .u64 0,F.int .u64 0,F.int .u64 0]]))
 (AC (EH x0 y0 u1 v1==0)
 (AC (Al x0&&Al y0)
 (ret (F.tup [F.int .i64 1,F.agg [F.int .u64 (wd3 x0),F.int .u64 (wd2 x0),F.int .u64 (wd1 x0),F.int .u64 (wd0 x0),F.int .u64 (wd3 y0),F.int .u64 (wd2 y0),F.int .u64 (wd1 y0),F.int .u64 (wd0 y0),F.int .u64 (wd3 1),F.int .u64 (wd2 1),F.int .u64 (wd1 1),F.int .u64 (wd0 1)],F.agg [F.int .u64 0,F.int .u64 0,F.int .u64 0,F.int .u64 0,F.int .u64 0,F.int .u64 0,F.int .u64 0,F.int .u64 0,F.int .u64 0,F.int .u64 0,F.int .u64 0,F.int .u64 0]]))
 none)
 (AC (Al x0&&Al y0)
 (AC (Al u1&&Al v1)
 (ret (F.tup [F.int .i64 2,F.agg [F.int .u64 (wd3 x0),F.int .u64 (wd2 x0),F.int .u64 (wd1 x0),F.int .u64 (wd0 x0),F.int .u64 (wd3 y0),F.int .u64 (wd2 y0),F.int .u64 (wd1 y0),F.int .u64 (wd0 y0),F.int .u64 (wd3 1),F.int .u64 (wd2 1),F.int .u64 (wd1 1),F.int .u64 (wd0 1)],F.agg [F.int .u64 (wd3 u1),F.int .u64 (wd2 u1),F.int .u64 (wd1 u1),F.int .u64 (wd0 u1),F.int .u64 (wd3 v1),F.int .u64 (wd2 v1),F.int .u64 (wd1 v1),F.int .u64 (wd0 v1),F.int .u64 (wd3 1),F.int .u64 (wd2 1),F.int .u64 (wd1 1),F.int .u64 (wd0 1)]]))
 none)
 none)))
 (AC (decide (EH x0 y0 x1 y1 > 0))
 (ret (F.tup [F.int .i64 0,F.agg [F.int .u64 0,F.int .u64 0,F.int .u64 0,F.int .u64 0,F.int .u64 0,F.int .u64 0,F.int .u64 0,F.int .u64 0,F.int .u64 0,F.int .u64 0,F.int .u64 0,F.int .u64 0],F.agg [F.int .u64 0,F.int .u64 0,F.int .u64 0,F.int .u64 0,F.int .u64 0,F.int .u64 0,F.int .u64 0,F.int .u64 0,F.int .u64 0,F.int .u64 0,F.int .u64 0,F.int .u64 0]]))
 (AC (EH x0 y0 x1 y1==0)
 (AC (Al x0&&Al y0)
 (ret (F.tup [F.int .i64 1,F.agg [F.int .u64 (wd3 x0),F.int .u64 (wd2 x0),F.int .u64 (wd1 x0),F.int .u64 (wd0 x0),F.int .u64 (wd3 y0),F.int .u64 (wd2 y0),F.int .u64 (wd1 y0),F.int .u64 (wd0 y0),F.int .u64 (wd3 1),F.int .u64 (wd2 1),F.int .u64 (wd1 1),F.int .u64 (wd0 1)],F.agg [F.int .u64 0,F.int .u64 0,F.int .u64 0,F.int .u64 0,F.int .u64 0,F.int .u64 0,F.int .u64 0,F.int .u64 0,F.int .u64 0,F.int .u64 0,F.int .u64 0,F.int .u64 0]]))
 none)
 (AC (Al x0&&Al y0)
 (AC (Al x1&&Al y1)
 (ret (F.tup [F.int .i64 2,F.agg [F.int .u64 (wd3 x0),F.int .u64 (wd2 x0),F.int .u64 (wd1 x0),F.int .u64 (wd0 x0),F.int .u64 (wd3 y0),F.int .u64 (wd2 y0),F.int .u64 (wd1 y0),F.int .u64 (wd0 y0),F.int .u64 (wd3 1),F.int .u64 (wd2 1),F.int .u64 (wd1 1),F.int .u64 (wd0 1)],F.agg [F.int .u64 (wd3 x1),F.int .u64 (wd2 x1),F.int .u64 (wd1 x1),F.int .u64 (wd0 x1),F.int .u64 (wd3 y1),F.int .u64 (wd2 y1),F.int .u64 (wd1 y1),F.int .u64 (wd0 y1),F.int .u64 (wd3 1),F.int .u64 (wd2 1),F.int .u64 (wd1 1),F.int .u64 (wd0 1)]]))
 none)
 none)))))
 (AC (decide (IntKind.i64.wrap (HJ (AE x0 y0 x1 y1 u0 v0)*HJ (AE x0 y0 x1 y1 u1 v1)) > 0)==false)
 (AC (decide (IntKind.i64.wrap (HJ (AE u0 v0 u1 v1 x0 y0)*HJ (AE u0 v0 u1 v1 x1 y1)) > 0))
 (ret (F.tup [F.int .i64 0,F.agg [F.int .u64 0,F.int .u64 0,F.int .u64 0,F.int .u64 0,F.int .u64 0,F.int .u64 0,F.int .u64 0,F.int .u64 0,F.int .u64 0,F.int .u64 0,F.int .u64 0,F.int .u64 0],F.agg [F.int .u64 0,F.int .u64 0,F.int .u64 0,F.int .u64 0,F.int .u64 0,F.int .u64 0,F.int .u64 0,F.int .u64 0,F.int .u64 0,F.int .u64 0,F.int .u64 0,F.int .u64 0]]))
 (AC (Al (IntKind.i64.wrap (AE x0 y0 x1 y1 u0 v0-AE x0 y0 x1 y1 u1 v1)))
 (AC (Al u0)
 (AC (BA 400 (AD [F.int .i64 u0])&&BA 400 (AH (IntKind.i64.wrap (AE x0 y0 x1 y1 u0 v0-AE x0 y0 x1 y1 u1 v1))))
 (AC (Al (AE x0 y0 x1 y1 u0 v0))
 (AC (Al (IntKind.i64.wrap (u1-u0)))
 (AC (BA 400 (AD [F.int .i64 (AE x0 y0 x1 y1 u0 v0)])&&BA 400 (AD [F.int .i64 (IntKind.i64.wrap (u1-u0))]))
 (AC (BA 400 (AQ [AD [F.int .i64 u0],AH (IntKind.i64.wrap (AE x0 y0 x1 y1 u0 v0-AE x0 y0 x1 y1 u1 v1))])&&BA 400 (AQ [AD [F.int .i64 (AE x0 y0 x1 y1 u0 v0)],AD [F.int .i64 (IntKind.i64.wrap (u1-u0))]]))
 (AC (Al v0)
 (AC (BA 400 (AD [F.int .i64 v0])&&BA 400 (AH (IntKind.i64.wrap (AE x0 y0 x1 y1 u0 v0-AE x0 y0 x1 y1 u1 v1))))
 (AC (Al (AE x0 y0 x1 y1 u0 v0))
 (AC (Al (IntKind.i64.wrap (v1-v0)))
 (AC (BA 400 (AD [F.int .i64 (AE x0 y0 x1 y1 u0 v0)])&&BA 400 (AD [F.int .i64 (IntKind.i64.wrap (v1-v0))]))
 (AC (BA 400 (AQ [AD [F.int .i64 v0],AH (IntKind.i64.wrap (AE x0 y0 x1 y1 u0 v0-AE x0 y0 x1 y1 u1 v1))])&&BA 400 (AQ [AD [F.int .i64 (AE x0 y0 x1 y1 u0 v0)],AD [F.int .i64 (IntKind.i64.wrap (v1-v0))]]))
 (AC (Ew 1 (A7 (AG (AQ [AD [F.int .i64 u0],AH (IntKind.i64.wrap (AE x0 y0 x1 y1 u0 v0-AE x0 y0 x1 y1 u1 v1))])+AG (AQ [AD [F.int .i64 (AE x0 y0 x1 y1 u0 v0)],AD [F.int .i64 (IntKind.i64.wrap (u1-u0))]])) (AG (AQ [AD [F.int .i64 v0],AH (IntKind.i64.wrap (AE x0 y0 x1 y1 u0 v0-AE x0 y0 x1 y1 u1 v1))])+AG (AQ [AD [F.int .i64 (AE x0 y0 x1 y1 u0 v0)],AD [F.int .i64 (IntKind.i64.wrap (v1-v0))]])) (IntKind.i64.wrap (AE x0 y0 x1 y1 u0 v0-AE x0 y0 x1 y1 u1 v1))))
 (ret (F.tup [F.int .i64 1,F.agg [F.int .u64 (Bo 0 (CF (A7 (AG (AQ [AD [F.int .i64 u0],AH (IntKind.i64.wrap (AE x0 y0 x1 y1 u0 v0-AE x0 y0 x1 y1 u1 v1))])+AG (AQ [AD [F.int .i64 (AE x0 y0 x1 y1 u0 v0)],AD [F.int .i64 (IntKind.i64.wrap (u1-u0))]])) (AG (AQ [AD [F.int .i64 v0],AH (IntKind.i64.wrap (AE x0 y0 x1 y1 u0 v0-AE x0 y0 x1 y1 u1 v1))])+AG (AQ [AD [F.int .i64 (AE x0 y0 x1 y1 u0 v0)],AD [F.int .i64 (IntKind.i64.wrap (v1-v0))]])) (IntKind.i64.wrap (AE x0 y0 x1 y1 u0 v0-AE x0 y0 x1 y1 u1 v1)))) (CE (A7 (AG (AQ [AD [F.int .i64 u0],AH (IntKind.i64.wrap (AE x0 y0 x1 y1 u0 v0-AE x0 y0 x1 y1 u1 v1))])+AG (AQ [AD [F.int .i64 (AE x0 y0 x1 y1 u0 v0)],AD [F.int .i64 (IntKind.i64.wrap (u1-u0))]])) (AG (AQ [AD [F.int .i64 v0],AH (IntKind.i64.wrap (AE x0 y0 x1 y1 u0 v0-AE x0 y0 x1 y1 u1 v1))])+AG (AQ [AD [F.int .i64 (AE x0 y0 x1 y1 u0 v0)],AD [F.int .i64 (IntKind.i64.wrap (v1-v0))]])) (IntKind.i64.wrap (AE x0 y0 x1 y1 u0 v0-AE x0 y0 x1 y1 u1 v1)))) (CG (A7 (AG (AQ [AD [F.int .i64 u0],AH (IntKind.i64.wrap (AE x0 y0 x1 y1 u0 v0-AE x0 y0 x1 y1 u1 v1))])+AG (AQ [AD [F.int .i64 (AE x0 y0 x1 y1 u0 v0)],AD [F.int .i64 (IntKind.i64.wrap (u1-u0))]])) (AG (AQ [AD [F.int .i64 v0],AH (IntKind.i64.wrap (AE x0 y0 x1 y1 u0 v0-AE x0 y0 x1 y1 u1 v1))])+AG (AQ [AD [F.int .i64 (AE x0 y0 x1 y1 u0 v0)],AD [F.int .i64 (IntKind.i64.wrap (v1-v0))]])) (IntKind.i64.wrap (AE x0 y0 x1 y1 u0 v0-AE x0 y0 x1 y1 u1 v1))))),F.int .u64 (Bo 1 (CF (A7 (AG (AQ [AD [F.int .i64 u0],AH (IntKind.i64.wrap (AE x0 y0 x1 y1 u0 v0-AE x0 y0 x1 y1 u1 v1))])+AG (AQ [AD [F.int .i64 (AE x0 y0 x1 y1 u0 v0)],AD [F.int .i64 (IntKind.i64.wrap (u1-u0))]])) (AG (AQ [AD [F.int .i64 v0],AH (IntKind.i64.wrap (AE x0 y0 x1 y1 u0 v0-AE x0 y0 x1 y1 u1 v1))])+AG (AQ [AD [F.int .i64 (AE x0 y0 x1 y1 u0 v0)],AD [F.int .i64 (IntKind.i64.wrap (v1-v0))]])) (IntKind.i64.wrap (AE x0 y0 x1 y1 u0 v0-AE x0 y0 x1 y1 u1 v1)))) (CE (A7 (AG (AQ [AD [F.int .i64 u0],AH (IntKind.i64.wrap (AE x0 y0 x1 y1 u0 v0-AE x0 y0 x1 y1 u1 v1))])+AG (AQ [AD [F.int .i64 (AE x0 y0 x1 y1 u0 v0)],AD [F.int .i64 (IntKind.i64.wrap (u1-u0))]])) (AG (AQ [AD [F.int .i64 v0],AH (IntKind.i64.wrap (AE x0 y0 x1 y1 u0 v0-AE x0 y0 x1 y1 u1 v1))])+AG (AQ [AD [F.int .i64 (AE x0 y0 x1 y1 u0 v0)],AD [F.int .i64 (IntKind.i64.wrap (v1-v0))]])) (IntKind.i64.wrap (AE x0 y0 x1 y1 u0 v0-AE x0 y0 x1 y1 u1 v1)))) (CG (A7 (AG (AQ [AD [F.int .i64 u0],AH (IntKind.i64.wrap (AE x0 y0 x1 y1 u0 v0-AE x0 y0 x1 y1 u1 v1))])+AG (AQ [AD [F.int .i64 (AE x0 y0 x1 y1 u0 v0)],AD [F.int .i64 (IntKind.i64.wrap (u1-u0))]])) (AG (AQ [AD [F.int .i64 v0],AH (IntKind.i64.wrap (AE x0 y0 x1 y1 u0 v0-AE x0 y0 x1 y1 u1 v1))])+AG (AQ [AD [F.int .i64 (AE x0 y0 x1 y1 u0 v0)],AD [F.int .i64 (IntKind.i64.wrap (v1-v0))]])) (IntKind.i64.wrap (AE x0 y0 x1 y1 u0 v0-AE x0 y0 x1 y1 u1 v1))))),F.int .u64 (Bo 2 (CF (A7 (AG (AQ [AD [F.int .i64 u0],AH (IntKind.i64.wrap (AE x0 y0 x1 y1 u0 v0-AE x0 y0 x1 y1 u1 v1))])+AG (AQ [AD [F.int .i64 (AE x0 y0 x1 y1 u0 v0)],AD [F.int .i64 (IntKind.i64.wrap (u1-u0))]])) (AG (AQ [AD [F.int .i64 v0],AH (IntKind.i64.wrap (AE x0 y0 x1 y1 u0 v0-AE x0 y0 x1 y1 u1 v1))])+AG (AQ [AD [F.int .i64 (AE x0 y0 x1 y1 u0 v0)],AD [F.int .i64 (IntKind.i64.wrap (v1-v0))]])) (IntKind.i64.wrap (AE x0 y0 x1 y1 u0 v0-AE x0 y0 x1 y1 u1 v1)))) (CE (A7 (AG (AQ [AD [F.int .i64 u0],AH (IntKind.i64.wrap (AE x0 y0 x1 y1 u0 v0-AE x0 y0 x1 y1 u1 v1))])+AG (AQ [AD [F.int .i64 (AE x0 y0 x1 y1 u0 v0)],AD [F.int .i64 (IntKind.i64.wrap (u1-u0))]])) (AG (AQ [AD [F.int .i64 v0],AH (IntKind.i64.wrap (AE x0 y0 x1 y1 u0 v0-AE x0 y0 x1 y1 u1 v1))])+AG (AQ [AD [F.int .i64 (AE x0 y0 x1 y1 u0 v0)],AD [F.int .i64 (IntKind.i64.wrap (v1-v0))]])) (IntKind.i64.wrap (AE x0 y0 x1 y1 u0 v0-AE x0 y0 x1 y1 u1 v1)))) (CG (A7 (AG (AQ [AD [F.int .i64 u0],AH (IntKind.i64.wrap (AE x0 y0 x1 y1 u0 v0-AE x0 y0 x1 y1 u1 v1))])+AG (AQ [AD [F.int .i64 (AE x0 y0 x1 y1 u0 v0)],AD [F.int .i64 (IntKind.i64.wrap (u1-u0))]])) (AG (AQ [AD [F.int .i64 v0],AH (IntKind.i64.wrap (AE x0 y0 x1 y1 u0 v0-AE x0 y0 x1 y1 u1 v1))])+AG (AQ [AD [F.int .i64 (AE x0 y0 x1 y1 u0 v0)],AD [F.int .i64 (IntKind.i64.wrap (v1-v0))]])) (IntKind.i64.wrap (AE x0 y0 x1 y1 u0 v0-AE x0 y0 x1 y1 u1 v1))))),F.int .u64 (Bo 3 (CF (A7 (AG (AQ [AD [F.int .i64 u0],AH (IntKind.i64.wrap (AE x0 y0 x1 y1 u0 v0-AE x0 y0 x1 y1 u1 v1))])+AG (AQ [AD [F.int .i64 (AE x0 y0 x1 y1 u0 v0)],AD [F.int .i64 (IntKind.i64.wrap (u1-u0))]])) (AG (AQ [AD [F.int .i64 v0],AH (IntKind.i64.wrap (AE x0 y0 x1 y1 u0 v0-AE x0 y0 x1 y1 u1 v1))])+AG (AQ [AD [F.int .i64 (AE x0 y0 x1 y1 u0 v0)],AD [F.int .i64 (IntKind.i64.wrap (v1-v0))]])) (IntKind.i64.wrap (AE x0 y0 x1 y1 u0 v0-AE x0 y0 x1 y1 u1 v1)))) (CE (A7 (AG (AQ [AD [F.int .i64 u0],AH (IntKind.i64.wrap (AE x0 y0 x1 y1 u0 v0-AE x0 y0 x1 y1 u1 v1))])+AG (AQ [AD [F.int .i64 (AE x0 y0 x1 y1 u0 v0)],AD [F.int .i64 (IntKind.i64.wrap (u1-u0))]])) (AG (AQ [AD [F.int .i64 v0],AH (IntKind.i64.wrap (AE x0 y0 x1 y1 u0 v0-AE x0 y0 x1 y1 u1 v1))])+AG (AQ [AD [F.int .i64 (AE x0 y0 x1 y1 u0 v0)],AD [F.int .i64 (IntKind.i64.wrap (v1-v0))]])) (IntKind.i64.wrap (AE x0 y0 x1 y1 u0 v0-AE x0 y0 x1 y1 u1 v1)))) (CG (A7 (AG (AQ [AD [F.int .i64 u0],AH (IntKind.i64.wrap (AE x0 y0 x1 y1 u0 v0-AE x0 y0 x1 y1 u1 v1))])+AG (AQ [AD [F.int .i64 (AE x0 y0 x1 y1 u0 v0)],AD [F.int .i64 (IntKind.i64.wrap (u1-u0))]])) (AG (AQ [AD [F.int .i64 v0],AH (IntKind.i64.wrap (AE x0 y0 x1 y1 u0 v0-AE x0 y0 x1 y1 u1 v1))])+AG (AQ [AD [F.int .i64 (AE x0 y0 x1 y1 u0 v0)],AD [F.int .i64 (IntKind.i64.wrap (v1-v0))]])) (IntKind.i64.wrap (AE x0 y0 x1 y1 u0 v0-AE x0 y0 x1 y1 u1 v1))))),F.int .u64 (Bo 4 (CF (A7 (AG (AQ [AD [F.int .i64 u0],AH (IntKind.i64.wrap (AE x0 y0 x1 y1 u0 v0-AE x0 y0 x1 y1 u1 v1))])+AG (AQ [AD [F.int .i64 (AE x0 y0 x1 y1 u0 v0)],AD [F.int .i64 (IntKind.i64.wrap (u1-u0))]])) (AG (AQ [AD [F.int .i64 v0],AH (IntKind.i64.wrap (AE x0 y0 x1 y1 u0 v0-AE x0 y0 x1 y1 u1 v1))])+AG (AQ [AD [F.int .i64 (AE x0 y0 x1 y1 u0 v0)],AD [F.int .i64 (IntKind.i64.wrap (v1-v0))]])) (IntKind.i64.wrap (AE x0 y0 x1 y1 u0 v0-AE x0 y0 x1 y1 u1 v1)))) (CE (A7 (AG (AQ [AD [F.int .i64 u0],AH (IntKind.i64.wrap (AE x0 y0 x1 y1 u0 v0-AE x0 y0 x1 y1 u1 v1))])+AG (AQ [AD [F.int .i64 (AE x0 y0 x1 y1 u0 v0)],AD [F.int .i64 (IntKind.i64.wrap (u1-u0))]])) (AG (AQ [AD [F.int .i64 v0],AH (IntKind.i64.wrap (AE x0 y0 x1 y1 u0 v0-AE x0 y0 x1 y1 u1 v1))])+AG (AQ [AD [F.int .i64 (AE x0 y0 x1 y1 u0 v0)],AD [F.int .i64 (IntKind.i64.wrap (v1-v0))]])) (IntKind.i64.wrap (AE x0 y0 x1 y1 u0 v0-AE x0 y0 x1 y1 u1 v1)))) (CG (A7 (AG (AQ [AD [F.int .i64 u0],AH (IntKind.i64.wrap (AE x0 y0 x1 y1 u0 v0-AE x0 y0 x1 y1 u1 v1))])+AG (AQ [AD [F.int .i64 (AE x0 y0 x1 y1 u0 v0)],AD [F.int .i64 (IntKind.i64.wrap (u1-u0))]])) (AG (AQ [AD [F.int .i64 v0],AH (IntKind.i64.wrap (AE x0 y0 x1 y1 u0 v0-AE x0 y0 x1 y1 u1 v1))])+AG (AQ [AD [F.int .i64 (AE x0 y0 x1 y1 u0 v0)],AD [F.int .i64 (IntKind.i64.wrap (v1-v0))]])) (IntKind.i64.wrap (AE x0 y0 x1 y1 u0 v0-AE x0 y0 x1 y1 u1 v1))))),F.int .u64 (Bo 5 (CF (A7 (AG (AQ [AD [F.int .i64 u0],AH (IntKind.i64.wrap (AE x0 y0 x1 y1 u0 v0-AE x0 y0 x1 y1 u1 v1))])+AG (AQ [AD [F.int .i64 (AE x0 y0 x1 y1 u0 v0)],AD [F.int .i64 (IntKind.i64.wrap (u1-u0))]])) (AG (AQ [AD [F.int .i64 v0],AH (IntKind.i64.wrap (AE x0 y0 x1 y1 u0 v0-AE x0 y0 x1 y1 u1 v1))])+AG (AQ [AD [F.int .i64 (AE x0 y0 x1 y1 u0 v0)],AD [F.int .i64 (IntKind.i64.wrap (v1-v0))]])) (IntKind.i64.wrap (AE x0 y0 x1 y1 u0 v0-AE x0 y0 x1 y1 u1 v1)))) (CE (A7 (AG (AQ [AD [F.int .i64 u0],AH (IntKind.i64.wrap (AE x0 y0 x1 y1 u0 v0-AE x0 y0 x1 y1 u1 v1))])+AG (AQ [AD [F.int .i64 (AE x0 y0 x1 y1 u0 v0)],AD [F.int .i64 (IntKind.i64.wrap (u1-u0))]])) (AG (AQ [AD [F.int .i64 v0],AH (IntKind.i64.wrap (AE x0 y0 x1 y1 u0 v0-AE x0 y0 x1 y1 u1 v1))])+AG (AQ [AD [F.int .i64 (AE x0 y0 x1 y1 u0 v0)],AD [F.int .i64 (IntKind.i64.wrap (v1-v0))]])) (IntKind.i64.wrap (AE x0 y0 x1 y1 u0 v0-AE x0 y0 x1 y1 u1 v1)))) (CG (A7 (AG (AQ [AD [F.int .i64 u0],AH (IntKind.i64.wrap (AE x0 y0 x1 y1 u0 v0-AE x0 y0 x1 y1 u1 v1))])+AG (AQ [AD [F.int .i64 (AE x0 y0 x1 y1 u0 v0)],AD [F.int .i64 (IntKind.i64.wrap (u1-u0))]])) (AG (AQ [AD [F.int .i64 v0],AH (IntKind.i64.wrap (AE x0 y0 x1 y1 u0 v0-AE x0 y0 x1 y1 u1 v1))])+AG (AQ [AD [F.int .i64 (AE x0 y0 x1 y1 u0 v0)],AD [F.int .i64 (IntKind.i64.wrap (v1-v0))]])) (IntKind.i64.wrap (AE x0 y0 x1 y1 u0 v0-AE x0 y0 x1 y1 u1 v1))))),F.int .u64 (Bo 6 (CF (A7 (AG (AQ [AD [F.int .i64 u0],AH (IntKind.i64.wrap (AE x0 y0 x1 y1 u0 v0-AE x0 y0 x1 y1 u1 v1))])+AG (AQ [AD [F.int .i64 (AE x0 y0 x1 y1 u0 v0)],AD [F.int .i64 (IntKind.i64.wrap (u1-u0))]])) (AG (AQ [AD [F.int .i64 v0],AH (IntKind.i64.wrap (AE x0 y0 x1 y1 u0 v0-AE x0 y0 x1 y1 u1 v1))])+AG (AQ [AD [F.int .i64 (AE x0 y0 x1 y1 u0 v0)],AD [F.int .i64 (IntKind.i64.wrap (v1-v0))]])) (IntKind.i64.wrap (AE x0 y0 x1 y1 u0 v0-AE x0 y0 x1 y1 u1 v1)))) (CE (A7 (AG (AQ [AD [F.int .i64 u0],AH (IntKind.i64.wrap (AE x0 y0 x1 y1 u0 v0-AE x0 y0 x1 y1 u1 v1))])+AG (AQ [AD [F.int .i64 (AE x0 y0 x1 y1 u0 v0)],AD [F.int .i64 (IntKind.i64.wrap (u1-u0))]])) (AG (AQ [AD [F.int .i64 v0],AH (IntKind.i64.wrap (AE x0 y0 x1 y1 u0 v0-AE x0 y0 x1 y1 u1 v1))])+AG (AQ [AD [F.int .i64 (AE x0 y0 x1 y1 u0 v0)],AD [F.int .i64 (IntKind.i64.wrap (v1-v0))]])) (IntKind.i64.wrap (AE x0 y0 x1 y1 u0 v0-AE x0 y0 x1 y1 u1 v1)))) (CG (A7 (AG (AQ [AD [F.int .i64 u0],AH (IntKind.i64.wrap (AE x0 y0 x1 y1 u0 v0-AE x0 y0 x1 y1 u1 v1))])+AG (AQ [AD [F.int .i64 (AE x0 y0 x1 y1 u0 v0)],AD [F.int .i64 (IntKind.i64.wrap (u1-u0))]])) (AG (AQ [AD [F.int .i64 v0],AH (IntKind.i64.wrap (AE x0 y0 x1 y1 u0 v0-AE x0 y0 x1 y1 u1 v1))])+AG (AQ [AD [F.int .i64 (AE x0 y0 x1 y1 u0 v0)],AD [F.int .i64 (IntKind.i64.wrap (v1-v0))]])) (IntKind.i64.wrap (AE x0 y0 x1 y1 u0 v0-AE x0 y0 x1 y1 u1 v1))))),F.int .u64 (Bo 7 (CF (A7 (AG (AQ [AD [F.int .i64 u0],AH (IntKind.i64.wrap (AE x0 y0 x1 y1 u0 v0-AE x0 y0 x1 y1 u1 v1))])+AG (AQ [AD [F.int .i64 (AE x0 y0 x1 y1 u0 v0)],AD [F.int .i64 (IntKind.i64.wrap (u1-u0))]])) (AG (AQ [AD [F.int .i64 v0],AH (IntKind.i64.wrap (AE x0 y0 x1 y1 u0 v0-AE x0 y0 x1 y1 u1 v1))])+AG (AQ [AD [F.int .i64 (AE x0 y0 x1 y1 u0 v0)],AD [F.int .i64 (IntKind.i64.wrap (v1-v0))]])) (IntKind.i64.wrap (AE x0 y0 x1 y1 u0 v0-AE x0 y0 x1 y1 u1 v1)))) (CE (A7 (AG (AQ [AD [F.int .i64 u0],AH (IntKind.i64.wrap (AE x0 y0 x1 y1 u0 v0-AE x0 y0 x1 y1 u1 v1))])+AG (AQ [AD [F.int .i64 (AE x0 y0 x1 y1 u0 v0)],AD [F.int .i64 (IntKind.i64.wrap (u1-u0))]])) (AG (AQ [AD [F.int .i64 v0],AH (IntKind.i64.wrap (AE x0 y0 x1 y1 u0 v0-AE x0 y0 x1 y1 u1 v1))])+AG (AQ [AD [F.int .i64 (AE x0 y0 x1 y1 u0 v0)],AD [F.int .i64 (IntKind.i64.wrap (v1-v0))]])) (IntKind.i64.wrap (AE x0 y0 x1 y1 u0 v0-AE x0 y0 x1 y1 u1 v1)))) (CG (A7 (AG (AQ [AD [F.int .i64 u0],AH (IntKind.i64.wrap (AE x0 y0 x1 y1 u0 v0-AE x0 y0 x1 y1 u1 v1))])+AG (AQ [AD [F.int .i64 (AE x0 y0 x1 y1 u0 v0)],AD [F.int .i64 (IntKind.i64.wrap (u1-u0))]])) (AG (AQ [AD [F.int .i64 v0],AH (IntKind.i64.wrap (AE x0 y0 x1 y1 u0 v0-AE x0 y0 x1 y1 u1 v1))])+AG (AQ [AD [F.int .i64 (AE x0 y0 x1 y1 u0 v0)],AD [F.int .i64 (IntKind.i64.wrap (v1-v0))]])) (IntKind.i64.wrap (AE x0 y0 x1 y1 u0 v0-AE x0 y0 x1 y1 u1 v1))))),F.int .u64 (Bo 8 (CF (A7 (AG (AQ [AD [F.int .i64 u0],AH (IntKind.i64.wrap (AE x0 y0 x1 y1 u0 v0-AE x0 y0 x1 y1 u1 v1))])+AG (AQ [AD [F.int .i64 (AE x0 y0 x1 y1 u0 v0)],AD [F.int .i64 (IntKind.i64.wrap (u1-u0))]])) (AG (AQ [AD [F.int .i64 v0],AH (IntKind.i64.wrap (AE x0 y0 x1 y1 u0 v0-AE x0 y0 x1 y1 u1 v1))])+AG (AQ [AD [F.int .i64 (AE x0 y0 x1 y1 u0 v0)],AD [F.int .i64 (IntKind.i64.wrap (v1-v0))]])) (IntKind.i64.wrap (AE x0 y0 x1 y1 u0 v0-AE x0 y0 x1 y1 u1 v1)))) (CE (A7 (AG (AQ [AD [F.int .i64 u0],AH (IntKind.i64.wrap (AE x0 y0 x1 y1 u0 v0-AE x0 y0 x1 y1 u1 v1))])+AG (AQ [AD [F.int .i64 (AE x0 y0 x1 y1 u0 v0)],AD [F.int .i64 (IntKind.i64.wrap (u1-u0))]])) (AG (AQ [AD [F.int .i64 v0],AH (IntKind.i64.wrap (AE x0 y0 x1 y1 u0 v0-AE x0 y0 x1 y1 u1 v1))])+AG (AQ [AD [F.int .i64 (AE x0 y0 x1 y1 u0 v0)],AD [F.int .i64 (IntKind.i64.wrap (v1-v0))]])) (IntKind.i64.wrap (AE x0 y0 x1 y1 u0 v0-AE x0 y0 x1 y1 u1 v1)))) (CG (A7 (AG (AQ [AD [F.int .i64 u0],AH (IntKind.i64.wrap (AE x0 y0 x1 y1 u0 v0-AE x0 y0 x1 y1 u1 v1))])+AG (AQ [AD [F.int .i64 (AE x0 y0 x1 y1 u0 v0)],AD [F.int .i64 (IntKind.i64.wrap (u1-u0))]])) (AG (AQ [AD [F.int .i64 v0],AH (IntKind.i64.wrap (AE x0 y0 x1 y1 u0 v0-AE x0 y0 x1 y1 u1 v1))])+AG (AQ [AD [F.int .i64 (AE x0 y0 x1 y1 u0 v0)],AD [F.int .i64 (IntKind.i64.wrap (v1-v0))]])) (IntKind.i64.wrap (AE x0 y0 x1 y1 u0 v0-AE x0 y0 x1 y1 u1 v1))))),F.int .u64 (Bo 9 (CF (A7 (AG (AQ [AD [F.int .i64 u0],AH (IntKind.i64.wrap (AE x0 y0 x1 y1 u0 v0-AE x0 y0 x1 y1 u1 v1))])+AG (AQ [AD [F.int .i64 (AE x0 y0 x1 y1 u0 v0)],AD [F.int .i64 (IntKind.i64.wrap (u1-u0))]])) (AG (AQ [AD [F.int .i64 v0],AH (IntKind.i64.wrap (AE x0 y0 x1 y1 u0 v0-AE x0 y0 x1 y1 u1 v1))])+AG (AQ [AD [F.int .i64 (AE x0 y0 x1 y1 u0 v0)],AD [F.int .i64 (IntKind.i64.wrap (v1-v0))]])) (IntKind.i64.wrap (AE x0 y0 x1 y1 u0 v0-AE x0 y0 x1 y1 u1 v1)))) (CE (A7 (AG (AQ [AD [F.int .i64 u0],AH (IntKind.i64.wrap (AE x0 y0 x1 y1 u0 v0-AE x0 y0 x1 y1 u1 v1))])+AG (AQ [AD [F.int .i64 (AE x0 y0 x1 y1 u0 v0)],AD [F.int .i64 (IntKind.i64.wrap (u1-u0))]])) (AG (AQ [AD [F.int .i64 v0],AH (IntKind.i64.wrap (AE x0 y0 x1 y1 u0 v0-AE x0 y0 x1 y1 u1 v1))])+AG (AQ [AD [F.int .i64 (AE x0 y0 x1 y1 u0 v0)],AD [F.int .i64 (IntKind.i64.wrap (v1-v0))]])) (IntKind.i64.wrap (AE x0 y0 x1 y1 u0 v0-AE x0 y0 x1 y1 u1 v1)))) (CG (A7 (AG (AQ [AD [F.int .i64 u0],AH (IntKind.i64.wrap (AE x0 y0 x1 y1 u0 v0-AE x0 y0 x1 y1 u1 v1))])+AG (AQ [AD [F.int .i64 (AE x0 y0 x1 y1 u0 v0)],AD [F.int .i64 (IntKind.i64.wrap (u1-u0))]])) (AG (AQ [AD [F.int .i64 v0],AH (IntKind.i64.wrap (AE x0 y0 x1 y1 u0 v0-AE x0 y0 x1 y1 u1 v1))])+AG (AQ [AD [F.int .i64 (AE x0 y0 x1 y1 u0 v0)],AD [F.int .i64 (IntKind.i64.wrap (v1-v0))]])) (IntKind.i64.wrap (AE x0 y0 x1 y1 u0 v0-AE x0 y0 x1 y1 u1 v1))))),F.int .u64 (Bo 10 (CF (A7 (AG (AQ [AD [F.int .i64 u0],AH (IntKind.i64.wrap (AE x0 y0 x1 y1 u0 v0-AE x0 y0 x1 y1 u1 v1))])+AG (AQ [AD [F.int .i64 (AE x0 y0 x1 y1 u0 v0)],AD [F.int .i64 (IntKind.i64.wrap (u1-u0))]])) (AG (AQ [AD [F.int .i64 v0],AH (IntKind.i64.wrap (AE x0 y0 x1 y1 u0 v0-AE x0 y0 x1 y1 u1 v1))])+AG (AQ [AD [F.int .i64 (AE x0 y0 x1 y1 u0 v0)],AD [F.int .i64 (IntKind.i64.wrap (v1-v0))]])) (IntKind.i64.wrap (AE x0 y0 x1 y1 u0 v0-AE x0 y0 x1 y1 u1 v1)))) (CE (A7 (AG (AQ [AD [F.int .i64 u0],AH (IntKind.i64.wrap (AE x0 y0 x1 y1 u0 v0-AE x0 y0 x1 y1 u1 v1))])+AG (AQ [AD [F.int .i64 (AE x0 y0 x1 y1 u0 v0)],AD [F.int .i64 (IntKind.i64.wrap (u1-u0))]])) (AG (AQ [AD [F.int .i64 v0],AH (IntKind.i64.wrap (AE x0 y0 x1 y1 u0 v0-AE x0 y0 x1 y1 u1 v1))])+AG (AQ [AD [F.int .i64 (AE x0 y0 x1 y1 u0 v0)],AD [F.int .i64 (IntKind.i64.wrap (v1-v0))]])) (IntKind.i64.wrap (AE x0 y0 x1 y1 u0 v0-AE x0 y0 x1 y1 u1 v1)))) (CG (A7 (AG (AQ [AD [F.int .i64 u0],AH (IntKind.i64.wrap (AE x0 y0 x1 y1 u0 v0-AE x0 y0 x1 y1 u1 v1))])+AG (AQ [AD [F.int .i64 (AE x0 y0 x1 y1 u0 v0)],AD [F.int .i64 (IntKind.i64.wrap (u1-u0))]])) (AG (AQ [AD [F.int .i64 v0],AH (IntKind.i64.wrap (AE x0 y0 x1 y1 u0 v0-AE x0 y0 x1 y1 u1 v1))])+AG (AQ [AD [F.int .i64 (AE x0 y0 x1 y1 u0 v0)],AD [F.int .i64 (IntKind.i64.wrap (v1-v0))]])) (IntKind.i64.wrap (AE x0 y0 x1 y1 u0 v0-AE x0 y0 x1 y1 u1 v1))))),F.int .u64 (Bo 11 (CF (A7 (AG (AQ [AD [F.int .i64 u0],AH (IntKind.i64.wrap (AE x0 y0 x1 y1 u0 v0-AE x0 y0 x1 y1 u1 v1))])+AG (AQ [AD [F.int .i64 (AE x0 y0 x1 y1 u0 v0)],AD [F.int .i64 (IntKind.i64.wrap (u1-u0))]])) (AG (AQ [AD [F.int .i64 v0],AH (IntKind.i64.wrap (AE x0 y0 x1 y1 u0 v0-AE x0 y0 x1 y1 u1 v1))])+AG (AQ [AD [F.int .i64 (AE x0 y0 x1 y1 u0 v0)],AD [F.int .i64 (IntKind.i64.wrap (v1-v0))]])) (IntKind.i64.wrap (AE x0 y0 x1 y1 u0 v0-AE x0 y0 x1 y1 u1 v1)))) (CE (A7 (AG (AQ [AD [F.int .i64 u0],AH (IntKind.i64.wrap (AE x0 y0 x1 y1 u0 v0-AE x0 y0 x1 y1 u1 v1))])+AG (AQ [AD [F.int .i64 (AE x0 y0 x1 y1 u0 v0)],AD [F.int .i64 (IntKind.i64.wrap (u1-u0))]])) (AG (AQ [AD [F.int .i64 v0],AH (IntKind.i64.wrap (AE x0 y0 x1 y1 u0 v0-AE x0 y0 x1 y1 u1 v1))])+AG (AQ [AD [F.int .i64 (AE x0 y0 x1 y1 u0 v0)],AD [F.int .i64 (IntKind.i64.wrap (v1-v0))]])) (IntKind.i64.wrap (AE x0 y0 x1 y1 u0 v0-AE x0 y0 x1 y1 u1 v1)))) (CG (A7 (AG (AQ [AD [F.int .i64 u0],AH (IntKind.i64.wrap (AE x0 y0 x1 y1 u0 v0-AE x0 y0 x1 y1 u1 v1))])+AG (AQ [AD [F.int .i64 (AE x0 y0 x1 y1 u0 v0)],AD [F.int .i64 (IntKind.i64.wrap (u1-u0))]])) (AG (AQ [AD [F.int .i64 v0],AH (IntKind.i64.wrap (AE x0 y0 x1 y1 u0 v0-AE x0 y0 x1 y1 u1 v1))])+AG (AQ [AD [F.int .i64 (AE x0 y0 x1 y1 u0 v0)],AD [F.int .i64 (IntKind.i64.wrap (v1-v0))]])) (IntKind.i64.wrap (AE x0 y0 x1 y1 u0 v0-AE x0 y0 x1 y1 u1 v1)))))],F.agg [F.int .u64 0,F.int .u64 0,F.int .u64 0,F.int .u64 0,F.int .u64 0,F.int .u64 0,F.int .u64 0,F.int .u64 0,F.int .u64 0,F.int .u64 0,F.int .u64 0,F.int .u64 0]]))
 none)
 none)
 none)
 none)
 none)
 none)
 none)
 none)
 none)
 none)
 none)
 none)
 none)
 none))
 (ret (F.tup [F.int .i64 0,F.agg [F.int .u64 0,F.int .u64 0,F.int .u64 0,F.int .u64 0,F.int .u64 0,F.int .u64 0,F.int .u64 0,F.int .u64 0,F.int .u64 0,F.int .u64 0,F.int .u64 0,F.int .u64 0],F.agg [F.int .u64 0,F.int .u64 0,F.int .u64 0,F.int .u64 0,F.int .u64 0,F.int .u64 0,F.int .u64 0,F.int .u64 0,F.int .u64 0,F.int .u64 0,F.int .u64 0,F.int .u64 0]]))))
 (AC (decide (IntKind.i64.wrap (HJ (AE x0 y0 x1 y1 u0 v0)*HJ (AE x0 y0 x1 y1 u1 v1)) > 0)==false)
 (AC (decide (IntKind.i64.wrap (HJ (AE u0 v0 u1 v1 x0 y0)*HJ (AE u0 v0 u1 v1 x1 y1)) > 0))
 (ret (F.tup [F.int .i64 0,F.agg [F.int .u64 0,F.int .u64 0,F.int .u64 0,F.int .u64 0,F.int .u64 0,F.int .u64 0,F.int .u64 0,F.int .u64 0,F.int .u64 0,F.int .u64 0,F.int .u64 0,F.int .u64 0],F.agg [F.int .u64 0,F.int .u64 0,F.int .u64 0,F.int .u64 0,F.int .u64 0,F.int .u64 0,F.int .u64 0,F.int .u64 0,F.int .u64 0,F.int .u64 0,F.int .u64 0,F.int .u64 0]]))
 (AC (Al (IntKind.i64.wrap (AE x0 y0 x1 y1 u0 v0-AE x0 y0 x1 y1 u1 v1)))
 (AC (Al u0)
 (AC (BA 400 (AD [F.int .i64 u0])&&BA 400 (AH (IntKind.i64.wrap (AE x0 y0 x1 y1 u0 v0-AE x0 y0 x1 y1 u1 v1))))
 (AC (Al (AE x0 y0 x1 y1 u0 v0))
 (AC (Al (IntKind.i64.wrap (u1-u0)))
 (AC (BA 400 (AD [F.int .i64 (AE x0 y0 x1 y1 u0 v0)])&&BA 400 (AD [F.int .i64 (IntKind.i64.wrap (u1-u0))]))
 (AC (BA 400 (AQ [AD [F.int .i64 u0],AH (IntKind.i64.wrap (AE x0 y0 x1 y1 u0 v0-AE x0 y0 x1 y1 u1 v1))])&&BA 400 (AQ [AD [F.int .i64 (AE x0 y0 x1 y1 u0 v0)],AD [F.int .i64 (IntKind.i64.wrap (u1-u0))]]))
 (AC (Al v0)
 (AC (BA 400 (AD [F.int .i64 v0])&&BA 400 (AH (IntKind.i64.wrap (AE x0 y0 x1 y1 u0 v0-AE x0 y0 x1 y1 u1 v1))))
 (AC (Al (AE x0 y0 x1 y1 u0 v0))
 (AC (Al (IntKind.i64.wrap (v1-v0)))
 (AC (BA 400 (AD [F.int .i64 (AE x0 y0 x1 y1 u0 v0)])&&BA 400 (AD [F.int .i64 (IntKind.i64.wrap (v1-v0))]))
 (AC (BA 400 (AQ [AD [F.int .i64 v0],AH (IntKind.i64.wrap (AE x0 y0 x1 y1 u0 v0-AE x0 y0 x1 y1 u1 v1))])&&BA 400 (AQ [AD [F.int .i64 (AE x0 y0 x1 y1 u0 v0)],AD [F.int .i64 (IntKind.i64.wrap (v1-v0))]]))
 (AC (Ew 1 (A7 (AG (AQ [AD [F.int .i64 u0],AH (IntKind.i64.wrap (AE x0 y0 x1 y1 u0 v0-AE x0 y0 x1 y1 u1 v1))])+AG (AQ [AD [F.int .i64 (AE x0 y0 x1 y1 u0 v0)],AD [F.int .i64 (IntKind.i64.wrap (u1-u0))]])) (AG (AQ [AD [F.int .i64 v0],AH (IntKind.i64.wrap (AE x0 y0 x1 y1 u0 v0-AE x0 y0 x1 y1 u1 v1))])+AG (AQ [AD [F.int .i64 (AE x0 y0 x1 y1 u0 v0)],AD [F.int .i64 (IntKind.i64.wrap (v1-v0))]])) (IntKind.i64.wrap (AE x0 y0 x1 y1 u0 v0-AE x0 y0 x1 y1 u1 v1))))
 (ret (F.tup [F.int .i64 1,F.agg [F.int .u64 (Bo 0 (CF (A7 (AG (AQ [AD [F.int .i64 u0],AH (IntKind.i64.wrap (AE x0 y0 x1 y1 u0 v0-AE x0 y0 x1 y1 u1 v1))])+AG (AQ [AD [F.int .i64 (AE x0 y0 x1 y1 u0 v0)],AD [F.int .i64 (IntKind.i64.wrap (u1-u0))]])) (AG (AQ [AD [F.int .i64 v0],AH (IntKind.i64.wrap (AE x0 y0 x1 y1 u0 v0-AE x0 y0 x1 y1 u1 v1))])+AG (AQ [AD [F.int .i64 (AE x0 y0 x1 y1 u0 v0)],AD [F.int .i64 (IntKind.i64.wrap (v1-v0))]])) (IntKind.i64.wrap (AE x0 y0 x1 y1 u0 v0-AE x0 y0 x1 y1 u1 v1)))) (CE (A7 (AG (AQ [AD [F.int .i64 u0],AH (IntKind.i64.wrap (AE x0 y0 x1 y1 u0 v0-AE x0 y0 x1 y1 u1 v1))])+AG (AQ [AD [F.int .i64 (AE x0 y0 x1 y1 u0 v0)],AD [F.int .i64 (IntKind.i64.wrap (u1-u0))]])) (AG (AQ [AD [F.int .i64 v0],AH (IntKind.i64.wrap (AE x0 y0 x1 y1 u0 v0-AE x0 y0 x1 y1 u1 v1))])+AG (AQ [AD [F.int .i64 (AE x0 y0 x1 y1 u0 v0)],AD [F.int .i64 (IntKind.i64.wrap (v1-v0))]])) (IntKind.i64.wrap (AE x0 y0 x1 y1 u0 v0-AE x0 y0 x1 y1 u1 v1)))) (CG (A7 (AG (AQ [AD [F.int .i64 u0],AH (IntKind.i64.wrap (AE x0 y0 x1 y1 u0 v0-AE x0 y0 x1 y1 u1 v1))])+AG (AQ [AD [F.int .i64 (AE x0 y0 x1 y1 u0 v0)],AD [F.int .i64 (IntKind.i64.wrap (u1-u0))]])) (AG (AQ [AD [F.int .i64 v0],AH (IntKind.i64.wrap (AE x0 y0 x1 y1 u0 v0-AE x0 y0 x1 y1 u1 v1))])+AG (AQ [AD [F.int .i64 (AE x0 y0 x1 y1 u0 v0)],AD [F.int .i64 (IntKind.i64.wrap (v1-v0))]])) (IntKind.i64.wrap (AE x0 y0 x1 y1 u0 v0-AE x0 y0 x1 y1 u1 v1))))),F.int .u64 (Bo 1 (CF (A7 (AG (AQ [AD [F.int .i64 u0],AH (IntKind.i64.wrap (AE x0 y0 x1 y1 u0 v0-AE x0 y0 x1 y1 u1 v1))])+AG (AQ [AD [F.int .i64 (AE x0 y0 x1 y1 u0 v0)],AD [F.int .i64 (IntKind.i64.wrap (u1-u0))]])) (AG (AQ [AD [F.int .i64 v0],AH (IntKind.i64.wrap (AE x0 y0 x1 y1 u0 v0-AE x0 y0 x1 y1 u1 v1))])+AG (AQ [AD [F.int .i64 (AE x0 y0 x1 y1 u0 v0)],AD [F.int .i64 (IntKind.i64.wrap (v1-v0))]])) (IntKind.i64.wrap (AE x0 y0 x1 y1 u0 v0-AE x0 y0 x1 y1 u1 v1)))) (CE (A7 (AG (AQ [AD [F.int .i64 u0],AH (IntKind.i64.wrap (AE x0 y0 x1 y1 u0 v0-AE x0 y0 x1 y1 u1 v1))])+AG (AQ [AD [F.int .i64 (AE x0 y0 x1 y1 u0 v0)],AD [F.int .i64 (IntKind.i64.wrap (u1-u0))]])) (AG (AQ [AD [F.int .i64 v0],AH (IntKind.i64.wrap (AE x0 y0 x1 y1 u0 v0-AE x0 y0 x1 y1 u1 v1))])+AG (AQ [AD [F.int .i64 (AE x0 y0 x1 y1 u0 v0)],AD [F.int .i64 (IntKind.i64.wrap (v1-v0))]])) (IntKind.i64.wrap (AE x0 y0 x1 y1 u0 v0-AE x0 y0 x1 y1 u1 v1)))) (CG (A7 (AG (AQ [AD [F.int .i64 u0],AH (IntKind.i64.wrap (AE x0 y0 x1 y1 u0 v0-AE x0 y0 x1 y1 u1 v1))])+AG (AQ [AD [F.int .i64 (AE x0 y0 x1 y1 u0 v0)],AD [F.int .i64 (IntKind.i64.wrap (u1-u0))]])) (AG (AQ [AD [F.int .i64 v0],AH (IntKind.i64.wrap (AE x0 y0 x1 y1 u0 v0-AE x0 y0 x1 y1 u1 v1))])+AG (AQ [AD [F.int .i64 (AE x0 y0 x1 y1 u0 v0)],AD [F.int .i64 (IntKind.i64.wrap (v1-v0))]])) (IntKind.i64.wrap (AE x0 y0 x1 y1 u0 v0-AE x0 y0 x1 y1 u1 v1))))),F.int .u64 (Bo 2 (CF (A7 (AG (AQ [AD [F.int .i64 u0],AH (IntKind.i64.wrap (AE x0 y0 x1 y1 u0 v0-AE x0 y0 x1 y1 u1 v1))])+AG (AQ [AD [F.int .i64 (AE x0 y0 x1 y1 u0 v0)],AD [F.int .i64 (IntKind.i64.wrap (u1-u0))]])) (AG (AQ [AD [F.int .i64 v0],AH (IntKind.i64.wrap (AE x0 y0 x1 y1 u0 v0-AE x0 y0 x1 y1 u1 v1))])+AG (AQ [AD [F.int .i64 (AE x0 y0 x1 y1 u0 v0)],AD [F.int .i64 (IntKind.i64.wrap (v1-v0))]])) (IntKind.i64.wrap (AE x0 y0 x1 y1 u0 v0-AE x0 y0 x1 y1 u1 v1)))) (CE (A7 (AG (AQ [AD [F.int .i64 u0],AH (IntKind.i64.wrap (AE x0 y0 x1 y1 u0 v0-AE x0 y0 x1 y1 u1 v1))])+AG (AQ [AD [F.int .i64 (AE x0 y0 x1 y1 u0 v0)],AD [F.int .i64 (IntKind.i64.wrap (u1-u0))]])) (AG (AQ [AD [F.int .i64 v0],AH (IntKind.i64.wrap (AE x0 y0 x1 y1 u0 v0-AE x0 y0 x1 y1 u1 v1))])+AG (AQ [AD [F.int .i64 (AE x0 y0 x1 y1 u0 v0)],AD [F.int .i64 (IntKind.i64.wrap (v1-v0))]])) (IntKind.i64.wrap (AE x0 y0 x1 y1 u0 v0-AE x0 y0 x1 y1 u1 v1)))) (CG (A7 (AG (AQ [AD [F.int .i64 u0],AH (IntKind.i64.wrap (AE x0 y0 x1 y1 u0 v0-AE x0 y0 x1 y1 u1 v1))])+AG (AQ [AD [F.int .i64 (AE x0 y0 x1 y1 u0 v0)],AD [F.int .i64 (IntKind.i64.wrap (u1-u0))]])) (AG (AQ [AD [F.int .i64 v0],AH (IntKind.i64.wrap (AE x0 y0 x1 y1 u0 v0-AE x0 y0 x1 y1 u1 v1))])+AG (AQ [AD [F.int .i64 (AE x0 y0 x1 y1 u0 v0)],AD [F.int .i64 (IntKind.i64.wrap (v1-v0))]])) (IntKind.i64.wrap (AE x0 y0 x1 y1 u0 v0-AE x0 y0 x1 y1 u1 v1))))),F.int .u64 (Bo 3 (CF (A7 (AG (AQ [AD [F.int .i64 u0],AH (IntKind.i64.wrap (AE x0 y0 x1 y1 u0 v0-AE x0 y0 x1 y1 u1 v1))])+AG (AQ [AD [F.int .i64 (AE x0 y0 x1 y1 u0 v0)],AD [F.int .i64 (IntKind.i64.wrap (u1-u0))]])) (AG (AQ [AD [F.int .i64 v0],AH (IntKind.i64.wrap (AE x0 y0 x1 y1 u0 v0-AE x0 y0 x1 y1 u1 v1))])+AG (AQ [AD [F.int .i64 (AE x0 y0 x1 y1 u0 v0)],AD [F.int .i64 (IntKind.i64.wrap (v1-v0))]])) (IntKind.i64.wrap (AE x0 y0 x1 y1 u0 v0-AE x0 y0 x1 y1 u1 v1)))) (CE (A7 (AG (AQ [AD [F.int .i64 u0],AH (IntKind.i64.wrap (AE x0 y0 x1 y1 u0 v0-AE x0 y0 x1 y1 u1 v1))])+AG (AQ [AD [F.int .i64 (AE x0 y0 x1 y1 u0 v0)],AD [F.int .i64 (IntKind.i64.wrap (u1-u0))]])) (AG (AQ [AD [F.int .i64 v0],AH (IntKind.i64.wrap (AE x0 y0 x1 y1 u0 v0-AE x0 y0 x1 y1 u1 v1))])+AG (AQ [AD [F.int .i64 (AE x0 y0 x1 y1 u0 v0)],AD [F.int .i64 (IntKind.i64.wrap (v1-v0))]])) (IntKind.i64.wrap (AE x0 y0 x1 y1 u0 v0-AE x0 y0 x1 y1 u1 v1)))) (CG (A7 (AG (AQ [AD [F.int .i64 u0],AH (IntKind.i64.wrap (AE x0 y0 x1 y1 u0 v0-AE x0 y0 x1 y1 u1 v1))])+AG (AQ [AD [F.int .i64 (AE x0 y0 x1 y1 u0 v0)],AD [F.int .i64 (IntKind.i64.wrap (u1-u0))]])) (AG (AQ [AD [F.int .i64 v0],AH (IntKind.i64.wrap (AE x0 y0 x1 y1 u0 v0-AE x0 y0 x1 y1 u1 v1))])+AG (AQ [AD [F.int .i64 (AE x0 y0 x1 y1 u0 v0)],AD [F.int .i64 (IntKind.i64.wrap (v1-v0))]])) (IntKind.i64.wrap (AE x0 y0 x1 y1 u0 v0-AE x0 y0 x1 y1 u1 v1))))),F.int .u64 (Bo 4 (CF (A7 (AG (AQ [AD [F.int .i64 u0],AH (IntKind.i64.wrap (AE x0 y0 x1 y1 u0 v0-AE x0 y0 x1 y1 u1 v1))])+AG (AQ [AD [F.int .i64 (AE x0 y0 x1 y1 u0 v0)],AD [F.int .i64 (IntKind.i64.wrap (u1-u0))]])) (AG (AQ [AD [F.int .i64 v0],AH (IntKind.i64.wrap (AE x0 y0 x1 y1 u0 v0-AE x0 y0 x1 y1 u1 v1))])+AG (AQ [AD [F.int .i64 (AE x0 y0 x1 y1 u0 v0)],AD [F.int .i64 (IntKind.i64.wrap (v1-v0))]])) (IntKind.i64.wrap (AE x0 y0 x1 y1 u0 v0-AE x0 y0 x1 y1 u1 v1)))) (CE (A7 (AG (AQ [AD [F.int .i64 u0],AH (IntKind.i64.wrap (AE x0 y0 x1 y1 u0 v0-AE x0 y0 x1 y1 u1 v1))])+AG (AQ [AD [F.int .i64 (AE x0 y0 x1 y1 u0 v0)],AD [F.int .i64 (IntKind.i64.wrap (u1-u0))]])) (AG (AQ [AD [F.int .i64 v0],AH (IntKind.i64.wrap (AE x0 y0 x1 y1 u0 v0-AE x0 y0 x1 y1 u1 v1))])+AG (AQ [AD [F.int .i64 (AE x0 y0 x1 y1 u0 v0)],AD [F.int .i64 (IntKind.i64.wrap (v1-v0))]])) (IntKind.i64.wrap (AE x0 y0 x1 y1 u0 v0-AE x0 y0 x1 y1 u1 v1)))) (CG (A7 (AG (AQ [AD [F.int .i64 u0],AH (IntKind.i64.wrap (AE x0 y0 x1 y1 u0 v0-AE x0 y0 x1 y1 u1 v1))])+AG (AQ [AD [F.int .i64 (AE x0 y0 x1 y1 u0 v0)],AD [F.int .i64 (IntKind.i64.wrap (u1-u0))]])) (AG (AQ [AD [F.int .i64 v0],AH (IntKind.i64.wrap (AE x0 y0 x1 y1 u0 v0-AE x0 y0 x1 y1 u1 v1))])+AG (AQ [AD [F.int .i64 (AE x0 y0 x1 y1 u0 v0)],AD [F.int .i64 (IntKind.i64.wrap (v1-v0))]])) (IntKind.i64.wrap (AE x0 y0 x1 y1 u0 v0-AE x0 y0 x1 y1 u1 v1))))),F.int .u64 (Bo 5 (CF (A7 (AG (AQ [AD [F.int .i64 u0],AH (IntKind.i64.wrap (AE x0 y0 x1 y1 u0 v0-AE x0 y0 x1 y1 u1 v1))])+AG (AQ [AD [F.int .i64 (AE x0 y0 x1 y1 u0 v0)],AD [F.int .i64 (IntKind.i64.wrap (u1-u0))]])) (AG (AQ [AD [F.int .i64 v0],AH (IntKind.i64.wrap (AE x0 y0 x1 y1 u0 v0-AE x0 y0 x1 y1 u1 v1))])+AG (AQ [AD [F.int .i64 (AE x0 y0 x1 y1 u0 v0)],AD [F.int .i64 (IntKind.i64.wrap (v1-v0))]])) (IntKind.i64.wrap (AE x0 y0 x1 y1 u0 v0-AE x0 y0 x1 y1 u1 v1)))) (CE (A7 (AG (AQ [AD [F.int .i64 u0],AH (IntKind.i64.wrap (AE x0 y0 x1 y1 u0 v0-AE x0 y0 x1 y1 u1 v1))])+AG (AQ [AD [F.int .i64 (AE x0 y0 x1 y1 u0 v0)],AD [F.int .i64 (IntKind.i64.wrap (u1-u0))]])) (AG (AQ [AD [F.int .i64 v0],AH (IntKind.i64.wrap (AE x0 y0 x1 y1 u0 v0-AE x0 y0 x1 y1 u1 v1))])+AG (AQ [AD [F.int .i64 (AE x0 y0 x1 y1 u0 v0)],AD [F.int .i64 (IntKind.i64.wrap (v1-v0))]])) (IntKind.i64.wrap (AE x0 y0 x1 y1 u0 v0-AE x0 y0 x1 y1 u1 v1)))) (CG (A7 (AG (AQ [AD [F.int .i64 u0],AH (IntKind.i64.wrap (AE x0 y0 x1 y1 u0 v0-AE x0 y0 x1 y1 u1 v1))])+AG (AQ [AD [F.int .i64 (AE x0 y0 x1 y1 u0 v0)],AD [F.int .i64 (IntKind.i64.wrap (u1-u0))]])) (AG (AQ [AD [F.int .i64 v0],AH (IntKind.i64.wrap (AE x0 y0 x1 y1 u0 v0-AE x0 y0 x1 y1 u1 v1))])+AG (AQ [AD [F.int .i64 (AE x0 y0 x1 y1 u0 v0)],AD [F.int .i64 (IntKind.i64.wrap (v1-v0))]])) (IntKind.i64.wrap (AE x0 y0 x1 y1 u0 v0-AE x0 y0 x1 y1 u1 v1))))),F.int .u64 (Bo 6 (CF (A7 (AG (AQ [AD [F.int .i64 u0],AH (IntKind.i64.wrap (AE x0 y0 x1 y1 u0 v0-AE x0 y0 x1 y1 u1 v1))])+AG (AQ [AD [F.int .i64 (AE x0 y0 x1 y1 u0 v0)],AD [F.int .i64 (IntKind.i64.wrap (u1-u0))]])) (AG (AQ [AD [F.int .i64 v0],AH (IntKind.i64.wrap (AE x0 y0 x1 y1 u0 v0-AE x0 y0 x1 y1 u1 v1))])+AG (AQ [AD [F.int .i64 (AE x0 y0 x1 y1 u0 v0)],AD [F.int .i64 (IntKind.i64.wrap (v1-v0))]])) (IntKind.i64.wrap (AE x0 y0 x1 y1 u0 v0-AE x0 y0 x1 y1 u1 v1)))) (CE (A7 (AG (AQ [AD [F.int .i64 u0],AH (IntKind.i64.wrap (AE x0 y0 x1 y1 u0 v0-AE x0 y0 x1 y1 u1 v1))])+AG (AQ [AD [F.int .i64 (AE x0 y0 x1 y1 u0 v0)],AD [F.int .i64 (IntKind.i64.wrap (u1-u0))]])) (AG (AQ [AD [F.int .i64 v0],AH (IntKind.i64.wrap (AE x0 y0 x1 y1 u0 v0-AE x0 y0 x1 y1 u1 v1))])+AG (AQ [AD [F.int .i64 (AE x0 y0 x1 y1 u0 v0)],AD [F.int .i64 (IntKind.i64.wrap (v1-v0))]])) (IntKind.i64.wrap (AE x0 y0 x1 y1 u0 v0-AE x0 y0 x1 y1 u1 v1)))) (CG (A7 (AG (AQ [AD [F.int .i64 u0],AH (IntKind.i64.wrap (AE x0 y0 x1 y1 u0 v0-AE x0 y0 x1 y1 u1 v1))])+AG (AQ [AD [F.int .i64 (AE x0 y0 x1 y1 u0 v0)],AD [F.int .i64 (IntKind.i64.wrap (u1-u0))]])) (AG (AQ [AD [F.int .i64 v0],AH (IntKind.i64.wrap (AE x0 y0 x1 y1 u0 v0-AE x0 y0 x1 y1 u1 v1))])+AG (AQ [AD [F.int .i64 (AE x0 y0 x1 y1 u0 v0)],AD [F.int .i64 (IntKind.i64.wrap (v1-v0))]])) (IntKind.i64.wrap (AE x0 y0 x1 y1 u0 v0-AE x0 y0 x1 y1 u1 v1))))),F.int .u64 (Bo 7 (CF (A7 (AG (AQ [AD [F.int .i64 u0],AH (IntKind.i64.wrap (AE x0 y0 x1 y1 u0 v0-AE x0 y0 x1 y1 u1 v1))])+AG (AQ [AD [F.int .i64 (AE x0 y0 x1 y1 u0 v0)],AD [F.int .i64 (IntKind.i64.wrap (u1-u0))]])) (AG (AQ [AD [F.int .i64 v0],AH (IntKind.i64.wrap (AE x0 y0 x1 y1 u0 v0-AE x0 y0 x1 y1 u1 v1))])+AG (AQ [AD [F.int .i64 (AE x0 y0 x1 y1 u0 v0)],AD [F.int .i64 (IntKind.i64.wrap (v1-v0))]])) (IntKind.i64.wrap (AE x0 y0 x1 y1 u0 v0-AE x0 y0 x1 y1 u1 v1)))) (CE (A7 (AG (AQ [AD [F.int .i64 u0],AH (IntKind.i64.wrap (AE x0 y0 x1 y1 u0 v0-AE x0 y0 x1 y1 u1 v1))])+AG (AQ [AD [F.int .i64 (AE x0 y0 x1 y1 u0 v0)],AD [F.int .i64 (IntKind.i64.wrap (u1-u0))]])) (AG (AQ [AD [F.int .i64 v0],AH (IntKind.i64.wrap (AE x0 y0 x1 y1 u0 v0-AE x0 y0 x1 y1 u1 v1))])+AG (AQ [AD [F.int .i64 (AE x0 y0 x1 y1 u0 v0)],AD [F.int .i64 (IntKind.i64.wrap (v1-v0))]])) (IntKind.i64.wrap (AE x0 y0 x1 y1 u0 v0-AE x0 y0 x1 y1 u1 v1)))) (CG (A7 (AG (AQ [AD [F.int .i64 u0],AH (IntKind.i64.wrap (AE x0 y0 x1 y1 u0 v0-AE x0 y0 x1 y1 u1 v1))])+AG (AQ [AD [F.int .i64 (AE x0 y0 x1 y1 u0 v0)],AD [F.int .i64 (IntKind.i64.wrap (u1-u0))]])) (AG (AQ [AD [F.int .i64 v0],AH (IntKind.i64.wrap (AE x0 y0 x1 y1 u0 v0-AE x0 y0 x1 y1 u1 v1))])+AG (AQ [AD [F.int .i64 (AE x0 y0 x1 y1 u0 v0)],AD [F.int .i64 (IntKind.i64.wrap (v1-v0))]])) (IntKind.i64.wrap (AE x0 y0 x1 y1 u0 v0-AE x0 y0 x1 y1 u1 v1))))),F.int .u64 (Bo 8 (CF (A7 (AG (AQ [AD [F.int .i64 u0],AH (IntKind.i64.wrap (AE x0 y0 x1 y1 u0 v0-AE x0 y0 x1 y1 u1 v1))])+AG (AQ [AD [F.int .i64 (AE x0 y0 x1 y1 u0 v0)],AD [F.int .i64 (IntKind.i64.wrap (u1-u0))]])) (AG (AQ [AD [F.int .i64 v0],AH (IntKind.i64.wrap (AE x0 y0 x1 y1 u0 v0-AE x0 y0 x1 y1 u1 v1))])+AG (AQ [AD [F.int .i64 (AE x0 y0 x1 y1 u0 v0)],AD [F.int .i64 (IntKind.i64.wrap (v1-v0))]])) (IntKind.i64.wrap (AE x0 y0 x1 y1 u0 v0-AE x0 y0 x1 y1 u1 v1)))) (CE (A7 (AG (AQ [AD [F.int .i64 u0],AH (IntKind.i64.wrap (AE x0 y0 x1 y1 u0 v0-AE x0 y0 x1 y1 u1 v1))])+AG (AQ [AD [F.int .i64 (AE x0 y0 x1 y1 u0 v0)],AD [F.int .i64 (IntKind.i64.wrap (u1-u0))]])) (AG (AQ [AD [F.int .i64 v0],AH (IntKind.i64.wrap (AE x0 y0 x1 y1 u0 v0-AE x0 y0 x1 y1 u1 v1))])+AG (AQ [AD [F.int .i64 (AE x0 y0 x1 y1 u0 v0)],AD [F.int .i64 (IntKind.i64.wrap (v1-v0))]])) (IntKind.i64.wrap (AE x0 y0 x1 y1 u0 v0-AE x0 y0 x1 y1 u1 v1)))) (CG (A7 (AG (AQ [AD [F.int .i64 u0],AH (IntKind.i64.wrap (AE x0 y0 x1 y1 u0 v0-AE x0 y0 x1 y1 u1 v1))])+AG (AQ [AD [F.int .i64 (AE x0 y0 x1 y1 u0 v0)],AD [F.int .i64 (IntKind.i64.wrap (u1-u0))]])) (AG (AQ [AD [F.int .i64 v0],AH (IntKind.i64.wrap (AE x0 y0 x1 y1 u0 v0-AE x0 y0 x1 y1 u1 v1))])+AG (AQ [AD [F.int .i64 (AE x0 y0 x1 y1 u0 v0)],AD [F.int .i64 (IntKind.i64.wrap (v1-v0))]])) (IntKind.i64.wrap (AE x0 y0 x1 y1 u0 v0-AE x0 y0 x1 y1 u1 v1))))),F.int .u64 (Bo 9 (CF (A7 (AG (AQ [AD [F.int .i64 u0],AH (IntKind.i64.wrap (AE x0 y0 x1 y1 u0 v0-AE x0 y0 x1 y1 u1 v1))])+AG (AQ [AD [F.int .i64 (AE x0 y0 x1 y1 u0 v0)],AD [F.int .i64 (IntKind.i64.wrap (u1-u0))]])) (AG (AQ [AD [F.int .i64 v0],AH (IntKind.i64.wrap (AE x0 y0 x1 y1 u0 v0-AE x0 y0 x1 y1 u1 v1))])+AG (AQ [AD [F.int .i64 (AE x0 y0 x1 y1 u0 v0)],AD [F.int .i64 (IntKind.i64.wrap (v1-v0))]])) (IntKind.i64.wrap (AE x0 y0 x1 y1 u0 v0-AE x0 y0 x1 y1 u1 v1)))) (CE (A7 (AG (AQ [AD [F.int .i64 u0],AH (IntKind.i64.wrap (AE x0 y0 x1 y1 u0 v0-AE x0 y0 x1 y1 u1 v1))])+AG (AQ [AD [F.int .i64 (AE x0 y0 x1 y1 u0 v0)],AD [F.int .i64 (IntKind.i64.wrap (u1-u0))]])) (AG (AQ [AD [F.int .i64 v0],AH (IntKind.i64.wrap (AE x0 y0 x1 y1 u0 v0-AE x0 y0 x1 y1 u1 v1))])+AG (AQ [AD [F.int .i64 (AE x0 y0 x1 y1 u0 v0)],AD [F.int .i64 (IntKind.i64.wrap (v1-v0))]])) (IntKind.i64.wrap (AE x0 y0 x1 y1 u0 v0-AE x0 y0 x1 y1 u1 v1)))) (CG (A7 (AG (AQ [AD [F.int .i64 u0],AH (IntKind.i64.wrap (AE x0 y0 x1 y1 u0 v0-AE x0 y0 x1 y1 u1 v1))])+AG (AQ [AD [F.int .i64 (AE x0 y0 x1 y1 u0 v0)],AD [F.int .i64 (IntKind.i64.wrap (u1-u0))]])) (AG (AQ [AD [F.int .i64 v0],AH (IntKind.i64.wrap (AE x0 y0 x1 y1 u0 v0-AE x0 y0 x1 y1 u1 v1))])+AG (AQ [AD [F.int .i64 (AE x0 y0 x1 y1 u0 v0)],AD [F.int .i64 (IntKind.i64.wrap (v1-v0))]])) (IntKind.i64.wrap (AE x0 y0 x1 y1 u0 v0-AE x0 y0 x1 y1 u1 v1))))),F.int .u64 (Bo 10 (CF (A7 (AG (AQ [AD [F.int .i64 u0],AH (IntKind.i64.wrap (AE x0 y0 x1 y1 u0 v0-AE x0 y0 x1 y1 u1 v1))])+AG (AQ [AD [F.int .i64 (AE x0 y0 x1 y1 u0 v0)],AD [F.int .i64 (IntKind.i64.wrap (u1-u0))]])) (AG (AQ [AD [F.int .i64 v0],AH (IntKind.i64.wrap (AE x0 y0 x1 y1 u0 v0-AE x0 y0 x1 y1 u1 v1))])+AG (AQ [AD [F.int .i64 (AE x0 y0 x1 y1 u0 v0)],AD [F.int .i64 (IntKind.i64.wrap (v1-v0))]])) (IntKind.i64.wrap (AE x0 y0 x1 y1 u0 v0-AE x0 y0 x1 y1 u1 v1)))) (CE (A7 (AG (AQ [AD [F.int .i64 u0],AH (IntKind.i64.wrap (AE x0 y0 x1 y1 u0 v0-AE x0 y0 x1 y1 u1 v1))])+AG (AQ [AD [F.int .i64 (AE x0 y0 x1 y1 u0 v0)],AD [F.int .i64 (IntKind.i64.wrap (u1-u0))]])) (AG (AQ [AD [F.int .i64 v0],AH (IntKind.i64.wrap (AE x0 y0 x1 y1 u0 v0-AE x0 y0 x1 y1 u1 v1))])+AG (AQ [AD [F.int .i64 (AE x0 y0 x1 y1 u0 v0)],AD [F.int .i64 (IntKind.i64.wrap (v1-v0))]])) (IntKind.i64.wrap (AE x0 y0 x1 y1 u0 v0-AE x0 y0 x1 y1 u1 v1)))) (CG (A7 (AG (AQ [AD [F.int .i64 u0],AH (IntKind.i64.wrap (AE x0 y0 x1 y1 u0 v0-AE x0 y0 x1 y1 u1 v1))])+AG (AQ [AD [F.int .i64 (AE x0 y0 x1 y1 u0 v0)],AD [F.int .i64 (IntKind.i64.wrap (u1-u0))]])) (AG (AQ [AD [F.int .i64 v0],AH (IntKind.i64.wrap (AE x0 y0 x1 y1 u0 v0-AE x0 y0 x1 y1 u1 v1))])+AG (AQ [AD [F.int .i64 (AE x0 y0 x1 y1 u0 v0)],AD [F.int .i64 (IntKind.i64.wrap (v1-v0))]])) (IntKind.i64.wrap (AE x0 y0 x1 y1 u0 v0-AE x0 y0 x1 y1 u1 v1))))),F.int .u64 (Bo 11 (CF (A7 (AG (AQ [AD [F.int .i64 u0],AH (IntKind.i64.wrap (AE x0 y0 x1 y1 u0 v0-AE x0 y0 x1 y1 u1 v1))])+AG (AQ [AD [F.int .i64 (AE x0 y0 x1 y1 u0 v0)],AD [F.int .i64 (IntKind.i64.wrap (u1-u0))]])) (AG (AQ [AD [F.int .i64 v0],AH (IntKind.i64.wrap (AE x0 y0 x1 y1 u0 v0-AE x0 y0 x1 y1 u1 v1))])+AG (AQ [AD [F.int .i64 (AE x0 y0 x1 y1 u0 v0)],AD [F.int .i64 (IntKind.i64.wrap (v1-v0))]])) (IntKind.i64.wrap (AE x0 y0 x1 y1 u0 v0-AE x0 y0 x1 y1 u1 v1)))) (CE (A7 (AG (AQ [AD [F.int .i64 u0],AH (IntKind.i64.wrap (AE x0 y0 x1 y1 u0 v0-AE x0 y0 x1 y1 u1 v1))])+AG (AQ [AD [F.int .i64 (AE x0 y0 x1 y1 u0 v0)],AD [F.int .i64 (IntKind.i64.wrap (u1-u0))]])) (AG (AQ [AD [F.int .i64 v0],AH (IntKind.i64.wrap (AE x0 y0 x1 y1 u0 v0-AE x0 y0 x1 y1 u1 v1))])+AG (AQ [AD [F.int .i64 (AE x0 y0 x1 y1 u0 v0)],AD [F.int .i64 (IntKind.i64.wrap (v1-v0))]])) (IntKind.i64.wrap (AE x0 y0 x1 y1 u0 v0-AE x0 y0 x1 y1 u1 v1)))) (CG (A7 (AG (AQ [AD [F.int .i64 u0],AH (IntKind.i64.wrap (AE x0 y0 x1 y1 u0 v0-AE x0 y0 x1 y1 u1 v1))])+AG (AQ [AD [F.int .i64 (AE x0 y0 x1 y1 u0 v0)],AD [F.int .i64 (IntKind.i64.wrap (u1-u0))]])) (AG (AQ [AD [F.int .i64 v0],AH (IntKind.i64.wrap (AE x0 y0 x1 y1 u0 v0-AE x0 y0 x1 y1 u1 v1))])+AG (AQ [AD [F.int .i64 (AE x0 y0 x1 y1 u0 v0)],AD [F.int .i64 (IntKind.i64.wrap (v1-v0))]])) (IntKind.i64.wrap (AE x0 y0 x1 y1 u0 v0-AE x0 y0 x1 y1 u1 v1)))))],F.agg [F.int .u64 0,F.int .u64 0,F.int .u64 0,F.int .u64 0,F.int .u64 0,F.int .u64 0,F.int .u64 0,F.int .u64 0,F.int .u64 0,F.int .u64 0,F.int .u64 0,F.int .u64 0]]))
 none)
 none)
 none)
 none)
 none)
 none)
 none)
 none)
 none)
 none)
 none)
 none)
 none)
 none))
 (ret (F.tup [F.int .i64 0,F.agg [F.int .u64 0,F.int .u64 0,F.int .u64 0,F.int .u64 0,F.int .u64 0,F.int .u64 0,F.int .u64 0,F.int .u64 0,F.int .u64 0,F.int .u64 0,F.int .u64 0,F.int .u64 0],F.agg [F.int .u64 0,F.int .u64 0,F.int .u64 0,F.int .u64 0,F.int .u64 0,F.int .u64 0,F.int .u64 0,F.int .u64 0,F.int .u64 0,F.int .u64 0,F.int .u64 0,F.int .u64 0]])))))
 (ret (F.tup [F.int .i64 0,F.agg [F.int .u64 0,F.int .u64 0,F.int .u64 0,F.int .u64 0,F.int .u64 0,F.int .u64 0,F.int .u64 0,F.int .u64 0,F.int .u64 0,F.int .u64 0,F.int .u64 0,F.int .u64 0],F.agg [F.int .u64 0,F.int .u64 0,F.int .u64 0,F.int .u64 0,F.int .u64 0,F.int .u64 0,F.int .u64 0,F.int .u64 0,F.int .u64 0,F.int .u64 0,F.int .u64 0,F.int .u64 0]])))
def G22 (x0:Int) (y0:Int) (x1:Int) (y1:Int) (u0:Int) (v0:Int) (u1:Int) (v1:Int):Option (F):=T22 some x0 y0 x1 y1 u0 v0 u1 v1
theorem t22 (x0:Int) (y0:Int) (x1:Int) (y1:Int) (u0:Int) (v0:Int) (u1:Int) (v1:Int) (r:F) (h:G22 x0 y0 x1 y1 u0 v0 u1 v1=some r):AY Tryz.prog Tryz.f22.results.toList [.code (AR Tryz.f22)] (start Tryz.f22.ntmps ([F.agg [F.int .i64 x0,F.int .i64 y0,F.int .i64 x1,F.int .i64 y1],F.agg [F.int .i64 u0,F.int .i64 v0,F.int .i64 u1,F.int .i64 v1]].map .f)) (r):=by
 refine AY.of_run Ap Mv (T:=[]) (n:=200) ?_
 refine gE (Y:=T22 (fun r=>some (.ret (r))) x0 y0 x1 y1 u0 v0 u1 v1) (by kernel_rfl) ?_
 exact (gS h (fun _ h=>(gS h (fun _ h=>gR (by cases h;rfl)) (fun _ h=>(gS h (fun _ h=>(gS h (fun _ h=>(gS h (fun _ h=>(gS h (fun _ h=>(gS h (fun _ h=>gR (by cases h;rfl)) (fun _ h=>(gS h (fun _ h=>(gS h (fun _ h=>gR (by cases h;rfl)) gN)) (fun _ h=>(gS h (fun _ h=>(gS h (fun _ h=>gR (by cases h;rfl)) gN)) gN)))))) (fun _ h=>(gS h (fun _ h=>gR (by cases h;rfl)) (fun _ h=>(gS h (fun _ h=>(gS h (fun _ h=>gR (by cases h;rfl)) gN)) (fun _ h=>(gS h (fun _ h=>(gS h (fun _ h=>gR (by cases h;rfl)) gN)) gN)))))))) (fun _ h=>(gS h (fun _ h=>(gS h (fun _ h=>gR (by cases h;rfl)) (fun _ h=>(gS h (fun _ h=>(gS h (fun _ h=>gR (by cases h;rfl)) gN)) (fun _ h=>(gS h (fun _ h=>(gS h (fun _ h=>gR (by cases h;rfl)) gN)) gN)))))) (fun _ h=>(gS h (fun _ h=>gR (by cases h;rfl)) (fun _ h=>(gS h (fun _ h=>(gS h (fun _ h=>gR (by cases h;rfl)) gN)) (fun _ h=>(gS h (fun _ h=>(gS h (fun _ h=>gR (by cases h;rfl)) gN)) gN)))))))))) (fun _ h=>(gS h (fun _ h=>(gS h (fun _ h=>gR (by cases h;rfl)) (fun _ h=>(gS h (fun _ h=>(gS h (fun _ h=>(gS h (fun _ h=>(gS h (fun _ h=>(gS h (fun _ h=>(gS h (fun _ h=>(gS h (fun _ h=>(gS h (fun _ h=>(gS h (fun _ h=>(gS h (fun _ h=>(gS h (fun _ h=>(gS h (fun _ h=>(gS h (fun _ h=>(gS h (fun _ h=>gR (by cases h;rfl)) gN)) gN)) gN)) gN)) gN)) gN)) gN)) gN)) gN)) gN)) gN)) gN)) gN)) gN)))) (fun _ h=>gR (by cases h;rfl)))))) (fun _ h=>(gS h (fun _ h=>(gS h (fun _ h=>gR (by cases h;rfl)) (fun _ h=>(gS h (fun _ h=>(gS h (fun _ h=>(gS h (fun _ h=>(gS h (fun _ h=>(gS h (fun _ h=>(gS h (fun _ h=>(gS h (fun _ h=>(gS h (fun _ h=>(gS h (fun _ h=>(gS h (fun _ h=>(gS h (fun _ h=>(gS h (fun _ h=>(gS h (fun _ h=>(gS h (fun _ h=>gR (by cases h;rfl)) gN)) gN)) gN)) gN)) gN)) gN)) gN)) gN)) gN)) gN)) gN)) gN)) gN)) gN)))) (fun _ h=>gR (by cases h;rfl)))))))) (fun _ h=>gR (by cases h;rfl)))
def OR (X:Option F) (M S:Prop):Prop:=∃ (k a0 a1 a2 a3 a4 a5 a6 a7 a8 a9 a10 a11 b0 b1 b2 b3 b4 b5 b6 b7 b8 b9 b10 b11:Int),X=some (F.tup [.int .i64 k,.agg [.int .u64 a0,.int .u64 a1,.int .u64 a2,.int .u64 a3,.int .u64 a4,.int .u64 a5,.int .u64 a6,.int .u64 a7,.int .u64 a8,.int .u64 a9,.int .u64 a10,.int .u64 a11],.agg [.int .u64 b0,.int .u64 b1,.int .u64 b2,.int .u64 b3,.int .u64 b4,.int .u64 b5,.int .u64 b6,.int .u64 b7,.int .u64 b8,.int .u64 b9,.int .u64 b10,.int .u64 b11]])∧EW k M S
theorem Gb {k a0 a1 a2 a3 a4 a5 a6 a7 a8 a9 a10 a11 b0 b1 b2 b3 b4 b5 b6 b7 b8 b9 b10 b11:Int} {M S:Prop} (h:EW k M S):OR (some (F.tup [.int .i64 k,.agg [.int .u64 a0,.int .u64 a1,.int .u64 a2,.int .u64 a3,.int .u64 a4,.int .u64 a5,.int .u64 a6,.int .u64 a7,.int .u64 a8,.int .u64 a9,.int .u64 a10,.int .u64 a11],.agg [.int .u64 b0,.int .u64 b1,.int .u64 b2,.int .u64 b3,.int .u64 b4,.int .u64 b5,.int .u64 b6,.int .u64 b7,.int .u64 b8,.int .u64 b9,.int .u64 b10,.int .u64 b11]])) M S:=⟨_,_,_,_,_,_,_,_,_,_,_,_,_,_,_,_,_,_,_,_,_,_,_,_,_,rfl,h⟩
theorem gL {c:Bool} {X Y:Option F} {M S:Prop} (h1:c=true→OR X M S) (h2:c=false→OR Y M S):OR (AC c X Y) M S:=by
 cases c
 ·exact h2 rfl
 ·exact h1 rfl
theorem Vg {x0 y0 x1 y1 u0 v0 u1 v1:Int} (h:Dj x0 y0 x1 y1 u0 v0 u1 v1):CZ x0 y0 x1 y1 u0 v0 u1 v1:=by
 obtain ⟨h1,h2,h3,h4⟩:=h
 refine .inl ⟨h1,h2,?_⟩
 unfold BT at h3 h4
 unfold Ct
 omega
theorem TZ {x0 y0 x1 y1 u0 v0 u1 v1:Int} (h:¬ CZ x0 y0 x1 y1 u0 v0 u1 v1):EW 0 (CZ x0 y0 x1 y1 u0 v0 u1 v1) (Dj x0 y0 x1 y1 u0 v0 u1 v1):=⟨.inl rfl,by simp [h],⟨fun e=>by omega,fun g=>absurd (Vg g) h⟩⟩
theorem LJ (a b:Int):(if b > a then b else a)=max a b:=by
 rw [Int.max_def]
 split <;> split <;> omega
theorem LK (a b:Int):(if b<a then b else a)=min a b:=by
 rw [Int.min_def]
 split <;> split <;> omega
theorem Xv (x0 y0 x1 y1:Int):decide (EH x0 y0 x1 y1<0)=(B1 x0 y0 x1 y1):=by
 unfold EH
 cases h1:(x0==x1&&y0==y1) with
 | true =>
  simp only [Bool.and_eq_true,beq_iff_eq] at h1
  cases h2:B1 x0 y0 x1 y1 with
  | false=>rfl
  | true =>
   have:=Cz.1 h2
   unfold BT at this
   omega
 | false=>cases B1 x0 y0 x1 y1 <;> rfl
theorem SX (x0 y0 x1 y1:Int):(EH x0 y0 x1 y1==0)=(x0==x1&&y0==y1):=by
 unfold EH
 cases (x0==x1&&y0==y1) <;> cases B1 x0 y0 x1 y1 <;> rfl
theorem mT {x0 y0 x1 y1 u0 v0 u1 v1:Int} (h0:At x0 y0) (h1:At x1 y1) (k0:At u0 v0) (k1:At u1 v1) (hs:BT x0 y0 x1 y1) (ht:BT u0 v0 u1 v1) (ha:Ab x0 y0 x1 y1 u0 v0=0) (hb:Ab x0 y0 x1 y1 u1 v1=0)
  (hA:¬ (max x0 u0 > min x1 u1)) (hB:¬ (max (min y0 y1) (min v0 v1) > min (max y0 y1) (max v0 v1))):OR (G22 x0 y0 x1 y1 u0 v0 u1 v1) (CZ x0 y0 x1 y1 u0 v0 u1 v1) (Dj x0 y0 x1 y1 u0 v0 u1 v1):=by
 have i:∀ {x y:Int},At x y→Al x=true∧Al y=true:=fun h=>by
  unfold At at h
  exact ⟨BG.2 (by omega),BG.2 (by omega)⟩
 have hm:CZ x0 y0 x1 y1 u0 v0 u1 v1 ↔ (Ct u0 v0 x1 y1∧Ct x0 y0 u1 v1):=by
  unfold CZ
  rw [ha,hb]
  constructor
  ·rintro (⟨_,_,h⟩ | ⟨h,_⟩)
   ·exact h
   ·exact absurd ⟨rfl,rfl⟩ h
  ·exact fun h=>.inl ⟨rfl,rfl,h⟩
 have hsp:Dj x0 y0 x1 y1 u0 v0 u1 v1 ↔ (BT u0 v0 x1 y1∧BT x0 y0 u1 v1):=by
  unfold Dj
  rw [ha,hb]
  exact ⟨fun h=>h.2.2,fun h=>⟨rfl,rfl,h⟩⟩
 unfold G22 T22
 rw [(Bn h0 h1 k0).1,(Bn h0 h1 k1).1,ha,hb]
 simp only [if_true,Bool.false_eq_true,if_false,LJ,LK,decide_eq_false hA,decide_eq_false hB,beq_self_eq_true,AF,AJ,Qc,Xv,SX,i h0,i h1,i k0,i k1,Bool.and_self]
 clear hA hB
 unfold BT at hs ht
 repeat' first
  | (refine Gb ?_;refine K0 fun j hj=>?_;rw [hm,hsp];clear hm hsp ha hb i h0 h1 k0 k1;simp only [Cz,Er,Bool.and_true,Bool.and_eq_true,Bool.and_eq_false_iff,beq_iff_eq,beq_eq_false_iff_ne,ne_eq] at *;unfold Ct at *;unfold BT at *;omega)
  | (refine gL (fun _=>?_) (fun _=>?_))
theorem mS {x0 y0 x1 y1 u0 v0 u1 v1:Int} (h0:At x0 y0) (h1:At x1 y1) (k0:At u0 v0) (k1:At u1 v1) (hn:¬ (Ab x0 y0 x1 y1 u0 v0=0∧Ab x0 y0 x1 y1 u1 v1=0))
  (ho:¬ (apart (Ab x0 y0 x1 y1 u0 v0) (Ab x0 y0 x1 y1 u1 v1)∧apart (Ab u0 v0 u1 v1 x0 y0) (Ab u0 v0 u1 v1 x1 y1)))
  (hA:¬ (max x0 u0 > min x1 u1)) (hB:¬ (max (min y0 y1) (min v0 v1) > min (max y0 y1) (max v0 v1))):OR (G22 x0 y0 x1 y1 u0 v0 u1 v1) (CZ x0 y0 x1 y1 u0 v0 u1 v1) (Dj x0 y0 x1 y1 u0 v0 u1 v1):=by
 have hm:¬ CZ x0 y0 x1 y1 u0 v0 u1 v1:=by
  unfold CZ
  rintro (⟨a,b,_⟩ | ⟨_,h⟩)
  ·exact hn ⟨a,b⟩
  ·exact ho h
 have z:=TZ hm
 have tt:(true==true)=true:=rfl
 have ft:(false==true)=false:=rfl
 have tf:(true==false)=false:=rfl
 have ff:(false==false)=true:=rfl
 unfold G22 T22
 rw [(Bn h0 h1 k0).1,(Bn h0 h1 k1).1,(Bn k0 k1 h0).1,(Bn k0 k1 h1).1]
 simp only [if_true,Bool.false_eq_true,if_false,LJ,LK,decide_eq_false hA,decide_eq_false hB,ff,AF,AJ,HI]
 clear hA hB
 generalize Ab x0 y0 x1 y1 u0 v0=A at *
 generalize Ab x0 y0 x1 y1 u1 v1=B at *
 generalize Ab u0 v0 u1 v1 x0 y0=C at *
 generalize Ab u0 v0 u1 v1 x1 y1=D at *
 by_cases ap:apart A B
 ·have cd:¬ apart C D:=fun h=>ho ⟨ap,h⟩
  rw [D6 ap,In cd]
  by_cases hA:A=0
  ·have hB:¬ B=0:=fun h=>hn ⟨hA,h⟩
   rw [show (A==0)=true from beq_iff_eq.2 hA,show (B==0)=false from beq_eq_false_iff_ne.2 hB]
   simp only [tt,ff,AF,AJ]
   exact Gb z
  ·rw [show (A==0)=false from beq_eq_false_iff_ne.2 hA]
   simp only [ft,ff,AF,AJ]
   exact Gb z
 ·rw [In ap]
  by_cases hA:A=0
  ·exact absurd (show apart A B by unfold apart;omega) ap
  ·rw [show (A==0)=false from beq_eq_false_iff_ne.2 hA]
   simp only [ft,tf,AF,AJ]
   exact Gb z
theorem Wq {a b:Int} (ha:-1000000≤a∧a≤1000000) (hb:-8000000000000≤b∧b≤8000000000000):-8000000000000000000≤a*b∧a*b≤8000000000000000000:=by
 have h:(a*b).natAbs≤1000000*8000000000000:=by rw [Int.natAbs_mul];exact Nat.mul_le_mul (by omega) (by omega)
 omega
theorem meet_in {x0 y0 x1 y1 u0 v0 u1 v1:Int} (h0:At x0 y0) (h1:At x1 y1) (k0:At u0 v0) (k1:At u1 v1) (hn:¬ (Ab x0 y0 x1 y1 u0 v0=0∧Ab x0 y0 x1 y1 u1 v1=0))
  (ho:apart (Ab x0 y0 x1 y1 u0 v0) (Ab x0 y0 x1 y1 u1 v1)∧apart (Ab u0 v0 u1 v1 x0 y0) (Ab u0 v0 u1 v1 x1 y1))
  (hA:¬ (max x0 u0 > min x1 u1)) (hB:¬ (max (min y0 y1) (min v0 v1) > min (max y0 y1) (max v0 v1))):OR (G22 x0 y0 x1 y1 u0 v0 u1 v1) (CZ x0 y0 x1 y1 u0 v0 u1 v1) (Dj x0 y0 x1 y1 u0 v0 u1 v1):=by
 have hm:CZ x0 y0 x1 y1 u0 v0 u1 v1:=.inr ⟨hn,ho⟩
 have hsp:¬ Dj x0 y0 x1 y1 u0 v0 u1 v1:=fun h=>hn ⟨h.1,h.2.1⟩
 have z:EW 1 (CZ x0 y0 x1 y1 u0 v0 u1 v1) (Dj x0 y0 x1 y1 u0 v0 u1 v1):=⟨.inr (.inl rfl),by simp [hm],by simp [hsp]⟩
 have tt:(true==true)=true:=rfl
 have ft:(false==true)=false:=rfl
 have ff:(false==false)=true:=rfl
 obtain ⟨e0,l0,g0⟩:=Bn h0 h1 k0
 obtain ⟨e1,l1,g1⟩:=Bn h0 h1 k1
 have s0:=h0
 have s1:=h1
 have t0:=k0
 have t1:=k1
 unfold At at s0 s1 t0 t1
 have r:∀ n:Int,AD [F.int .i64 n]=AH n:=fun _=>rfl
 unfold G22 T22
 rw [e0,e1,(Bn k0 k1 h0).1,(Bn k0 k1 h1).1]
 simp only [if_true,Bool.false_eq_true,if_false,LJ,LK,decide_eq_false hA,decide_eq_false hB,ff,AF,AJ,HI,D6 ho.1,D6 ho.2]
 clear hA hB hm hsp
 have wx:IntKind.i64.wrap (u1-u0)=u1-u0:=Av (by omega) (by omega)
 have wy:IntKind.i64.wrap (v1-v0)=v1-v0:=Av (by omega) (by omega)
 have ho1:=ho.1
 generalize Ab x0 y0 x1 y1 u0 v0=A at *
 generalize Ab x0 y0 x1 y1 u1 v1=B at *
 have wd:IntKind.i64.wrap (A-B)=A-B:=Av (by omega) (by omega)
 have n1:∀ {w:Int},Al w=true→w.natAbs<18446744073709551616 ^ 1:=fun h=>by have:=BG.1 h;omega
 have iA:Al A=true:=BG.2 (by omega)
 have id:Al (A-B)=true:=BG.2 (by omega)
 have iu:Al u0=true:=BG.2 (by omega)
 have iv:Al v0=true:=BG.2 (by omega)
 have ix:Al (u1-u0)=true:=BG.2 (by omega)
 have iy:Al (v1-v0)=true:=BG.2 (by omega)
 have bx:(u0*(A-B)+A*(u1-u0)).natAbs<18446744073709551616 ^ 1:=by
  have e:u0*(A-B)+A*(u1-u0)=u1*A-u0*B:=by grind
  have m1:=Wq (a:=u1) (b:=A) (by omega) (by omega)
  have m2:=Wq (a:=u0) (b:=B) (by omega) (by omega)
  rw [e,Nat.pow_one]
  omega
 have by':(v0*(A-B)+A*(v1-v0)).natAbs<18446744073709551616 ^ 1:=by
  have e:v0*(A-B)+A*(v1-v0)=v1*A-v0*B:=by grind
  have m1:=Wq (a:=v1) (b:=A) (by omega) (by omega)
  have m2:=Wq (a:=v0) (b:=B) (by omega) (by omega)
  rw [e,Nat.pow_one]
  omega
 have hsp3:Ew 1 (A7 (u0*(A-B)+A*(u1-u0)) (v0*(A-B)+A*(v1-v0)) (A-B))=true:=LM bx by' (n1 id)
 simp only [wx,wy,wd,r,Rs,Bj,iA,id,iu,iv,ix,iy,A2 (n1 iA) (show 1≤400 by omega),A2 (n1 id) (show 1≤400 by omega),A2 (n1 iu) (show 1≤400 by omega),A2 (n1 iv) (show 1≤400 by omega),A2 (n1 ix) (show 1≤400 by omega),A2 (n1 iy) (show 1≤400 by omega),
  A2 (Ea (n1 iu) (n1 id)) (show 1+1≤400 by omega),A2 (Ea (n1 iv) (n1 id)) (show 1+1≤400 by omega),A2 (Ea (n1 iA) (n1 ix)) (show 1+1≤400 by omega),A2 (Ea (n1 iA) (n1 iy)) (show 1+1≤400 by omega),hsp3,Bool.and_self,AF]
 by_cases hA:A=0
 ·have hB:¬ B=0:=fun h=>hn ⟨hA,h⟩
  rw [show (A==0)=true from beq_iff_eq.2 hA,show (B==0)=false from beq_eq_false_iff_ne.2 hB]
  simp only [tt,ff,AF,AJ]
  exact Gb z
 ·rw [show (A==0)=false from beq_eq_false_iff_ne.2 hA]
  simp only [ft,ff,AF,AJ]
  exact Gb z
theorem Wr {x0 y0 x1 y1 u0 v0 u1 v1:Int} (h0:At x0 y0) (h1:At x1 y1) (k0:At u0 v0) (k1:At u1 v1) (hs:BT x0 y0 x1 y1) (ht:BT u0 v0 u1 v1):OR (G22 x0 y0 x1 y1 u0 v0 u1 v1) (CZ x0 y0 x1 y1 u0 v0 u1 v1) (Dj x0 y0 x1 y1 u0 v0 u1 v1):=by
 have box:=fZ (x0:=x0) (y0:=y0) (x1:=x1) (y1:=y1) (u0:=u0) (v0:=v0) (u1:=u1) (v1:=v1) hs ht
 have ff:(false==false)=true:=rfl
 have tf:(true==false)=false:=rfl
 by_cases hA:max x0 u0 > min x1 u1
 ·have hm:¬ CZ x0 y0 x1 y1 u0 v0 u1 v1:=fun h=>by
   have:=(box h).1
   unfold BT at hs ht
   omega
  unfold G22 T22
  simp only [if_true,Bool.false_eq_true,if_false,LJ,LK,decide_eq_true hA,tf,AJ]
  exact Gb (TZ hm)
 ·by_cases hB:max (min y0 y1) (min v0 v1) > min (max y0 y1) (max v0 v1)
  ·have hm:¬ CZ x0 y0 x1 y1 u0 v0 u1 v1:=fun h=>by
    have:=(box h).2
    omega
   unfold G22 T22
   simp only [if_true,Bool.false_eq_true,if_false,LJ,LK,decide_eq_false hA,decide_eq_true hB,ff,AF]
   exact Gb (TZ hm)
  ·by_cases hn:Ab x0 y0 x1 y1 u0 v0=0∧Ab x0 y0 x1 y1 u1 v1=0
   ·exact mT h0 h1 k0 k1 hs ht hn.1 hn.2 hA hB
   ·by_cases ho:apart (Ab x0 y0 x1 y1 u0 v0) (Ab x0 y0 x1 y1 u1 v1)∧apart (Ab u0 v0 u1 v1 x0 y0) (Ab u0 v0 u1 v1 x1 y1)
    ·exact meet_in h0 h1 k0 k1 hn ho hA hB
    ·exact mS h0 h1 k0 k1 hn ho hA hB
def Cb (x0 y0 x1 y1 u0 v0 u1 v1:Int):Int:=match G22 x0 y0 x1 y1 u0 v0 u1 v1 with | some (.tup [.int _ k,_,_])=>k | _=>0
def BB (i:Nat) (x0 y0 x1 y1 u0 v0 u1 v1:Int):Int:=match G22 x0 y0 x1 y1 u0 v0 u1 v1 with | some (.tup [_,.agg l,.agg m])=>intAt (l++m) i | _=>0
theorem nE {x0 y0 x1 y1 u0 v0 u1 v1:Int} (hs:BW x0 y0 x1 y1=true) (ht:BW u0 v0 u1 v1=true):EW (Cb x0 y0 x1 y1 u0 v0 u1 v1) (CZ x0 y0 x1 y1 u0 v0 u1 v1) (Dj x0 y0 x1 y1 u0 v0 u1 v1):=by
 obtain ⟨h0,h1,h2⟩:=B9 hs
 obtain ⟨k0,k1,k2⟩:=B9 ht
 obtain ⟨_,_,_,_,_,_,_,_,_,_,_,_,_,_,_,_,_,_,_,_,_,_,_,_,_,e,h⟩:=Wr h0 h1 k0 k1 h2 k2
 unfold Cb
 rw [e]
 exact h
theorem cH {x0 y0 x1 y1 u0 v0 u1 v1:Int} (hs:BW x0 y0 x1 y1=true) (ht:BW u0 v0 u1 v1=true):Cb x0 y0 x1 y1 u0 v0 u1 v1=CX x0 y0 x1 y1 u0 v0 u1 v1:=R7 (nE hs ht) (IY hs ht)
def Pb:List F→F | [.agg [.int .i64 a,.int .i64 b,.int .i64 c,.int .i64 d],.agg [.int .i64 e,.int .i64 f,.int .i64 g,.int .i64 h]]=>.tup [.int .i64 (Cb a b c d e f g h),.agg [.int .u64 (BB 0 a b c d e f g h),.int .u64 (BB 1 a b c d e f g h),.int .u64 (BB 2 a b c d e f g h),.int .u64 (BB 3 a b c d e f g h),.int .u64 (BB 4 a b c d e f g h),.int .u64 (BB 5 a b c d e f g h),.int .u64 (BB 6 a b c d e f g h),.int .u64 (BB 7 a b c d e f g h),.int .u64 (BB 8 a b c d e f g h),.int .u64 (BB 9 a b c d e f g h),.int .u64 (BB 10 a b c d e f g h),.int .u64 (BB 11 a b c d e f g h)],.agg [.int .u64 (BB 12 a b c d e f g h),.int .u64 (BB 13 a b c d e f g h),.int .u64 (BB 14 a b c d e f g h),.int .u64 (BB 15 a b c d e f g h),.int .u64 (BB 16 a b c d e f g h),.int .u64 (BB 17 a b c d e f g h),.int .u64 (BB 18 a b c d e f g h),.int .u64 (BB 19 a b c d e f g h),.int .u64 (BB 20 a b c d e f g h),.int .u64 (BB 21 a b c d e f g h),.int .u64 (BB 22 a b c d e f g h),.int .u64 (BB 23 a b c d e f g h)]] | _=>.dflt
theorem okMeetI:Ai Tryz.prog 22 IQ Pb :=
 Bm (c:=AR Tryz.f22) Tryz.func22 (by kernel_rfl) (by kernel_rfl) fun xs hp=>match xs,hp with
 | [.agg [.int .i64 a,.int .i64 b,.int .i64 c,.int .i64 d],.agg [.int .i64 e,.int .i64 f,.int .i64 g,.int .i64 h]],hp=>by
  simp only [IQ,Bool.and_eq_true] at hp
  obtain ⟨h0,h1,h2⟩:=B9 hp.1
  obtain ⟨k0,k1,k2⟩:=B9 hp.2
  obtain ⟨k,p0,p1,p2,p3,p4,p5,p6,p7,p8,p9,p10,p11,q0,q1,q2,q3,q4,q5,q6,q7,q8,q9,q10,q11,e1,hk⟩:=Wr h0 h1 k0 k1 h2 k2
  have t:=t22 a b c d e f g h _ e1
  have r:Pb [.agg [.int .i64 a,.int .i64 b,.int .i64 c,.int .i64 d],.agg [.int .i64 e,.int .i64 f,.int .i64 g,.int .i64 h]]=.tup [.int .i64 k,.agg [.int .u64 p0,.int .u64 p1,.int .u64 p2,.int .u64 p3,.int .u64 p4,.int .u64 p5,.int .u64 p6,.int .u64 p7,.int .u64 p8,.int .u64 p9,.int .u64 p10,.int .u64 p11],.agg [.int .u64 q0,.int .u64 q1,.int .u64 q2,.int .u64 q3,.int .u64 q4,.int .u64 q5,.int .u64 q6,.int .u64 q7,.int .u64 q8,.int .u64 q9,.int .u64 q10,.int .u64 q11]]:=by
   show F.tup [.int .i64 (Cb a b c d e f g h),.agg [.int .u64 (BB 0 a b c d e f g h),.int .u64 (BB 1 a b c d e f g h),.int .u64 (BB 2 a b c d e f g h),.int .u64 (BB 3 a b c d e f g h),.int .u64 (BB 4 a b c d e f g h),.int .u64 (BB 5 a b c d e f g h),.int .u64 (BB 6 a b c d e f g h),.int .u64 (BB 7 a b c d e f g h),.int .u64 (BB 8 a b c d e f g h),.int .u64 (BB 9 a b c d e f g h),.int .u64 (BB 10 a b c d e f g h),.int .u64 (BB 11 a b c d e f g h)],.agg [.int .u64 (BB 12 a b c d e f g h),.int .u64 (BB 13 a b c d e f g h),.int .u64 (BB 14 a b c d e f g h),.int .u64 (BB 15 a b c d e f g h),.int .u64 (BB 16 a b c d e f g h),.int .u64 (BB 17 a b c d e f g h),.int .u64 (BB 18 a b c d e f g h),.int .u64 (BB 19 a b c d e f g h),.int .u64 (BB 20 a b c d e f g h),.int .u64 (BB 21 a b c d e f g h),.int .u64 (BB 22 a b c d e f g h),.int .u64 (BB 23 a b c d e f g h)]]=_
   simp only [Cb,BB,e1]
   rfl
  rw [r]
  exact t
def envH9:Env:=pD.add 22 (.pure IQ Pb)
theorem pC:Ax Tryz.prog envH9:=(Env.add_ok Mv okMeetI.sp)
end
noncomputable section
/-! ### function 35 -/
def T35 {ρ:Type} (ret:(Int)→(Int)→(Int)→(Int)→(Bool)→Option ρ) (x0:Int) (y0:Int) (x1:Int) (y1:Int):Option ρ :=
 (AC (B1 x1 y1 x0 y0)
 (AC (!BW x1 y1 x0 y0)
 (ret (0) (0) (0) (0) (false))
 (ret (x1) (y1) (x0) (y0) (true)))
 (AC (!BW x0 y0 x1 y1)
 (ret (0) (0) (0) (0) (false))
 (ret (x0) (y0) (x1) (y1) (true))))
def G35 (x0:Int) (y0:Int) (x1:Int) (y1:Int):Option ((Int) × (Int) × (Int) × (Int) × (Bool)):=T35 (fun a b c d ok=>some (a,b,c,d,ok)) x0 y0 x1 y1
theorem t35 (x0:Int) (y0:Int) (x1:Int) (y1:Int) (a:Int) (b:Int) (c:Int) (d:Int) (ok:Bool) (h:G35 x0 y0 x1 y1=some (a,b,c,d,ok)):AY Tryz.prog Tryz.f35.results.toList [.code (AR Tryz.f35)] (start Tryz.f35.ntmps ([F.agg [F.int .i64 x0,F.int .i64 y0],F.agg [F.int .i64 x1,F.int .i64 y1]].map .f)) (F.tup [F.agg [F.int .i64 a,F.int .i64 b,F.int .i64 c,F.int .i64 d],F.bool ok]):=by
 refine AY.of_run Ap Mv (T:=[]) (n:=200) ?_
 refine gE (Y:=T35 (fun a b c d ok=>some (.ret (F.tup [F.agg [F.int .i64 a,F.int .i64 b,F.int .i64 c,F.int .i64 d],F.bool ok]))) x0 y0 x1 y1) (by kernel_rfl) ?_
 exact (gS h (fun _ h=>(gS h (fun _ h=>gR (by cases h;rfl)) (fun _ h=>gR (by cases h;rfl)))) (fun _ h=>(gS h (fun _ h=>gR (by cases h;rfl)) (fun _ h=>gR (by cases h;rfl)))))
def Wy (x0 y0 x1 y1:Int):Bool:=BW (DA ⟨x0,y0⟩ ⟨x1,y1⟩).x0 (DA ⟨x0,y0⟩ ⟨x1,y1⟩).y0 (DA ⟨x0,y0⟩ ⟨x1,y1⟩).x1 (DA ⟨x0,y0⟩ ⟨x1,y1⟩).y1
def LL (x0 y0 x1 y1:Int):Sg:=bif Wy x0 y0 x1 y1 then DA ⟨x0,y0⟩ ⟨x1,y1⟩ else .zero
theorem Wz (x0 y0 x1 y1:Int):G35 x0 y0 x1 y1=some ((LL x0 y0 x1 y1).x0,(LL x0 y0 x1 y1).y0,(LL x0 y0 x1 y1).x1,(LL x0 y0 x1 y1).y1,Wy x0 y0 x1 y1):=by
 unfold G35 T35 LL Wy DA
 cases h1:B1 x1 y1 x0 y0 <;> simp only [h1,AF,AJ,cond_true,cond_false]
 ·cases BW x0 y0 x1 y1 <;> rfl
 ·cases BW x1 y1 x0 y0 <;> rfl
def aZ:List F→F | [.agg [.int .i64 a,.int .i64 b],.agg [.int .i64 c,.int .i64 d]]=>.tup [.agg [.int .i64 (LL a b c d).x0,.int .i64 (LL a b c d).y0,.int .i64 (LL a b c d).x1,.int .i64 (LL a b c d).y1],.bool (Wy a b c d)] | _=>.dflt
theorem okLegG:Ai Tryz.prog 35 J4 aZ :=
 Bm (c:=AR Tryz.f35) Tryz.func35 (by kernel_rfl) (by kernel_rfl) fun xs hp=>match xs,hp with
 | [.agg [.int .i64 a,.int .i64 b],.agg [.int .i64 c,.int .i64 d]],hp=>t35 a b c d _ _ _ _ _ (Wz a b c d)
def pL:Env:=pD.add 35 (.pure J4 aZ)
theorem iE:Ax Tryz.prog pL:=(Env.add_ok Mv okLegG.sp)
end
noncomputable section
set_option maxHeartbeats 1000000
def TA (h:Nat→Nat→Bool) (m n:Nat):Bool:=CK (fun i=>CK (fun j=>!h i j) 0 m) 0 n
theorem Gy {α:Type} {l:List α} {d:α} {i:Nat} (h:i<l.length):l.getD i d ∈ l:=by
 rw [List.getD_eq_getElem?_getD,List.getElem?_eq_getElem h]
 exact List.getElem_mem h
def pK:Env:=pL
theorem iD:Ax Tryz.prog pK:=iE
end
noncomputable section
def pJ:Env:=pK.or envH9
theorem iC:Ax Tryz.prog pJ:=Env.or_ok iD pC
end
noncomputable section
set_option maxHeartbeats 1000000
theorem leg_ok {a b:Pt} (ha:At a.x a.y) (hb:At b.x b.y) (h:a ≠ b):BW (DA a b).x0 (DA a b).y0 (DA a b).x1 (DA a b).y1=true:=by
 have oa:=ET.2 ha
 have ob:=ET.2 hb
 unfold BW
 rcases IX a b h with ⟨h1,h2⟩ | ⟨h1,h2⟩ <;> rw [h2] <;> simp only [oa,ob,Cz.2 h1,Bool.and_self]
/-! Both tell the same. -/
theorem Vv {h:Nat→Nat→Bool} {m n:Nat}:TA h m n=true ↔ ∀ j,j<m→¬ ∃ i,i<n∧h i j=true:=by
 unfold TA
 rw [DQ]
 constructor
 ·rintro g j hj ⟨i,hi,e⟩
  have:=(DQ _ _ _).1 (g i (by omega) (by omega)) j (by omega) (by omega)
  rw [e] at this
  cases this
 ·intro g i _ hi
  rw [DQ]
  intro j _ hj
  cases e:h i j with
  | false=>rfl
  | true=>exact absurd ⟨i,by omega,e⟩ (g j (by omega))
def pI:Env:=pJ
theorem iB:Ax Tryz.prog pI:=iC
end
noncomputable section
def oA:Env:=envZ3.or pI
theorem gX:Ax Tryz.prog oA:=Env.or_ok oB iB
end
noncomputable section
def envZ5:Env:=oA
theorem Ig:Ax Tryz.prog envZ5:=gX
end
noncomputable section
variable {P:Program}
def Mz (dec:List U→Option (Nat × F)) (pre:List F→F→Bool) (us:List U) (H:List HO):Bool:=match dec us with
 | some (o,x)=>(match H[o]? with
  | some (.box cu)=>(match Bb [] cu with
   | some cs=>pre cs x
   | none=>false)
  | _=>false)
 | none=>false
def LP (dec:List U→Option (Nat × F)) (res:List F→F→F × List F) (us:List U) (H:List HO):U × List HO:=match dec us with
 | some (o,x)=>(match H[o]? with
  | some (.box cu)=>(match Bb [] cu with
   | some cs=>(.f (res cs x).1,H.set o (BE (res cs x).2))
   | none=>(.bad,H))
  | _=>(.bad,H))
 | none=>(.bad,H)
theorem Zs {f:FuncId} {dec:List U→Option (Nat × F)} {mk:F→List U} {pre:List F→F→Bool} {res:List F→F→F × List F}
  (hdec:∀ us o x,dec us=some (o,x)→∀ (w:World) (Z:Nat→Prop) (m:Nat→Nat) (H:List HO) (cu:List U) (cs:List F) (args:List Value),H[o]?=some (.box cu)→CP w Z m H us args→CP w Z (fun _=>m o) [BE cs] (mk x) args)
  (h:∀ cs x,pre cs x=true→rB P f (mk x) [BE cs] (res cs x).1 [(res cs x).2]):EJ P f (.shared (Mz dec pre) (LP dec res)):=by
 intro us H hp w Z m args hH hL
 unfold Mz at hp
 split at hp
 ·rename_i o x hd
  split at hp
  ·rename_i cu ho
   split at hp
   ·rename_i cs hcs
    have hres:LP dec res us H=(.f (res cs x).1,H.set o (BE (res cs x).2)):=by simp only [LP,hd,ho,hcs]
    rw [hres]
    obtain ⟨hl1,hg1⟩:=Bf cu cs hcs
    have hlo:Aw H o:=⟨_,ho,rfl⟩
    have hobk:=hH.ob o _ ho
    have hHsub:HOK w Z (fun _=>m o) [BE cs]:=by
     refine ⟨hH.zlt,fun _ _=>hH.apart o hlo,fun a b ha hb _=>?_,fun k ob hk=>?_⟩
     ·obtain ⟨_,ha,_⟩:=ha
      obtain ⟨_,hb,_⟩:=hb
      have:=(List.getElem?_eq_some_iff.1 ha).1
      have:=(List.getElem?_eq_some_iff.1 hb).1
      simp at *
      omega
     ·have hk0:=(List.getElem?_eq_some_iff.1 hk).1
      obtain rfl:k=0:=by simp at hk0;exact hk0
      simp at hk;subst hk
      obtain ⟨c,el,fr,q1,q2,q3,q4⟩:=hobk
      refine ⟨c,el,fr,q1,q2,by rw [List.length_map,← hl1];exact q3,fun j u hu=>?_⟩
      rw [List.getElem?_map] at hu
      cases hxj:cs[j]? with
      | none=>rw [hxj] at hu;cases hu
      | some y =>
       rw [hxj] at hu;cases hu
       have hj:=(List.getElem?_eq_some_iff.1 hxj).1
       have huj:cu[j]?=some cu[j]:=List.getElem?_eq_getElem (by omega)
       obtain ⟨v,hv,hr⟩:=q4 j _ huj
       exact ⟨v,hv,.f _ _ (Cf hH hr (hg1 j _ y huj hxj))⟩
    have hLsub:=hdec us o x hd w Z m H cu cs args.toList ho hL
    refine (h cs x hp w Z (fun _=>m o) args hHsub hLsub).mono fun v w' ⟨Z',m',hE,hH',hr⟩=>?_
    have hm0:m' 0=m o:=by
     have:=hE.evol 0 (BE cs) (BE (res cs x).2) rfl rfl
     simp only [BE,Bu] at this
     exact this.2
    have hlen:(res cs x).2.length=cs.length:=by
     have:=hE.evol 0 (BE cs) (BE (res cs x).2) rfl rfl
     simp only [BE,Bu,List.length_map] at this
     exact this.1
    have hlt:o<H.length:=(List.getElem?_eq_some_iff.1 ho).1
    have hlive:∀ k,Aw (H.set o (BE (res cs x).2)) k→Aw H k:=by
     intro k ⟨ob1,h1,hd⟩
     by_cases hk:o=k
     ·subst hk;exact hlo
     ·rw [List.getElem?_set_ne hk] at h1;exact ⟨ob1,h1,hd⟩
    have hkeep:∀ k,Aw H k→k ≠ o→w'.heap[m k]?=w.heap[m k]?:=by
     intro k hk hne
     refine hE.rest _ (hH.blk_lt hk) fun o' ho' e=>hne (hH.inj k o hk hlo e.symm)
    have hEE:Ext w Z m H w' Z' m (H.set o (BE (res cs x).2)):=by
     refine ⟨hE.os,hE.tape,hE.output,hE.size,hE.sub,?_,hE.kept,?_,by simp,?_,fun k hk=>.inl ⟨hlive k hk,rfl⟩,hE.drawn⟩
     ·intro b hb
      rcases hE.back b hb with h1 | h1 | ⟨o',ho',e⟩
      ·exact .inl h1
      ·exact .inr (.inl h1)
      ·exact .inr (.inr ⟨o,hlo,e⟩)
     ·intro b hb hn
      exact hE.rest b hb fun o' ho' e=>hn o hlo e
     ·intro k ob ob' hk hk'
      by_cases hko:o=k
      ·subst hko
       rw [List.getElem?_set_self hlt] at hk'
       rw [ho] at hk
       cases hk;cases hk'
       simp only [BE,Bu,List.length_map]
       exact ⟨by rw [hlen,hl1],trivial⟩
      ·rw [List.getElem?_set_ne hko,hk] at hk'
       cases hk'
       cases ob with
       | arr sz n g =>
        refine ⟨rfl,Nat.le_refl _,fun _=>⟨rfl,?_⟩⟩
        simp only [Az,hkeep k ⟨_,hk,rfl⟩ (fun e=>hko e.symm)]
       | _=>simp [Bu]
    refine ⟨Z',m,hEE,⟨hH'.zlt,?_,fun a b ha hb e=>hH.inj a b (hlive a ha) (hlive b hb) e,?_⟩,.f _ _ hr⟩
    ·intro k hk hz
     have hk':=hlive k hk
     by_cases hko:k=o
     ·subst hko
      exact hH'.apart 0 ⟨_,rfl,rfl⟩ (by rw [hm0];exact hz)
     ·rcases hE.back _ hz with h1 | h1 | ⟨o',ho',e⟩
      ·exact hH.apart k hk' h1
      ·have:=hH.blk_lt hk';omega
      ·exact hko (hH.inj k o hk' hlo e.symm)
    ·intro k ob hk
     by_cases hko:o=k
     ·subst hko
      rw [List.getElem?_set_self hlt] at hk
      cases hk
      obtain ⟨c,el,fr,q1,q2,q3,q4⟩:=hH'.ob 0 _ rfl
      rw [hm0] at q1 q2
      refine ⟨c,el,fr,q1,q2,q3,fun j u hu=>?_⟩
      obtain ⟨v,hv,hr⟩:=q4 j u hu
      refine ⟨v,hv,?_⟩
      rw [List.getElem?_map] at hu
      cases hxj:(res cs x).2[j]? with
      | none=>rw [hxj] at hu;cases hu
      | some y=>rw [hxj] at hu;cases hu;cases hr with | f _ _ hr=>exact .f _ _ hr
     ·rw [List.getElem?_set_ne hko] at hk
      by_cases hd:ob.live=true
      ·exact (hH.ob k ob hk).mono hEE (hkeep k ⟨_,hk,hd⟩ (fun e=>hko e.symm))
      ·cases ob <;> simp_all [Hg,HO.live]
   ·cases hp
  ·cases hp
 ·cases hp
theorem bN {w:World} {Z:Nat→Prop} {m:Nat→Nat} {H:List HO} {o:Nat} {v:Value} {cu:List U} {cs:List F} (ho:H[o]?=some (.box cu)) (h:RepU w Z m H (.hp o 0) v):RepU w Z (fun _=>m o) [BE cs] (.hp 0 0) v:=by
 cases h with
 | hp _ _ _ h1 hk hvv=>exact .hp 0 0 v h1 ⟨_,rfl,by simp [BE]⟩ fun cs' _=>hvv _ ho
theorem kY {w:World} {Z:Nat→Prop} {m m':Nat→Nat} {H H':List HO} {x:F} {v:Value} (h:RepU w Z m H (.f x) v):RepU w Z m' H' (.f x) v:=by
 cases h with
 | f _ _ h=>exact .f _ _ h
def Ns:List U→Option (Nat × F)
 | [.f x,.hp o 0]=>some (o,x)
 | _=>none
theorem iL:∀ us o x,Ns us=some (o,x)→∀ (w:World) (Z:Nat→Prop) (m:Nat→Nat) (H:List HO) (cu:List U) (cs:List F) (args:List Value),H[o]?=some (.box cu)→CP w Z m H us args→CP w Z (fun _=>m o) [BE cs] [.f x,.hp 0 0] args:=by
 intro us o x hd w Z m H cu cs args ho hL
 unfold Ns at hd
 split at hd
 ·rename_i y q
  cases hd
  refine ⟨hL.1,fun j u v hu hv=>?_⟩
  match j,hu with
  | 0,hu=>cases hu;exact kY (hL.2 0 _ v rfl hv)
  | 1,hu=>cases hu;exact bN ho (hL.2 1 _ v rfl hv)
  | j+2,hu=>simp at hu
 ·cases hd
def LO (g:FuncId):List U→Option (Nat × F)
 | [.f x,.fn g' [.hp o 0]]=>if g'=g then some (o,x) else none
 | _=>none
theorem Xt (g:FuncId):∀ us o x,LO g us=some (o,x)→∀ (w:World) (Z:Nat→Prop) (m:Nat→Nat) (H:List HO) (cu:List U) (cs:List F) (args:List Value),H[o]?=some (.box cu)→CP w Z m H us args→CP w Z (fun _=>m o) [BE cs] [.f x,.fn g [.hp 0 0]] args:=by
 intro us o x hd w Z m H cu cs args ho hL
 unfold LO at hd
 split at hd
 ·rename_i y g' q
  split at hd
  ·rename_i hg
   subst hg
   cases hd
   refine ⟨hL.1,fun j u v hu hv=>?_⟩
   match j,hu with
   | 0,hu=>cases hu;exact kY (hL.2 0 _ v rfl hv)
   | 1,hu =>
    cases hu
    have:=hL.2 1 _ v rfl hv
    cases this with
    | fn _ _ vs hl hr =>
     refine .fn _ _ vs hl fun j u v hu hv=>?_
     match j,hu with
     | 0,hu=>cases hu;exact bN ho (hr 0 _ v rfl hv)
     | j+1,hu=>simp at hu
   | j+2,hu=>simp at hu
  ·cases hd
 ·cases hd
theorem WM {w:World} {Z:Nat→Prop} {m:Nat→Nat} {v:Value} {cs ds:List F} (h:RepU w Z m [BE cs] (.hp 0 0) v):RepU w Z m [BE ds] (.hp 0 0) v:=by
 cases h with
 | hp _ _ _ h1 hk hvv=>exact .hp 0 0 v h1 ⟨_,rfl,by simp [BE]⟩ fun cs' _=>hvv _ rfl
theorem bO {w:World} {Z:Nat→Prop} {m m':Nat→Nat} {H H':List HO} {x y:F} {v:Value} (hle:FLe x y) (h:RepU w Z m H (.f x) v):RepU w Z m' H' (.f y) v:=by
 cases h with
 | f _ _ h=>exact .f _ _ (hle _ _ _ h)
def cX (x:F):List U:=[.f x,.hp 0 0]
def nU (g:FuncId) (x:F):List U:=[.f x,.fn g [.hp 0 0]]
theorem qJ {x y:F} (hle:FLe x y) (w:World) (Z:Nat→Prop) (m:Nat→Nat) (cs ds:List F) (args:List Value) (h:CP w Z m [BE cs] (cX x) args):CP w Z m [BE ds] (cX y) args:=by
 refine ⟨h.1,fun j u v hu hv=>?_⟩
 match j,hu with
 | 0,hu=>cases hu;exact bO hle (h.2 0 _ v rfl hv)
 | 1,hu=>cases hu;exact WM (h.2 1 _ v rfl hv)
 | j+2,hu=>simp [cX] at hu
theorem cN {g:FuncId} {x y:F} (hle:FLe x y) (w:World) (Z:Nat→Prop) (m:Nat→Nat) (cs ds:List F) (args:List Value) (h:CP w Z m [BE cs] (nU g x) args):CP w Z m [BE ds] (nU g y) args:=by
 refine ⟨h.1,fun j u v hu hv=>?_⟩
 match j,hu with
 | 0,hu=>cases hu;exact bO hle (h.2 0 _ v rfl hv)
 | 1,hu =>
  cases hu
  have:=h.2 1 _ v rfl hv
  cases this with
  | fn _ _ vs hl hr =>
   refine .fn _ _ vs hl fun j u v hu hv=>?_
   match j,hu with
   | 0,hu=>cases hu;exact WM (hr 0 _ v rfl hv)
   | j+1,hu=>simp at hu
 | j+2,hu=>simp [nU] at hu
theorem Nh {f:FuncId} {fn:Func} {c:Code} (hf:P.funcs[f]?=some fn) (hb:fn.body=some c) (hodd:LI fn=false) {dec:List U→Option (Nat × F)} {mk:F→List U} {pre:List F→F→Bool} {res:List F→F→F × List F}
  (hdec:∀ us o x,dec us=some (o,x)→∀ (w:World) (Z:Nat→Prop) (m:Nat→Nat) (H:List HO) (cu:List U) (cs:List F) (args:List Value),H[o]?=some (.box cu)→CP w Z m H us args→CP w Z (fun _=>m o) [BE cs] (mk x) args)
  (hmk:∀ {x y:F},FLe x y→∀ (w:World) (Z:Nat→Prop) (m:Nat→Nat) (cs ds:List F) (args:List Value),CP w Z m [BE cs] (mk x) args→CP w Z m [BE ds] (mk y) args)
  (h:∀ cs x,pre cs x=true→∃ ds y r os,Ee cs ds∧FLe x y∧CL P 1 fn.results.toList [.code c] (CU fn.ntmps (mk y) [BE ds]) (.tup [r,.agg os])∧FLe r (res cs x).1∧Ee os (res cs x).2):EJ P f (.shared (Mz dec pre) (LP dec res)) :=
 Zs hdec fun cs x hp w Z m args hH hL=>by
  obtain ⟨ds,y,r,os,h1,h2,h3,h4,h5⟩:=h cs x hp
  exact (nT hf hb hodd (H:=[BE ds]) (os:=[os]) rfl (by simp) h3 w Z m args (hH.box_le h1) (hmk h2 w Z m cs ds _ hL)).mono fun v w' ⟨Z',m',hE,hH',hr⟩=>⟨Z',m',hE.box_le h1 h5,hH'.box_le h5,h4 _ _ _ hr⟩
end
noncomputable section
def C9 (r:List Pt):F:=.agg [Am r]
def B4:F→Bool
 | .agg [x]=>C3 x
 | _=>false
def Ac:F→List Pt
 | .agg [x]=>BR x
 | _=>[]
theorem MC (r:List Pt):Ac (C9 r)=r:=E6 r
theorem Mj (r:List Pt):B4 (C9 r)=true:=GE r
theorem Rh {x:F} (h:B4 x=true):∃ y,x=.agg [y]∧C3 y=true:=by
 unfold B4 at h
 split at h
 ·exact ⟨_,rfl,h⟩
 ·cases h
theorem Em {x:F} (h:B4 x=true):FLe x (C9 (Ac x))∧FLe (C9 (Ac x)) x:=by
 obtain ⟨y,rfl,hy⟩:=Rh h
 exact ⟨FLe.agg ⟨(Dx hy).1,trivial⟩,FLe.agg ⟨(Dx hy).2,trivial⟩⟩
theorem ring_el {x:F} (h:B4 x=true):ElLe x (C9 (Ac x))∧ElLe (C9 (Ac x)) x:=by
 obtain ⟨y,rfl,hy⟩:=Rh h
 have hc:Be y=true:=by
  cases y with
  | sl n g=>rfl
  | _=>simp [C3,Ci] at hy
 exact ⟨ElLe.agg ⟨(Dx hy).1,trivial⟩ fun _ u hu=>by
   simp only [List.mem_cons,List.not_mem_nil,or_false] at hu
   subst hu
   rfl,
  ElLe.agg ⟨(Dx hy).2,trivial⟩ fun _ u hu=>by
   simp only [List.mem_cons,List.not_mem_nil,or_false] at hu
   subst hu
   exact hc⟩
def A5 (l:List (List Pt)):F:=slF C9 [] l
def B2 (x:F):Bool:=Ci B4 x
def Au (x:F):List (List Pt):=D8 Ac x
theorem B7 (l:List (List Pt)):Au (A5 l)=l:=Jp (fun r=>MC r) l
theorem CV (l:List (List Pt)):B2 (A5 l)=true:=KG l fun r _=>Mj r
theorem Cv {x:F} (h:B2 x=true):FLe x (A5 (Au x))∧FLe (A5 (Au x)) x:=Vj (fun _ h=>ring_el h) h
theorem YX (q:List Pt) (i:Nat) (h:i≤q.length):BR (F.sl i fun j=>ptF (q.getD j .zero))=q.take i∧C3 (F.sl i fun j=>ptF (q.getD j .zero))=true:=by
 constructor
 ·show (List.range i).map (fun j=>unPt (ptF (q.getD j .zero)))=_
  apply List.ext_getElem
  ·simp;omega
  ·intro j h1 h2
   simp at h1
   simp [List.getD,List.getElem?_eq_getElem (show j<q.length by omega)]
   rfl
 ·simp only [C3,Ci,List.all_eq_true,List.mem_range]
  exact fun _ _=>rfl
theorem S2 (l:List (List Pt)) (i:Nat) (h:i≤l.length):Au (F.sl i fun j=>C9 (l.getD j []))=l.take i∧B2 (F.sl i fun j=>C9 (l.getD j []))=true:=by
 constructor
 ·show (List.range i).map (fun j=>Ac (C9 (l.getD j [])))=_
  apply List.ext_getElem
  ·simp;omega
  ·intro j h1 h2
   simp at h1
   simp [List.getD,List.getElem?_eq_getElem (show j<l.length by omega),MC]
 ·simp only [B2,Ci,List.all_eq_true,List.mem_range]
  exact fun _ _=>Mj _
def AT (q:List Pt) (i:Nat):Sg:=DA (q.getD i .zero) (q.getD ((i+1) % q.length) .zero)
def BZ (q:List Pt):List Sg:=(List.range q.length).map (AT q)
theorem Dm (q:List Pt):(BZ q).length=q.length:=by simp [BZ]
theorem GU (q:List Pt) {i:Nat} (h:i<q.length):(BZ q).getD i .zero=AT q i:=by
 simp [BZ,List.getD,h]
end
noncomputable section
/-! ### function 30 -/
def T30 {ρ:Type} (ret:(Int)→(Int)→(Int)→(Int)→Option ρ) (q:List Pt) (i:Int):Option ρ :=
 (AC (decide (0≤i))
 (AC (decide (i<(↑q.length:Int)))
 (AC ((↑q.length:Int) != 0)
 (AC (decide (0≤(IntKind.i64.wrap (i+1)).tmod (↑q.length:Int)))
 (AC (decide ((IntKind.i64.wrap (i+1)).tmod (↑q.length:Int)<(↑q.length:Int)))
 (AC (B1 (q.getD ((IntKind.i64.wrap (i+1)).tmod (↑q.length:Int)).toNat Pt.zero).x (q.getD ((IntKind.i64.wrap (i+1)).tmod (↑q.length:Int)).toNat Pt.zero).y (q.getD i.toNat Pt.zero).x (q.getD i.toNat Pt.zero).y)
 (ret ((q.getD ((IntKind.i64.wrap (i+1)).tmod (↑q.length:Int)).toNat Pt.zero).x) ((q.getD ((IntKind.i64.wrap (i+1)).tmod (↑q.length:Int)).toNat Pt.zero).y) ((q.getD i.toNat Pt.zero).x) ((q.getD i.toNat Pt.zero).y))
 (ret ((q.getD i.toNat Pt.zero).x) ((q.getD i.toNat Pt.zero).y) ((q.getD ((IntKind.i64.wrap (i+1)).tmod (↑q.length:Int)).toNat Pt.zero).x) ((q.getD ((IntKind.i64.wrap (i+1)).tmod (↑q.length:Int)).toNat Pt.zero).y)))
 none)
 none)
 none)
 none)
 none)
def G30 (q:List Pt) (i:Int):Option ((Int) × (Int) × (Int) × (Int)):=T30 (fun a b c d=>some (a,b,c,d)) q i
theorem t30 (q:List Pt) (i:Int) (a:Int) (b:Int) (c:Int) (d:Int) (h:G30 q i=some (a,b,c,d)):AY Tryz.prog Tryz.f30.results.toList [.code (AR Tryz.f30)] (start Tryz.f30.ntmps ([F.agg [Am q],F.int .i64 i].map .f)) (F.agg [F.int .i64 a,F.int .i64 b,F.int .i64 c,F.int .i64 d]):=by
 refine AY.of_run Ap Ig (T:=[]) (n:=200) ?_
 refine gE (Y:=T30 (fun a b c d=>some (.ret (F.agg [F.int .i64 a,F.int .i64 b,F.int .i64 c,F.int .i64 d]))) q i) (by kernel_rfl) ?_
 exact (gS h (fun _ h=>(gS h (fun _ h=>(gS h (fun _ h=>(gS h (fun _ h=>(gS h (fun _ h=>(gS h (fun _ h=>gR (by cases h;rfl)) (fun _ h=>gR (by cases h;rfl)))) gN)) gN)) gN)) gN)) gN)
theorem VY (m n:Nat):((m:Nat):Int).tmod (n:Int)=((m % n:Nat):Int):=rfl
theorem Pw {n i:Nat} (hi:i<n) (hn:n≤1000):IntKind.i64.wrap ((i:Int)+1)=((i+1:Nat):Int)∧decide ((0:Int)≤i)=true∧decide ((i:Int)<(n:Int))=true∧((n:Int) != 0)=true∧decide ((0:Int)≤(((i+1) % n:Nat):Int))=true∧decide ((((i+1) % n:Nat):Int)<(n:Int))=true:=by
 have h:=Nat.mod_lt (i+1) (show 0<n by omega)
 refine ⟨by rw [Av (by omega) (by omega)];omega,decide_eq_true (by omega),decide_eq_true (by omega),by rw [bne_iff_ne];omega,decide_eq_true (by omega),decide_eq_true (by omega)⟩
theorem kE {q:List Pt} {i:Nat} (hi:i<q.length) (hn:q.length≤1000):G30 q i=some ((AT q i).x0,(AT q i).y0,(AT q i).x1,(AT q i).y1):=by
 obtain ⟨c1,c2,c3,c4,c5,c6⟩:=Pw hi hn
 unfold G30 T30
 simp only [c1,VY,c2,c3,c4,c5,c6,Int.toNat_natCast,AF]
 unfold AT DA
 cases B1 (q.getD ((i+1) % q.length) .zero).x (q.getD ((i+1) % q.length) .zero).y (q.getD i .zero).x (q.getD i .zero).y <;> rfl
def Ta (q:List Pt) (i:Int):Bool:=decide (0≤i)&&decide (i<(q.length:Int))&&decide (q.length≤1000)
theorem Ic {q:List Pt} {i:Int}:Ta q i=true ↔ (0≤i∧i<(q.length:Int))∧q.length≤1000:=by simp only [Ta,Bool.and_eq_true,decide_eq_true_eq]
def NO:List F→Bool | [x,.int .i64 i]=>B4 x&&Ta (Ac x) i | _=>false
def Rn:List F→F | [x,.int .i64 i]=>sgF (AT (Ac x) i.toNat) | _=>.dflt
theorem lR:Ai Tryz.prog 30 NO Rn :=
 Ae (c:=AR Tryz.f30) Tryz.func30 (by kernel_rfl) (by kernel_rfl) fun xs hp=>match xs,hp with
 | [x,.int .i64 i],hp=>by
  simp only [NO,Bool.and_eq_true] at hp
  obtain ⟨⟨h1,h2⟩,h3⟩:=Ic.1 hp.2
  have h:=kE (q:=Ac x) (i:=i.toNat) (by omega) h3
  rw [Int.toNat_of_nonneg h1] at h
  exact ⟨[C9 (Ac x),.int .i64 i],_,⟨(Em hp.1).1,.refl _,trivial⟩,t30 _ _ _ _ _ _ h,.refl _⟩
/-! ### function 67 -/
def rN (q:List Pt) (x:Int) (y:Int) (n:Int) (i:Int):St:=⟨(U.f (Am q)) :: Ag 2 ((U.hp 0 0) :: Ag 3 ((U.f (F.int .i64 n)) :: (U.f (F.int .i64 i)) :: Ag 10 [])),[HO.box [(U.f (F.int .i64 x)),(U.f (F.int .i64 y))]]⟩
abbrev L6 (ρ:Type):=(Int)→Option ρ
def dO {ρ:Type} (ret:L6 ρ) (c2:(List Pt)→(Int)→(Int)→(Int)→(Int)→Option ρ) (q:List Pt) (x:Int) (y:Int) (n:Int) (i:Int):Option ρ :=
 (AC (decide (i<n))
 (AC (decide (0≤i))
 (AC (decide (i<(↑q.length:Int)))
 (AC (x==(q.getD i.toNat Pt.zero).x&&(y==(q.getD i.toNat Pt.zero).y&&true))
 (ret (i))
 (c2 (q) (x) (y) (n) (IntKind.i64.wrap (i+1))))
 none)
 none)
 (ret (-1)))
def Sv:Nat→(List Pt)→(Int)→(Int)→(Int)→(Int)→Option (Int)
 | 0,_,_,_,_,_=>none
 | k+1,q,x,y,n,i=>dO some (Sv k) q x y n i
def T67 {ρ:Type} (ret:L6 ρ) (c2:(List Pt)→(Int)→(Int)→(Int)→(Int)→Option ρ) (q:List Pt) (x:Int) (y:Int):Option ρ :=
 (c2 (q) (x) (y) ((↑q.length:Int)) (0))
def G67 (k:Nat) (q:List Pt) (x:Int) (y:Int):Option (Int):=T67 some (Sv k) q x y
theorem t67_2:∀ (k:Nat) (q:List Pt) (x:Int) (y:Int) (n:Int) (i:Int) (r:Int),Sv k q x y n i=some r→AY Tryz.prog Tryz.f67.results.toList (at_ Tryz.f67 2) (rN q x y n i) (F.int .i64 r)
 | 0,_,_,_,_,_,_,h=>nomatch h
 | k+1,q,x,y,n,i,r,h=>by
  refine AY.of_cut Ap Ig (T:=[(2,[0,3,7,8],1000)]) (n:=200) ?_
  refine gE (Y:=dO (fun r=>some (.ret (F.int .i64 r))) (fun q x y n i=>some (.cut (at_ Tryz.f67 2) (rN q x y n i))) q x y n i) (by kernel_rfl) ?_
  exact (gS h (fun _ h=>(gS h (fun _ h=>(gS h (fun _ h=>(gS h (fun _ h=>gR (by cases h;rfl)) (fun _ h=>gC (t67_2 k _ _ _ _ _ r h)))) gN)) gN)) (fun _ h=>gR (by cases h;rfl)))
theorem t67 (k:Nat) (q:List Pt) (x:Int) (y:Int) (r:Int) (h:G67 k q x y=some r):AY Tryz.prog Tryz.f67.results.toList [.code (AR Tryz.f67)] (start Tryz.f67.ntmps ([Am q,F.agg [F.int .i64 x,F.int .i64 y]].map .f)) (F.int .i64 r):=by
 refine AY.of_run Ap Ig (T:=[(2,[0,3,7,8],1000)]) (n:=200) ?_
 refine gE (Y:=T67 (fun r=>some (.ret (F.int .i64 r))) (fun q x y n i=>some (.cut (at_ Tryz.f67 2) (rN q x y n i))) q x y) (by kernel_rfl) ?_
 exact gC (t67_2 k _ _ _ _ _ r h)
def QC (x y:Int):List Pt→Nat→Int
 | [],_=>-1
 | p :: r,i=>bif x==p.x&&y==p.y then (i:Int) else QC x y r (i+1)
def ZT (q:List Pt) (x y:Int):Bool:=q.any fun p=>x==p.x&&y==p.y
theorem cK (x y:Int):∀ (r:List Pt) (i:Nat),decide (QC x y r i ≥ 0)=ZT r x y
 | [],i=>rfl
 | p :: r,i=>by
  unfold ZT QC
  rw [List.any_cons]
  cases x==p.x&&y==p.y with
  | true=>rw [cond_true,decide_eq_true (by omega)];rfl
  | false=>rw [cond_false,cK x y r (i+1)];rfl
theorem XA {q:List Pt} (hn:q.length≤1000) (x y:Int):∀ (d i k:Nat),i+d=q.length→d+1≤k→Sv k q x y q.length i=some (QC x y (q.drop i) i)
 | d,i,0,_,hk=>by omega
 | 0,i,k+1,hi,hk=>by
  rw [Sv]
  unfold dO
  rw [decide_eq_false (show ¬ (i:Int)<q.length by omega),List.drop_eq_nil_of_le (by omega)]
  rfl
 | d+1,i,k+1,hi,hk=>by
  have hlt:i<q.length:=by omega
  have hg:q.getD i Pt.zero=q[i]:=by simp [List.getD,List.getElem?_eq_getElem hlt]
  have wi:IntKind.i64.wrap ((i:Int)+1)=((i+1:Nat):Int):=by rw [Av (by omega) (by omega)];omega
  rw [Sv]
  unfold dO
  rw [decide_eq_true (show (i:Int)<q.length by omega),decide_eq_true (show (0:Int)≤i by omega),Int.toNat_natCast,hg,wi,XA hn x y d (i+1) k (by omega) (by omega),List.drop_eq_getElem_cons hlt,QC]
  simp only [AF,Bool.and_true]
  cases x==q[i].x&&y==q[i].y <;> rfl
def D1 (q:List Pt):Bool:=decide (q.length≤1000)
def NS:List F→Bool | [x,.agg [.int .i64 _,.int .i64 _]]=>C3 x&&D1 (BR x) | _=>false
def kT:List F→F | [x,.agg [.int .i64 a,.int .i64 b]]=>.int .i64 (QC a b (BR x) 0) | _=>.dflt
theorem okIdx:Ai Tryz.prog 67 NS kT :=
 Ae (c:=AR Tryz.f67) Tryz.func67 (by kernel_rfl) (by kernel_rfl) fun xs hp=>match xs,hp with
 | [x,.agg [.int .i64 a,.int .i64 b]],hp=>by
  simp only [NS,Bool.and_eq_true] at hp
  exact ⟨[Am (BR x),_],_,⟨(Dx hp.1).1,.refl _,trivial⟩,t67 2000 _ _ _ _ (by
   unfold G67 T67
   have h2:(BR x).length≤1000:=of_decide_eq_true hp.2
   exact XA h2 a b (BR x).length 0 2000 (by omega) (by omega)),.refl _⟩
/-! ### function 39 -/
def rS (q:List Pt) (n:Nat) (g:Nat→F) (m:Int) (i:Int):St:=⟨Ag 1 ((U.hp 0 0) :: Ag 1 ((U.hs 1 n 0 n) :: Ag 4 ((U.f (Am q)) :: (U.f (F.int .i64 m)) :: (U.f (F.int .i64 i)) :: Ag 21 []))),[HO.box [(U.f (Am q))],HO.arr 4 n g]⟩
def dW {ρ:Type} (ret:(F)→Option ρ) (c3:(List Pt)→(Nat)→(Nat→F)→(Int)→(Int)→Option ρ) (q:List Pt) (n:Nat) (g:Nat→F) (m:Int) (i:Int):Option ρ :=
 (AC (decide (i<m))
 (AC (decide (0≤i))
 (AC (decide (i<(↑q.length:Int)))
 (AC ((↑q.length:Int) != 0)
 (AC (decide (0≤(IntKind.i64.wrap (i+1)).tmod (↑q.length:Int)))
 (AC (decide ((IntKind.i64.wrap (i+1)).tmod (↑q.length:Int)<(↑q.length:Int)))
 (AC (decide (n=n))
 (AC (decide (n=n))
 (AC (decide ((↑(n+1):Int)*(((32:Nat):Int)+1)≤(↑BC:Int)))
 (c3 (q) (n+1) (fun j ↦ if j<n then g j else F.agg [F.int .i64 (DA { x:=(q.getD i.toNat Pt.zero).x,y:=(q.getD i.toNat Pt.zero).y } { x:=(q.getD ((IntKind.i64.wrap (i+1)).tmod (↑q.length:Int)).toNat Pt.zero).x,y:=(q.getD ((IntKind.i64.wrap (i+1)).tmod (↑q.length:Int)).toNat Pt.zero).y }).x0,F.int .i64 (DA { x:=(q.getD i.toNat Pt.zero).x,y:=(q.getD i.toNat Pt.zero).y } { x:=(q.getD ((IntKind.i64.wrap (i+1)).tmod (↑q.length:Int)).toNat Pt.zero).x,y:=(q.getD ((IntKind.i64.wrap (i+1)).tmod (↑q.length:Int)).toNat Pt.zero).y }).y0,F.int .i64 (DA { x:=(q.getD i.toNat Pt.zero).x,y:=(q.getD i.toNat Pt.zero).y } { x:=(q.getD ((IntKind.i64.wrap (i+1)).tmod (↑q.length:Int)).toNat Pt.zero).x,y:=(q.getD ((IntKind.i64.wrap (i+1)).tmod (↑q.length:Int)).toNat Pt.zero).y }).x1,F.int .i64 (DA { x:=(q.getD i.toNat Pt.zero).x,y:=(q.getD i.toNat Pt.zero).y } { x:=(q.getD ((IntKind.i64.wrap (i+1)).tmod (↑q.length:Int)).toNat Pt.zero).x,y:=(q.getD ((IntKind.i64.wrap (i+1)).tmod (↑q.length:Int)).toNat Pt.zero).y }).y1]) (m) (IntKind.i64.wrap (i+1)))
 none)
 none)
 none)
 none)
 none)
 none)
 none)
 none)
 (AC (decide (n=n))
 (ret (F.sl n g))
 none))
def Sy:Nat→(List Pt)→(Nat)→(Nat→F)→(Int)→(Int)→Option (F)
 | 0,_,_,_,_,_=>none
 | k+1,q,n,g,m,i=>dW some (Sy k) q n g m i
def T39 {ρ:Type} (ret:(F)→Option ρ) (c3:(List Pt)→(Nat)→(Nat→F)→(Int)→(Int)→Option ρ) (q:List Pt):Option ρ :=
 (c3 (q) (0) (Aj []) ((↑q.length:Int)) (0))
def G39 (k:Nat) (q:List Pt):Option (F):=T39 some (Sy k) q
theorem t39_3:∀ (k:Nat) (q:List Pt) (n:Nat) (g:Nat→F) (m:Int) (i:Int) (r:F),Sy k q n g m i=some r→AY Tryz.prog Tryz.f39.results.toList (at_ Tryz.f39 3) (rS q n g m i) (r)
 | 0,_,_,_,_,_,_,h=>nomatch h
 | k+1,q,n,g,m,i,r,h=>by
  refine AY.of_cut Ap Ig (T:=[(3,[1,3,8,9,10],1000)]) (n:=200) ?_
  refine gE (Y:=dW (fun r=>some (.ret (r))) (fun q n g m i=>some (.cut (at_ Tryz.f39 3) (rS q n g m i))) q n g m i) (by kernel_rfl) ?_
  exact (gS h (fun _ h=>(gS h (fun _ h=>(gS h (fun _ h=>(gS h (fun _ h=>(gS h (fun _ h=>(gS h (fun _ h=>(gS h (fun _ h=>(gS h (fun _ h=>(gS h (fun _ h=>gC (t39_3 k _ _ _ _ _ r h)) gN)) gN)) gN)) gN)) gN)) gN)) gN)) gN)) (fun _ h=>(gS h (fun _ h=>gR (by cases h;rfl)) gN)))
theorem t39 (k:Nat) (q:List Pt) (r:F) (h:G39 k q=some r):AY Tryz.prog Tryz.f39.results.toList [.code (AR Tryz.f39)] (start Tryz.f39.ntmps ([F.agg [Am q]].map .f)) (r):=by
 refine AY.of_run Ap Ig (T:=[(3,[1,3,8,9,10],1000)]) (n:=200) ?_
 refine gE (Y:=T39 (fun r=>some (.ret (r))) (fun q n g m i=>some (.cut (at_ Tryz.f39 3) (rS q n g m i))) q) (by kernel_rfl) ?_
 exact gC (t39_3 k _ _ _ _ _ r h)
theorem PU {q:List Pt} (hn:q.length≤1000):∀ (d i k:Nat) (g:Nat→F),i+d=q.length→d+1≤k→(∀ j,j<i→g j=sgF (AT q j))→∃ g',Sy k q i g q.length i=some (.sl q.length g')∧∀ j,j<q.length→g' j=sgF (AT q j)
 | d,i,0,_,_,hk,_=>by omega
 | 0,i,k+1,g,hi,hk,hg=>by
  obtain rfl:i=q.length:=by omega
  refine ⟨g,?_,hg⟩
  rw [Sy]
  unfold dW
  rw [decide_eq_false (by omega),decide_eq_true (show q.length=q.length from rfl)]
  rfl
 | d+1,i,k+1,g,hi,hk,hg=>by
  obtain ⟨c1,c2,c3,c4,c5,c6⟩:=Pw (n:=q.length) (i:=i) (by omega) hn
  have c7:decide (((i+1:Nat):Int)*(((32:Nat):Int)+1)≤(BC:Int))=true:=by rw [DL];exact decide_eq_true (by omega)
  rw [Sy]
  unfold dW
  simp only [c1,VY,c2,c3,c4,c5,c6,c7,Int.toNat_natCast,decide_true,AF,pt_eta]
  refine PU hn d (i+1) k _ (by omega) (by omega) fun j hj=>?_
  by_cases h:j<i
  ·rw [if_pos h,hg j h]
  ·obtain rfl:j=i:=by omega
   rw [if_neg h]
   rfl
def Pl:List F→Bool | [x]=>B4 x&&D1 (Ac x) | _=>false
def V6:List F→F | [x]=>BL (BZ (Ac x)) | _=>.dflt
theorem okSides:Ai Tryz.prog 39 Pl V6 :=
 Ae (c:=AR Tryz.f39) Tryz.func39 (by kernel_rfl) (by kernel_rfl) fun xs hp=>match xs,hp with
 | [x],hp=>by
  simp only [Pl,Bool.and_eq_true] at hp
  have h2:(Ac x).length≤1000:=of_decide_eq_true hp.2
  obtain ⟨g,e,hg⟩:=PU h2 (Ac x).length 0 2000 (Aj []) (by omega) (by omega) fun j hj=>by omega
  refine ⟨[C9 (Ac x)],_,⟨(Em hp.1).1,trivial⟩,t39 2000 _ _ e,?_⟩
  show FLe _ (BL (BZ (Ac x)))
  unfold BL slF
  rw [Dm]
  exact FLe.sl fun j hj=>by rw [hg j hj,GU _ hj]
def envK1:Env:=((envZ5.add 30 (.pure NO Rn)).add 67 (.pure NS kT)).add 39 (.pure Pl V6)
theorem Xe:Ax Tryz.prog envK1:=(Env.add_ok (Env.add_ok (Env.add_ok Ig lR.sp) okIdx.sp) okSides.sp)
end
noncomputable section
/-! ### function 38 -/
abbrev VL (ρ:Type):=(Bool)→Option ρ
def T38 {ρ:Type} (ret:VL ρ) (q:List Pt) (x:Int) (y:Int):Option ρ :=
 (AC (C3 (Am q)&&D1 (BR (Am q)))
 (ret (decide (QC x y (BR (Am q)) 0 ≥ 0)))
 none)
def G38 (q:List Pt) (x:Int) (y:Int):Option (Bool):=T38 some q x y
theorem t38 (q:List Pt) (x:Int) (y:Int) (b:Bool) (h:G38 q x y=some b):AY Tryz.prog Tryz.f38.results.toList [.code (AR Tryz.f38)] (start Tryz.f38.ntmps ([Am q,F.agg [F.int .i64 x,F.int .i64 y]].map .f)) (F.bool b):=by
 refine AY.of_run Ap Xe (T:=[]) (n:=200) ?_
 refine gE (Y:=T38 (fun b=>some (.ret (F.bool b))) q x y) (by kernel_rfl) ?_
 exact (gS h (fun _ h=>gR (by cases h;rfl)) gN)
def kU:List F→F | [x,.agg [.int .i64 a,.int .i64 b]]=>.bool (ZT (BR x) a b) | _=>.dflt
theorem okHas:Ai Tryz.prog 38 NS kU :=
 Ae (c:=AR Tryz.f38) Tryz.func38 (by kernel_rfl) (by kernel_rfl) fun xs hp=>match xs,hp with
 | [x,.agg [.int .i64 a,.int .i64 b]],hp=>by
  simp only [NS,Bool.and_eq_true] at hp
  exact ⟨[Am (BR x),_],_,⟨(Dx hp.1).1,.refl _,trivial⟩,t38 _ _ _ _ (by
   unfold G38 T38
   rw [GE,E6,hp.2,cK]
   rfl),.refl _⟩
def oT:Env:=envK1.add 38 (.pure NS kU)
theorem GI:Ax Tryz.prog oT:=(Env.add_ok Xe okHas.sp)
end
noncomputable section
set_option maxHeartbeats 1000000
theorem CM (q:List Pt):Ac (F.agg [Am q])=q:=E6 q
theorem Br (q:List Pt):B4 (F.agg [Am q])=true:=GE q
def k3 (s t:Sg):Int:=CX s.x0 s.y0 s.x1 s.y1 t.x0 t.y0 t.x1 t.y1
def kI (s t:Sg):Int:=Cb s.x0 s.y0 s.x1 s.y1 t.x0 t.y0 t.x1 t.y1
def okS (s:Sg):Bool:=BW s.x0 s.y0 s.x1 s.y1
theorem kI_3 {s t:Sg} (hs:okS s=true) (ht:okS t=true):kI s t=k3 s t:=cH hs ht
theorem nF {s t:Sg} (hs:okS s=true) (ht:okS t=true):k3 s t=0 ∨ k3 s t=1 ∨ k3 s t=2:=(IY hs ht).1
def LW (n i j:Nat):Bool:=decide (j+1=i) || (decide (j=0)&&decide (i+1=n))
def qH (m:Int) (nx:Bool):Bool:=bif nx then m != 1 else m != 0
def badI (m:Int) (nx:Bool):Bool:=m==2 || (m==1 && !nx)
def Bg (q:List Pt) (i j:Nat):Bool:=(q.getD i .zero).x==(q.getD j .zero).x&&(q.getD i .zero).y==(q.getD j .zero).y
def EX (q:List Pt) (i j:Nat):Bool:=qH (k3 (AT q i) (AT q j)) (LW q.length i j)
def HZ (q:List Pt) (i j:Nat):Bool:=badI (kI (AT q i) (AT q j)) (LW q.length i j)
def BK (h:Nat→Nat→Bool) (i d:Nat):Bool:=CK (fun i=>CK (fun j=>!h i j) 0 i) i d
def Ho (h:List Pt→Nat→Nat→Bool) (q:List Pt):Int :=
 bif decide (q.length<3) then 1 else bif decide (q.length > 12) then 2 else bif !(q.all fun p=>BQ p.x p.y) then 3 else bif !BK (Bg q) 0 q.length then 4 else bif !BK (h q) 0 q.length then 5 else 0
def CB (q:List Pt):Int:=Ho EX q
def Mr (q:List Pt):Int:=Ho HZ q
theorem Oy {h:Nat→Nat→Bool} {n:Nat}:BK h 0 n=true ↔ ∀ i,i<n→∀ j,j<i→h i j=false:=by
 unfold BK
 rw [DQ]
 constructor
 ·intro g i hi j hj
  have:=(DQ _ _ _).1 (g i (by omega) (by omega)) j (by omega) (by omega)
  simpa using this
 ·intro g i _ hi
  rw [DQ]
  intro j _ hj
  rw [g i (by omega) j (by omega)]
  rfl
structure RingIn (q:List Pt):Prop where
 low:3≤q.length
 high:q.length≤12
 spots:∀ p ∈ q,At p.x p.y
 unlike:∀ i,i<q.length→∀ j,j<i→q.getD i .zero ≠ q.getD j .zero
theorem Kk {q:List Pt} (h:RingIn q) {i j:Nat} (hi:i<q.length) (hj:j<q.length) (hij:i ≠ j):q.getD i .zero ≠ q.getD j .zero:=by
 rcases Nat.lt_or_ge j i with h1 | h1
 ·exact h.unlike i hi j h1
 ·exact fun e=>h.unlike j hj i (by omega) e.symm
theorem O5 {n i:Nat} (hi:i<n) (hn:3≤n):(i+1) % n ≠ i∧(i+1) % n<n:=by
 refine ⟨?_,Nat.mod_lt _ (by omega)⟩
 by_cases h:i+1=n
 ·rw [h,Nat.mod_self];omega
 ·rw [Nat.mod_eq_of_lt (by omega)];omega
theorem DY {q:List Pt} (h:RingIn q) {i:Nat} (hi:i<q.length):okS (AT q i)=true:=by
 obtain ⟨h1,h2⟩:=O5 hi h.low
 exact leg_ok (h.spots _ (Gy hi)) (h.spots _ (Gy h2)) (Kk h hi h2 (fun e=>h1 e.symm))
theorem same_ne {q:List Pt} {i j:Nat} (h:Bg q i j=false):q.getD i .zero ≠ q.getD j .zero:=fun e=>by
 unfold Bg at h
 rw [e,beq_self_eq_true,beq_self_eq_true] at h
 cases h
theorem Kq {q:List Pt} (h1:¬ q.length<3) (h2:¬ q.length > 12) (h3:(q.all fun p=>BQ p.x p.y)=true) (h4:BK (Bg q) 0 q.length=true):RingIn q :=
 ⟨by omega,by omega,fun p hp=>ET.1 (List.all_eq_true.1 h3 p hp),fun i hi j hj=>same_ne (Oy.1 h4 i hi j hj)⟩
/-! The reference. -/
/-! ### function 94 -/
def Qn (q:List Pt) (n:Int) (i:Int):St:=⟨Ag 1 ((U.hp 0 0) :: Ag 1 ((U.f (F.int .i64 n)) :: (U.f (F.int .i64 i)) :: Ag 96 [])),[HO.box [(U.f (Am q))]]⟩
def Lx (q:List Pt) (n:Int) (i:Int):St:=⟨Ag 1 ((U.hp 0 0) :: Ag 1 ((U.f (F.int .i64 n)) :: Ag 1 ((U.f (F.int .i64 i)) :: Ag 95 []))),[HO.box [(U.f (Am q))]]⟩
def Lw (q:List Pt) (n:Int) (i:Int) (j:Int):St:=⟨Ag 1 ((U.hp 0 0) :: Ag 1 ((U.f (F.int .i64 n)) :: Ag 1 ((U.f (F.int .i64 i)) :: (U.f (F.int .i64 j)) :: Ag 94 []))),[HO.box [(U.f (Am q))]]⟩
def Lv (q:List Pt) (n:Int) (i:Int):St:=⟨Ag 1 ((U.hp 0 0) :: Ag 1 ((U.f (F.int .i64 n)) :: Ag 3 ((U.f (F.int .i64 i)) :: Ag 93 []))),[HO.box [(U.f (Am q))]]⟩
def Lu (q:List Pt) (n:Int) (i:Int) (j:Int):St:=⟨Ag 1 ((U.hp 0 0) :: Ag 1 ((U.f (F.int .i64 n)) :: Ag 3 ((U.f (F.int .i64 i)) :: (U.f (F.int .i64 j)) :: Ag 92 []))),[HO.box [(U.f (Am q))]]⟩
abbrev Hh (ρ:Type):=(List Pt)→(Int)→(Int)→(Int)→Option ρ
abbrev Jm (ρ:Type):=(List Pt)→(Int)→(Int)→Option ρ
def dC {ρ:Type} (ret:L6 ρ) (c7:Jm ρ) (c12:Jm ρ) (c15:Hh ρ) (c20:Jm ρ) (c23:Hh ρ) (q:List Pt) (n:Int) (i:Int):Option ρ :=
 (AC (decide (i<n))
 (AC (decide (0≤i))
 (AC (decide (i<(↑q.length:Int)))
 (AC (!BQ (q.getD i.toNat Pt.zero).x (q.getD i.toNat Pt.zero).y)
 (ret (3))
 (c7 (q) (n) (IntKind.i64.wrap (i+1))))
 none)
 none)
 (c12 (q) (n) (0)))
def Tz {ρ:Type} (ret:L6 ρ) (c7:Jm ρ) (c12:Jm ρ) (c15:Hh ρ) (c20:Jm ρ) (c23:Hh ρ) (q:List Pt) (n:Int) (i:Int):Option ρ :=
 (AC (decide (i<n))
 (c15 (q) (n) (i) (0))
 (c20 (q) (n) (0)))
def Ty {ρ:Type} (ret:L6 ρ) (c7:Jm ρ) (c12:Jm ρ) (c15:Hh ρ) (c20:Jm ρ) (c23:Hh ρ) (q:List Pt) (n:Int) (i:Int) (j:Int):Option ρ :=
 (AC (decide (j<i))
 (AC (decide (0≤i))
 (AC (decide (i<(↑q.length:Int)))
 (AC (decide (0≤j))
 (AC (decide (j<(↑q.length:Int)))
 (AC ((q.getD i.toNat Pt.zero).x==(q.getD j.toNat Pt.zero).x&&((q.getD i.toNat Pt.zero).y==(q.getD j.toNat Pt.zero).y&&true))
 (ret (4))
 (c15 (q) (n) (i) (IntKind.i64.wrap (j+1))))
 none)
 none)
 none)
 none)
 (c12 (q) (n) (IntKind.i64.wrap (i+1))))
def Tx {ρ:Type} (ret:L6 ρ) (c7:Jm ρ) (c12:Jm ρ) (c15:Hh ρ) (c20:Jm ρ) (c23:Hh ρ) (q:List Pt) (n:Int) (i:Int):Option ρ :=
 (AC (decide (i<n))
 (c23 (q) (n) (i) (0))
 (ret (0)))
def Tw {ρ:Type} (ret:L6 ρ) (c7:Jm ρ) (c12:Jm ρ) (c15:Hh ρ) (c20:Jm ρ) (c23:Hh ρ) (q:List Pt) (n:Int) (i:Int) (j:Int):Option ρ :=
 (AC (decide (j<i))
 (AC (B4 (F.agg [Am q])&&Ta (Ac (F.agg [Am q])) i)
 (AC (B4 (F.agg [Am q])&&Ta (Ac (F.agg [Am q])) j)
 (AC (BW (AT (Ac (F.agg [Am q])) i.toNat).x0 (AT (Ac (F.agg [Am q])) i.toNat).y0 (AT (Ac (F.agg [Am q])) i.toNat).x1 (AT (Ac (F.agg [Am q])) i.toNat).y1&&BW (AT (Ac (F.agg [Am q])) j.toNat).x0 (AT (Ac (F.agg [Am q])) j.toNat).y0 (AT (Ac (F.agg [Am q])) j.toNat).x1 (AT (Ac (F.agg [Am q])) j.toNat).y1)
 (AC ((j==IntKind.i64.wrap (i-1))==false)
 (AC ((j==0)==true)
 (AC ((i==IntKind.i64.wrap (n-1))==true)
 (AC ((CX (AT (Ac (F.agg [Am q])) i.toNat).x0 (AT (Ac (F.agg [Am q])) i.toNat).y0 (AT (Ac (F.agg [Am q])) i.toNat).x1 (AT (Ac (F.agg [Am q])) i.toNat).y1 (AT (Ac (F.agg [Am q])) j.toNat).x0 (AT (Ac (F.agg [Am q])) j.toNat).y0 (AT (Ac (F.agg [Am q])) j.toNat).x1 (AT (Ac (F.agg [Am q])) j.toNat).y1 != 1)==false)
 (AC ((!i==IntKind.i64.wrap (n-1))==true)
 (AC (CX (AT (Ac (F.agg [Am q])) i.toNat).x0 (AT (Ac (F.agg [Am q])) i.toNat).y0 (AT (Ac (F.agg [Am q])) i.toNat).x1 (AT (Ac (F.agg [Am q])) i.toNat).y1 (AT (Ac (F.agg [Am q])) j.toNat).x0 (AT (Ac (F.agg [Am q])) j.toNat).y0 (AT (Ac (F.agg [Am q])) j.toNat).x1 (AT (Ac (F.agg [Am q])) j.toNat).y1 != 0)
 (ret (5))
 (c23 (q) (n) (i) (IntKind.i64.wrap (j+1))))
 (c23 (q) (n) (i) (IntKind.i64.wrap (j+1))))
 (ret (5)))
 (AC ((!i==IntKind.i64.wrap (n-1))==true)
 (AC (CX (AT (Ac (F.agg [Am q])) i.toNat).x0 (AT (Ac (F.agg [Am q])) i.toNat).y0 (AT (Ac (F.agg [Am q])) i.toNat).x1 (AT (Ac (F.agg [Am q])) i.toNat).y1 (AT (Ac (F.agg [Am q])) j.toNat).x0 (AT (Ac (F.agg [Am q])) j.toNat).y0 (AT (Ac (F.agg [Am q])) j.toNat).x1 (AT (Ac (F.agg [Am q])) j.toNat).y1 != 0)
 (ret (5))
 (c23 (q) (n) (i) (IntKind.i64.wrap (j+1))))
 (c23 (q) (n) (i) (IntKind.i64.wrap (j+1)))))
 (AC (CX (AT (Ac (F.agg [Am q])) i.toNat).x0 (AT (Ac (F.agg [Am q])) i.toNat).y0 (AT (Ac (F.agg [Am q])) i.toNat).x1 (AT (Ac (F.agg [Am q])) i.toNat).y1 (AT (Ac (F.agg [Am q])) j.toNat).x0 (AT (Ac (F.agg [Am q])) j.toNat).y0 (AT (Ac (F.agg [Am q])) j.toNat).x1 (AT (Ac (F.agg [Am q])) j.toNat).y1 != 0)
 (ret (5))
 (c23 (q) (n) (i) (IntKind.i64.wrap (j+1)))))
 (AC ((CX (AT (Ac (F.agg [Am q])) i.toNat).x0 (AT (Ac (F.agg [Am q])) i.toNat).y0 (AT (Ac (F.agg [Am q])) i.toNat).x1 (AT (Ac (F.agg [Am q])) i.toNat).y1 (AT (Ac (F.agg [Am q])) j.toNat).x0 (AT (Ac (F.agg [Am q])) j.toNat).y0 (AT (Ac (F.agg [Am q])) j.toNat).x1 (AT (Ac (F.agg [Am q])) j.toNat).y1 != 1)==false)
 (c23 (q) (n) (i) (IntKind.i64.wrap (j+1)))
 (ret (5))))
 none)
 none)
 none)
 (c20 (q) (n) (IntKind.i64.wrap (i+1))))
mutual
def LR:Nat→(List Pt)→(Int)→(Int)→Option (Int)
 | 0,_,_,_=>none
 | k+1,q,n,i=>dC some (LR k) (Gn k) (ID k) (Gm k) (IC k) q n i
 termination_by structural k=>k
def Gn:Nat→(List Pt)→(Int)→(Int)→Option (Int)
 | 0,_,_,_=>none
 | k+1,q,n,i=>Tz some (LR k) (Gn k) (ID k) (Gm k) (IC k) q n i
 termination_by structural k=>k
def ID:Nat→(List Pt)→(Int)→(Int)→(Int)→Option (Int)
 | 0,_,_,_,_=>none
 | k+1,q,n,i,j=>Ty some (LR k) (Gn k) (ID k) (Gm k) (IC k) q n i j
 termination_by structural k=>k
def Gm:Nat→(List Pt)→(Int)→(Int)→Option (Int)
 | 0,_,_,_=>none
 | k+1,q,n,i=>Tx some (LR k) (Gn k) (ID k) (Gm k) (IC k) q n i
 termination_by structural k=>k
def IC:Nat→(List Pt)→(Int)→(Int)→(Int)→Option (Int)
 | 0,_,_,_,_=>none
 | k+1,q,n,i,j=>Tw some (LR k) (Gn k) (ID k) (Gm k) (IC k) q n i j
 termination_by structural k=>k
end
def T94 {ρ:Type} (ret:L6 ρ) (c7:Jm ρ) (c12:Jm ρ) (c15:Hh ρ) (c20:Jm ρ) (c23:Hh ρ) (q:List Pt):Option ρ :=
 (AC (decide ((↑q.length:Int)<3))
 (ret (1))
 (AC (decide ((↑q.length:Int) > 12))
 (ret (2))
 (c7 (q) ((↑q.length:Int)) (0))))
def G94 (k:Nat) (q:List Pt):Option (Int):=T94 some (LR k) (Gn k) (ID k) (Gm k) (IC k) q
mutual
theorem t94_7:∀ (k:Nat) (q:List Pt) (n:Int) (i:Int) (r:Int),LR k q n i=some r→AY Tryz.prog Tryz.f94.results.toList (at_ Tryz.f94 7) (Qn q n i) (F.int .i64 r)
 | 0,_,_,_,_,h=>nomatch h
 | k+1,q,n,i,r,h=>by
  refine AY.of_cut Ap GI (T:=[(7,[1,3,4],1000),(12,[1,3,5],1000),(15,[1,3,5,6],1000),(20,[1,3,7],1000),(23,[1,3,7,8],1000)]) (n:=200) ?_
  refine gE (Y:=dC (fun r=>some (.ret (F.int .i64 r))) (fun q n i=>some (.cut (at_ Tryz.f94 7) (Qn q n i))) (fun q n i=>some (.cut (at_ Tryz.f94 12) (Lx q n i))) (fun q n i j=>some (.cut (at_ Tryz.f94 15) (Lw q n i j))) (fun q n i=>some (.cut (at_ Tryz.f94 20) (Lv q n i))) (fun q n i j=>some (.cut (at_ Tryz.f94 23) (Lu q n i j))) q n i) (by kernel_rfl) ?_
  exact (gS h (fun _ h=>(gS h (fun _ h=>(gS h (fun _ h=>(gS h (fun _ h=>gR (by cases h;rfl)) (fun _ h=>gC (t94_7 k _ _ _ r h)))) gN)) gN)) (fun _ h=>gC (jJ k _ _ _ r h)))
theorem jJ:∀ (k:Nat) (q:List Pt) (n:Int) (i:Int) (r:Int),Gn k q n i=some r→AY Tryz.prog Tryz.f94.results.toList (at_ Tryz.f94 12) (Lx q n i) (F.int .i64 r)
 | 0,_,_,_,_,h=>nomatch h
 | k+1,q,n,i,r,h=>by
  refine AY.of_cut Ap GI (T:=[(7,[1,3,4],1000),(12,[1,3,5],1000),(15,[1,3,5,6],1000),(20,[1,3,7],1000),(23,[1,3,7,8],1000)]) (n:=200) ?_
  refine gE (Y:=Tz (fun r=>some (.ret (F.int .i64 r))) (fun q n i=>some (.cut (at_ Tryz.f94 7) (Qn q n i))) (fun q n i=>some (.cut (at_ Tryz.f94 12) (Lx q n i))) (fun q n i j=>some (.cut (at_ Tryz.f94 15) (Lw q n i j))) (fun q n i=>some (.cut (at_ Tryz.f94 20) (Lv q n i))) (fun q n i j=>some (.cut (at_ Tryz.f94 23) (Lu q n i j))) q n i) (by kernel_rfl) ?_
  exact (gS h (fun _ h=>gC (jI k _ _ _ _ r h)) (fun _ h=>gC (jH k _ _ _ r h)))
theorem jI:∀ (k:Nat) (q:List Pt) (n:Int) (i:Int) (j:Int) (r:Int),ID k q n i j=some r→AY Tryz.prog Tryz.f94.results.toList (at_ Tryz.f94 15) (Lw q n i j) (F.int .i64 r)
 | 0,_,_,_,_,_,h=>nomatch h
 | k+1,q,n,i,j,r,h=>by
  refine AY.of_cut Ap GI (T:=[(7,[1,3,4],1000),(12,[1,3,5],1000),(15,[1,3,5,6],1000),(20,[1,3,7],1000),(23,[1,3,7,8],1000)]) (n:=200) ?_
  refine gE (Y:=Ty (fun r=>some (.ret (F.int .i64 r))) (fun q n i=>some (.cut (at_ Tryz.f94 7) (Qn q n i))) (fun q n i=>some (.cut (at_ Tryz.f94 12) (Lx q n i))) (fun q n i j=>some (.cut (at_ Tryz.f94 15) (Lw q n i j))) (fun q n i=>some (.cut (at_ Tryz.f94 20) (Lv q n i))) (fun q n i j=>some (.cut (at_ Tryz.f94 23) (Lu q n i j))) q n i j) (by kernel_rfl) ?_
  exact (gS h (fun _ h=>(gS h (fun _ h=>(gS h (fun _ h=>(gS h (fun _ h=>(gS h (fun _ h=>(gS h (fun _ h=>gR (by cases h;rfl)) (fun _ h=>gC (jI k _ _ _ _ r h)))) gN)) gN)) gN)) gN)) (fun _ h=>gC (jJ k _ _ _ r h)))
theorem jH:∀ (k:Nat) (q:List Pt) (n:Int) (i:Int) (r:Int),Gm k q n i=some r→AY Tryz.prog Tryz.f94.results.toList (at_ Tryz.f94 20) (Lv q n i) (F.int .i64 r)
 | 0,_,_,_,_,h=>nomatch h
 | k+1,q,n,i,r,h=>by
  refine AY.of_cut Ap GI (T:=[(7,[1,3,4],1000),(12,[1,3,5],1000),(15,[1,3,5,6],1000),(20,[1,3,7],1000),(23,[1,3,7,8],1000)]) (n:=200) ?_
  refine gE (Y:=Tx (fun r=>some (.ret (F.int .i64 r))) (fun q n i=>some (.cut (at_ Tryz.f94 7) (Qn q n i))) (fun q n i=>some (.cut (at_ Tryz.f94 12) (Lx q n i))) (fun q n i j=>some (.cut (at_ Tryz.f94 15) (Lw q n i j))) (fun q n i=>some (.cut (at_ Tryz.f94 20) (Lv q n i))) (fun q n i j=>some (.cut (at_ Tryz.f94 23) (Lu q n i j))) q n i) (by kernel_rfl) ?_
  exact (gS h (fun _ h=>gC (LU k _ _ _ _ r h)) (fun _ h=>gR (by cases h;rfl)))
theorem LU:∀ (k:Nat) (q:List Pt) (n:Int) (i:Int) (j:Int) (r:Int),IC k q n i j=some r→AY Tryz.prog Tryz.f94.results.toList (at_ Tryz.f94 23) (Lu q n i j) (F.int .i64 r)
 | 0,_,_,_,_,_,h=>nomatch h
 | k+1,q,n,i,j,r,h=>by
  refine AY.of_cut Ap GI (T:=[(7,[1,3,4],1000),(12,[1,3,5],1000),(15,[1,3,5,6],1000),(20,[1,3,7],1000),(23,[1,3,7,8],1000)]) (n:=200) ?_
  refine gE (Y:=Tw (fun r=>some (.ret (F.int .i64 r))) (fun q n i=>some (.cut (at_ Tryz.f94 7) (Qn q n i))) (fun q n i=>some (.cut (at_ Tryz.f94 12) (Lx q n i))) (fun q n i j=>some (.cut (at_ Tryz.f94 15) (Lw q n i j))) (fun q n i=>some (.cut (at_ Tryz.f94 20) (Lv q n i))) (fun q n i j=>some (.cut (at_ Tryz.f94 23) (Lu q n i j))) q n i j) (by kernel_rfl) ?_
  exact (gS h (fun _ h=>(gS h (fun _ h=>(gS h (fun _ h=>(gS h (fun _ h=>(gS h (fun _ h=>(gS h (fun _ h=>(gS h (fun _ h=>(gS h (fun _ h=>(gS h (fun _ h=>(gS h (fun _ h=>gR (by cases h;rfl)) (fun _ h=>gC (LU k _ _ _ _ r h)))) (fun _ h=>gC (LU k _ _ _ _ r h)))) (fun _ h=>gR (by cases h;rfl)))) (fun _ h=>(gS h (fun _ h=>(gS h (fun _ h=>gR (by cases h;rfl)) (fun _ h=>gC (LU k _ _ _ _ r h)))) (fun _ h=>gC (LU k _ _ _ _ r h)))))) (fun _ h=>(gS h (fun _ h=>gR (by cases h;rfl)) (fun _ h=>gC (LU k _ _ _ _ r h)))))) (fun _ h=>(gS h (fun _ h=>gC (LU k _ _ _ _ r h)) (fun _ h=>gR (by cases h;rfl)))))) gN)) gN)) gN)) (fun _ h=>gC (jH k _ _ _ r h)))
end
theorem t94 (k:Nat) (q:List Pt) (r:Int) (h:G94 k q=some r):AY Tryz.prog Tryz.f94.results.toList [.code (AR Tryz.f94)] (start Tryz.f94.ntmps ([F.agg [Am q]].map .f)) (F.int .i64 r):=by
 refine AY.of_run Ap GI (T:=[(7,[1,3,4],1000),(12,[1,3,5],1000),(15,[1,3,5,6],1000),(20,[1,3,7],1000),(23,[1,3,7,8],1000)]) (n:=200) ?_
 refine gE (Y:=T94 (fun r=>some (.ret (F.int .i64 r))) (fun q n i=>some (.cut (at_ Tryz.f94 7) (Qn q n i))) (fun q n i=>some (.cut (at_ Tryz.f94 12) (Lx q n i))) (fun q n i j=>some (.cut (at_ Tryz.f94 15) (Lw q n i j))) (fun q n i=>some (.cut (at_ Tryz.f94 20) (Lv q n i))) (fun q n i j=>some (.cut (at_ Tryz.f94 23) (Lu q n i j))) q) (by kernel_rfl) ?_
 exact (gS h (fun _ h=>gR (by cases h;rfl)) (fun _ h=>(gS h (fun _ h=>gR (by cases h;rfl)) (fun _ h=>gC (t94_7 k _ _ _ r h)))))
theorem cE {n i j:Nat} (hn:n≤12) (hi:i<n) (hj:j<i):(((j:Int)==IntKind.i64.wrap ((i:Int)-1))=decide (j+1=i))∧(((j:Int)==0)=decide (j=0))∧(((i:Int)==IntKind.i64.wrap ((n:Int)-1))=decide (i+1=n)):=by
 rw [Av (by omega) (by omega),Av (by omega) (by omega)]
 refine ⟨?_,?_,?_⟩ <;> (rw [Bool.eq_iff_iff,beq_iff_eq,decide_eq_true_eq];omega)
theorem Ri {q:List Pt} (h:RingIn q) {i:Nat} (hi:i<q.length) {R:Int} {K:Nat} (hout:∀ k,K≤k→Gm k q q.length ((i+1:Nat):Int)=some R) :
  ∀ (d j k:Nat),j+d=i→d+1+K≤k→IC k q q.length i j=some (bif CK (fun j=>!EX q i j) j d then R else 5)
 | d,j,0,_,hk=>by omega
 | 0,j,k+1,hj,hk=>by
  have:=h.high
  rw [IC]
  unfold Tw
  rw [decide_eq_false (show ¬ (j:Int)<i by omega),AJ,Av (by omega) (by omega),show (i:Int)+1=((i+1:Nat):Int) by omega,hout k (by omega)]
  rfl
 | d+1,j,k+1,hj,hk=>by
  have hh:=h.high
  have ih:=Ri h hi hout d (j+1) k (by omega) (by omega)
  have wj:IntKind.i64.wrap ((j:Int)+1)=((j+1:Nat):Int):=by rw [Av (by omega) (by omega)];omega
  have si:=DY h hi
  have sj:=DY h (show j<q.length by omega)
  unfold okS at si sj
  obtain ⟨n1,n2,n3⟩:=cE h.high hi (show j<i by omega)
  have hc:EX q i j=qH (CX (AT q i).x0 (AT q i).y0 (AT q i).x1 (AT q i).y1 (AT q j).x0 (AT q j).y0 (AT q j).x1 (AT q j).y1) (decide (j+1=i) || (decide (j=0)&&decide (i+1=q.length))):=rfl
  rw [IC]
  unfold Tw
  simp only [decide_eq_true (show (j:Int)<i by omega),CM,Br,Ic.2 ⟨⟨show (0:Int)≤i by omega,show (i:Int)<q.length by omega⟩,show q.length≤1000 by omega⟩,Ic.2 ⟨⟨show (0:Int)≤j by omega,show (j:Int)<q.length by omega⟩,show q.length≤1000 by omega⟩,Int.toNat_natCast,si,sj,n1,n2,n3,wj,ih,Bool.and_self,AF]
  rw [Ck,hc]
  unfold qH
  cases decide (j+1=i) <;> cases decide (j=0) <;> cases decide (i+1=q.length) <;> cases (CX (AT q i).x0 (AT q i).y0 (AT q i).x1 (AT q i).y1 (AT q j).x0 (AT q j).y0 (AT q j).x1 (AT q j).y1 != 1) <;> cases (CX (AT q i).x0 (AT q i).y0 (AT q i).x1 (AT q i).y1 (AT q j).x0 (AT q j).y0 (AT q j).x1 (AT q j).y1 != 0) <;> rfl
theorem Rj {q:List Pt} (h:RingIn q):∀ (d i k:Nat),i+d=q.length→15*d+1≤k→Gm k q q.length i=some (bif BK (EX q) i d then 0 else 5)
 | d,i,0,_,hk=>by omega
 | 0,i,k+1,hi,hk=>by
  rw [Gm]
  unfold Tx
  rw [decide_eq_false (show ¬ (i:Int)<q.length by omega)]
  rfl
 | d+1,i,k+1,hi,hk=>by
  have:=h.high
  have ih:=Ri h (i:=i) (by omega) (K:=15*d+1) (fun k hk=>Rj h d (i+1) k (by omega) hk) i 0 k (by omega) (by omega)
  rw [Gm]
  unfold Tx
  rw [decide_eq_true (show (i:Int)<q.length by omega),AF]
  refine ih.trans ?_
  unfold BK
  rw [Ck]
  cases CK (fun j=>!EX q i j) 0 i <;> rfl
theorem Rk {q:List Pt} (hn:q.length≤12) {i:Nat} (hi:i<q.length) {R:Int} {K:Nat} (hout:CK (fun j=>!Bg q i j) 0 i=true→∀ k,K≤k→Gn k q q.length ((i+1:Nat):Int)=some R) :
  ∀ (d j k:Nat),j+d=i→d+1+K≤k→CK (fun j=>!Bg q i j) 0 i=CK (fun j=>!Bg q i j) j d→ID k q q.length i j=some (bif CK (fun j=>!Bg q i j) j d then R else 4)
 | d,j,0,_,hk,_=>by omega
 | 0,j,k+1,hj,hk,he=>by
  rw [ID]
  unfold Ty
  rw [decide_eq_false (show ¬ (j:Int)<i by omega),AJ,Av (by omega) (by omega),show (i:Int)+1=((i+1:Nat):Int) by omega,hout he k (by omega)]
  rfl
 | d+1,j,k+1,hj,hk,he=>by
  have wj:IntKind.i64.wrap ((j:Int)+1)=((j+1:Nat):Int):=by rw [Av (by omega) (by omega)];omega
  have hs:Bg q i j=((q.getD i .zero).x==(q.getD j .zero).x&&(q.getD i .zero).y==(q.getD j .zero).y):=rfl
  rw [ID]
  unfold Ty
  simp only [decide_eq_true (show (j:Int)<i by omega),decide_eq_true (show (0:Int)≤i by omega),decide_eq_true (show (i:Int)<q.length by omega),decide_eq_true (show (0:Int)≤j by omega),decide_eq_true (show (j:Int)<q.length by omega),Int.toNat_natCast,wj,Bool.and_true,AF]
  rw [← hs]
  rw [Ck] at he ⊢
  cases hc:Bg q i j with
  | true=>rfl
  | false =>
   rw [hc] at he
   rw [AJ,Rk hn hi hout d (j+1) k (by omega) (by omega) he]
   rfl
theorem Rl {q:List Pt} (hn:q.length≤12) {R:Int} {K:Nat} (hout:BK (Bg q) 0 q.length=true→∀ k,K≤k→Gm k q q.length 0=some R) :
  ∀ (d i k:Nat),i+d=q.length→15*d+1+K≤k→(BK (Bg q) i d=true→BK (Bg q) 0 q.length=true)→Gn k q q.length i=some (bif BK (Bg q) i d then R else 4)
 | d,i,0,_,hk,_=>by omega
 | 0,i,k+1,hi,hk,he=>by
  rw [Gn]
  unfold Tz
  rw [decide_eq_false (show ¬ (i:Int)<q.length by omega),AJ,hout (he rfl) k (by omega)]
  rfl
 | d+1,i,k+1,hi,hk,he=>by
  have cut:BK (Bg q) i (d+1)=(CK (fun j=>!Bg q i j) 0 i&&BK (Bg q) (i+1) d):=rfl
  have ih:=Rk hn (i:=i) (by omega) (R:=bif BK (Bg q) (i+1) d then R else 4) (K:=15*d+1+K) (fun hc k hk=>Rl hn hout d (i+1) k (by omega) hk fun ht=>he (by rw [cut,hc,ht];rfl)) i 0 k (by omega) (by omega) rfl
  rw [Gn]
  unfold Tz
  rw [decide_eq_true (show (i:Int)<q.length by omega),AF,cut]
  refine ih.trans ?_
  cases CK (fun j=>!Bg q i j) 0 i <;> rfl
theorem V0 {q:List Pt} (hn:q.length≤12) {R:Int} {K:Nat} (hout:(q.all fun p=>BQ p.x p.y)=true→∀ k,K≤k→Gn k q q.length 0=some R) :
  ∀ (d i k:Nat),i+d=q.length→d+1+K≤k→((q.drop i).all (fun p=>BQ p.x p.y)=true→(q.all fun p=>BQ p.x p.y)=true)→LR k q q.length i=some (bif (q.drop i).all fun p=>BQ p.x p.y then R else 3)
 | d,i,0,_,hk,_=>by omega
 | 0,i,k+1,hi,hk,he=>by
  rw [List.drop_eq_nil_of_le (by omega)] at he ⊢
  rw [LR]
  unfold dC
  rw [decide_eq_false (show ¬ (i:Int)<q.length by omega),AJ,hout (he rfl) k (by omega)]
  rfl
 | d+1,i,k+1,hi,hk,he=>by
  have hlt:i<q.length:=by omega
  have hg:q.getD i Pt.zero=q[i]:=by simp [List.getD,List.getElem?_eq_getElem hlt]
  rw [List.drop_eq_getElem_cons hlt,List.all_cons] at he ⊢
  rw [LR]
  unfold dC
  rw [decide_eq_true (show (i:Int)<q.length by omega),decide_eq_true (show (0:Int)≤i by omega),Int.toNat_natCast,hg,Av (by omega) (by omega),show (i:Int)+1=((i+1:Nat):Int) by omega]
  simp only [AF]
  cases ho:BQ q[i].x q[i].y with
  | false=>rfl
  | true =>
   rw [Bool.not_true,AJ,V0 hn hout d (i+1) k (by omega) (by omega) fun ht=>he (by rw [ho,ht];rfl)]
   rfl
theorem ZW (q:List Pt):G94 600 q=some (CB q):=by
 unfold G94 T94 CB Ho
 by_cases h1:q.length<3
 ·rw [decide_eq_true (show (q.length:Int)<3 by omega),decide_eq_true h1];rfl
 ·by_cases h2:q.length > 12
  ·rw [decide_eq_false (show ¬ (q.length:Int)<3 by omega),decide_eq_false h1,decide_eq_true (show (q.length:Int) > 12 by omega),decide_eq_true h2];rfl
  ·rw [decide_eq_false (show ¬ (q.length:Int)<3 by omega),decide_eq_false h1,decide_eq_false (show ¬ (q.length:Int) > 12 by omega),decide_eq_false h2]
   have:=V0 (q:=q) (by omega) (R:=bif BK (Bg q) 0 q.length then (bif BK (EX q) 0 q.length then 0 else 5) else 4) (K:=400) (fun h3 k hk=>Rl (by omega) (R:=bif BK (EX q) 0 q.length then 0 else 5) (K:=190) (fun h4 k hk=>Rj (Kq h1 h2 h3 h4) q.length 0 k (by omega) (by omega)) q.length 0 k (by omega) (by omega) id) q.length 0 600 (by omega) (by omega) id
   refine this.trans ?_
   rw [List.drop_zero]
   cases (q.all fun p=>BQ p.x p.y) <;> cases BK (Bg q) 0 q.length <;> cases BK (EX q) 0 q.length <;> rfl
def bQ:List F→Bool | [x]=>B4 x | _=>false
def Rr:List F→F | [x]=>.int .i64 (CB (Ac x)) | _=>.dflt
theorem mC:Ai Tryz.prog 94 bQ Rr :=
 Ae (c:=AR Tryz.f94) Tryz.func94 (by kernel_rfl) (by kernel_rfl) fun xs hp=>match xs,hp with
 | [x],hp=>⟨[C9 (Ac x)],_,⟨(Em hp).1,trivial⟩,t94 600 _ _ (ZW _),.refl _⟩
def envK2:Env:=oT.add 94 (.pure bQ Rr)
theorem Ij:Ax Tryz.prog envK2:=(Env.add_ok GI mC.sp)
end
noncomputable section
set_option maxHeartbeats 1000000
/-! ### function 17 -/
def Sl (q:List Pt) (n:Int) (i:Int) (m:Int):St:=⟨Ag 1 ((U.hp 0 0) :: Ag 1 ((U.f (F.int .i64 n)) :: Ag 23 ((U.f (Am q)) :: (U.f (F.int .i64 m)) :: (U.f (F.int .i64 i)) :: Ag 73 []))),[HO.box [(U.f (Am q))]]⟩
def N5 (q:List Pt) (n:Int) (i:Int) (m:Int):St:=⟨Ag 1 ((U.hp 0 0) :: Ag 1 ((U.f (F.int .i64 n)) :: Ag 34 ((U.f (Am q)) :: (U.f (F.int .i64 m)) :: (U.f (F.int .i64 i)) :: Ag 62 []))),[HO.box [(U.f (Am q))]]⟩
def N4 (l:List Sg) (n:Int) (m:Int) (i:Int):St:=⟨Ag 3 ((U.f (F.int .i64 n)) :: Ag 4 ((U.f (BL l)) :: Ag 45 ((U.f (BL l)) :: (U.f (F.int .i64 m)) :: (U.f (F.int .i64 i)) :: Ag 46 []))),[]⟩
def N3 (l:List Sg) (n:Int) (m:Int) (i:Int) (a:Int) (b:Int) (c:Int) (d:Int) (w:Nat) (u:Int) (j:Int):St:=⟨Ag 3 ((U.f (F.int .i64 n)) :: Ag 4 ((U.f (BL l)) :: (U.f (F.int .i64 i)) :: (U.hp 0 0) :: Ag 43 ((U.f (BL l)) :: (U.f (F.int .i64 m)) :: (U.f (F.int .i64 i)) :: Ag 6 ((U.f (F.sl w fun o=>F.agg [F.int .i64 (l.getD (0+o) Sg.zero).x0,F.int .i64 (l.getD (0+o) Sg.zero).y0,F.int .i64 (l.getD (0+o) Sg.zero).x1,F.int .i64 (l.getD (0+o) Sg.zero).y1])) :: (U.f (F.int .i64 u)) :: (U.f (F.int .i64 j)) :: Ag 37 [])))),[HO.box [(U.f (F.int .i64 a)),(U.f (F.int .i64 b)),(U.f (F.int .i64 c)),(U.f (F.int .i64 d))]]⟩
abbrev rY (ρ:Type):=(List Sg)→(Int)→(Int)→(Int)→(Int)→(Int)→(Int)→(Int)→(Nat)→(Int)→(Int)→Option ρ
abbrev rX (ρ:Type):=(List Sg)→(Int)→(Int)→(Int)→Option ρ
def eB {ρ:Type} (ret:L6 ρ) (c7:Hh ρ) (c13:Hh ρ) (c20:rX ρ) (c23:rY ρ) (q:List Pt) (n:Int) (i:Int) (m:Int):Option ρ :=
 (AC (decide (i<m))
 (AC (decide (0≤i))
 (AC (decide (i<(↑q.length:Int)))
 (AC (!BQ (q.getD i.toNat Pt.zero).x (q.getD i.toNat Pt.zero).y)
 (ret (3))
 (c7 (q) (n) (IntKind.i64.wrap (i+1)) (m)))
 none)
 none)
 (c13 (q) (n) (0) ((↑q.length:Int))))
def VE {ρ:Type} (ret:L6 ρ) (c7:Hh ρ) (c13:Hh ρ) (c20:rX ρ) (c23:rY ρ) (q:List Pt) (n:Int) (i:Int) (m:Int):Option ρ :=
 (AC (decide (i<m))
 (AC (decide (0≤i))
 (AC (decide (i<(↑q.length:Int)))
 (AC (decide (0≤i))
 (AC (decide (i≤(↑q.length:Int)))
 (AC (C3 (F.sl (i.toNat-Int.toNat 0) fun j ↦ ptF (q.getD (Int.toNat 0+j) Pt.zero))&&D1 (BR (F.sl (i.toNat-Int.toNat 0) fun j ↦ ptF (q.getD (Int.toNat 0+j) Pt.zero))))
 (AC (ZT (BR (F.sl (i.toNat-Int.toNat 0) fun j ↦ ptF (q.getD (Int.toNat 0+j) Pt.zero))) (q.getD i.toNat Pt.zero).x (q.getD i.toNat Pt.zero).y)
 (ret (4))
 (c13 (q) (n) (IntKind.i64.wrap (i+1)) (m)))
 none)
 none)
 none)
 none)
 none)
 (AC (B4 (F.agg [Am q])&&D1 (Ac (F.agg [Am q])))
 (c20 (BZ (Ac (F.agg [Am q]))) (n) ((↑(BZ (Ac (F.agg [Am q]))).length:Int)) (0))
 none))
def VD {ρ:Type} (ret:L6 ρ) (c7:Hh ρ) (c13:Hh ρ) (c20:rX ρ) (c23:rY ρ) (l:List Sg) (n:Int) (m:Int) (i:Int):Option ρ :=
 (AC (decide (i<m))
 (AC (decide (0≤i))
 (AC (decide (i<(↑l.length:Int)))
 (AC (decide (0≤i))
 (AC (decide (i≤(↑l.length:Int)))
 (c23 (l) (n) (m) (i) ((l.getD i.toNat Sg.zero).x0) ((l.getD i.toNat Sg.zero).y0) ((l.getD i.toNat Sg.zero).x1) ((l.getD i.toNat Sg.zero).y1) (i.toNat-0) ((↑(i.toNat-Int.toNat 0):Int)) (0))
 none)
 none)
 none)
 none)
 (ret (0)))
def VC {ρ:Type} (ret:L6 ρ) (c7:Hh ρ) (c13:Hh ρ) (c20:rX ρ) (c23:rY ρ) (l:List Sg) (n:Int) (m:Int) (i:Int) (a:Int) (b:Int) (c:Int) (d:Int) (w:Nat) (u:Int) (j:Int):Option ρ :=
 (AC (decide (j<u))
 (AC (decide (0≤j))
 (AC (decide (j<(↑w:Int)))
 (AC (BW a b c d&&BW (l.getD (0+j.toNat) Sg.zero).x0 (l.getD (0+j.toNat) Sg.zero).y0 (l.getD (0+j.toNat) Sg.zero).x1 (l.getD (0+j.toNat) Sg.zero).y1)
 (AC ((j==IntKind.i64.wrap (i-1))==false)
 (AC ((j==0)==true)
 (AC ((Cb a b c d (l.getD (0+j.toNat) Sg.zero).x0 (l.getD (0+j.toNat) Sg.zero).y0 (l.getD (0+j.toNat) Sg.zero).x1 (l.getD (0+j.toNat) Sg.zero).y1==2)==false)
 (AC ((Cb a b c d (l.getD (0+j.toNat) Sg.zero).x0 (l.getD (0+j.toNat) Sg.zero).y0 (l.getD (0+j.toNat) Sg.zero).x1 (l.getD (0+j.toNat) Sg.zero).y1==1)==true)
 (AC (!i==IntKind.i64.wrap (n-1))
 (ret (5))
 (c23 (l) (n) (m) (i) (a) (b) (c) (d) (w) (u) (IntKind.i64.wrap (j+1))))
 (c23 (l) (n) (m) (i) (a) (b) (c) (d) (w) (u) (IntKind.i64.wrap (j+1))))
 (ret (5)))
 (AC ((Cb a b c d (l.getD (0+j.toNat) Sg.zero).x0 (l.getD (0+j.toNat) Sg.zero).y0 (l.getD (0+j.toNat) Sg.zero).x1 (l.getD (0+j.toNat) Sg.zero).y1==2)==false)
 (AC ((Cb a b c d (l.getD (0+j.toNat) Sg.zero).x0 (l.getD (0+j.toNat) Sg.zero).y0 (l.getD (0+j.toNat) Sg.zero).x1 (l.getD (0+j.toNat) Sg.zero).y1==1)==true)
 (ret (5))
 (c23 (l) (n) (m) (i) (a) (b) (c) (d) (w) (u) (IntKind.i64.wrap (j+1))))
 (ret (5))))
 (AC ((Cb a b c d (l.getD (0+j.toNat) Sg.zero).x0 (l.getD (0+j.toNat) Sg.zero).y0 (l.getD (0+j.toNat) Sg.zero).x1 (l.getD (0+j.toNat) Sg.zero).y1==2)==false)
 (AC ((Cb a b c d (l.getD (0+j.toNat) Sg.zero).x0 (l.getD (0+j.toNat) Sg.zero).y0 (l.getD (0+j.toNat) Sg.zero).x1 (l.getD (0+j.toNat) Sg.zero).y1==1)==true)
 (c23 (l) (n) (m) (i) (a) (b) (c) (d) (w) (u) (IntKind.i64.wrap (j+1)))
 (c23 (l) (n) (m) (i) (a) (b) (c) (d) (w) (u) (IntKind.i64.wrap (j+1))))
 (ret (5))))
 none)
 none)
 none)
 (c20 (l) (n) (m) (IntKind.i64.wrap (i+1))))
mutual
def M8:Nat→(List Pt)→(Int)→(Int)→(Int)→Option (Int)
 | 0,_,_,_,_=>none
 | k+1,q,n,i,m=>eB some (M8 k) (IG k) (He k) (Ja k) q n i m
 termination_by structural k=>k
def IG:Nat→(List Pt)→(Int)→(Int)→(Int)→Option (Int)
 | 0,_,_,_,_=>none
 | k+1,q,n,i,m=>VE some (M8 k) (IG k) (He k) (Ja k) q n i m
 termination_by structural k=>k
def He:Nat→(List Sg)→(Int)→(Int)→(Int)→Option (Int)
 | 0,_,_,_,_=>none
 | k+1,l,n,m,i=>VD some (M8 k) (IG k) (He k) (Ja k) l n m i
 termination_by structural k=>k
def Ja:Nat→(List Sg)→(Int)→(Int)→(Int)→(Int)→(Int)→(Int)→(Int)→(Nat)→(Int)→(Int)→Option (Int)
 | 0,_,_,_,_,_,_,_,_,_,_,_=>none
 | k+1,l,n,m,i,a,b,c,d,w,u,j=>VC some (M8 k) (IG k) (He k) (Ja k) l n m i a b c d w u j
 termination_by structural k=>k
end
def T17 {ρ:Type} (ret:L6 ρ) (c7:Hh ρ) (c13:Hh ρ) (c20:rX ρ) (c23:rY ρ) (q:List Pt):Option ρ :=
 (AC (decide ((↑q.length:Int)<3))
 (ret (1))
 (AC (decide ((↑q.length:Int) > 12))
 (ret (2))
 (c7 (q) ((↑q.length:Int)) (0) ((↑q.length:Int)))))
def G17 (k:Nat) (q:List Pt):Option (Int):=T17 some (M8 k) (IG k) (He k) (Ja k) q
mutual
theorem t17_7:∀ (k:Nat) (q:List Pt) (n:Int) (i:Int) (m:Int) (r:Int),M8 k q n i m=some r→AY Tryz.prog Tryz.f17.results.toList (at_ Tryz.f17 7) (Sl q n i m) (F.int .i64 r)
 | 0,_,_,_,_,_,h=>nomatch h
 | k+1,q,n,i,m,r,h=>by
  refine AY.of_cut Ap Ij (T:=[(7,[1,3,27,28,29],1000),(13,[1,3,38,39,40],1000),(20,[3,8,54,55,56],1000),(23,[3,8,9,10,54,55,56,63,64,65],1000)]) (n:=200) ?_
  refine gE (Y:=eB (fun r=>some (.ret (F.int .i64 r))) (fun q n i m=>some (.cut (at_ Tryz.f17 7) (Sl q n i m))) (fun q n i m=>some (.cut (at_ Tryz.f17 13) (N5 q n i m))) (fun l n m i=>some (.cut (at_ Tryz.f17 20) (N4 l n m i))) (fun l n m i a b c d w u j=>some (.cut (at_ Tryz.f17 23) (N3 l n m i a b c d w u j))) q n i m) (by kernel_rfl) ?_
  exact (gS h (fun _ h=>(gS h (fun _ h=>(gS h (fun _ h=>(gS h (fun _ h=>gR (by cases h;rfl)) (fun _ h=>gC (t17_7 k _ _ _ _ r h)))) gN)) gN)) (fun _ h=>gC (jV k _ _ _ _ r h)))
theorem jV:∀ (k:Nat) (q:List Pt) (n:Int) (i:Int) (m:Int) (r:Int),IG k q n i m=some r→AY Tryz.prog Tryz.f17.results.toList (at_ Tryz.f17 13) (N5 q n i m) (F.int .i64 r)
 | 0,_,_,_,_,_,h=>nomatch h
 | k+1,q,n,i,m,r,h=>by
  refine AY.of_cut Ap Ij (T:=[(7,[1,3,27,28,29],1000),(13,[1,3,38,39,40],1000),(20,[3,8,54,55,56],1000),(23,[3,8,9,10,54,55,56,63,64,65],1000)]) (n:=200) ?_
  refine gE (Y:=VE (fun r=>some (.ret (F.int .i64 r))) (fun q n i m=>some (.cut (at_ Tryz.f17 7) (Sl q n i m))) (fun q n i m=>some (.cut (at_ Tryz.f17 13) (N5 q n i m))) (fun l n m i=>some (.cut (at_ Tryz.f17 20) (N4 l n m i))) (fun l n m i a b c d w u j=>some (.cut (at_ Tryz.f17 23) (N3 l n m i a b c d w u j))) q n i m) (by kernel_rfl) ?_
  exact (gS h (fun _ h=>(gS h (fun _ h=>(gS h (fun _ h=>(gS h (fun _ h=>(gS h (fun _ h=>(gS h (fun _ h=>(gS h (fun _ h=>gR (by cases h;rfl)) (fun _ h=>gC (jV k _ _ _ _ r h)))) gN)) gN)) gN)) gN)) gN)) (fun _ h=>(gS h (fun _ h=>gC (jU k _ _ _ _ r h)) gN)))
theorem jU:∀ (k:Nat) (l:List Sg) (n:Int) (m:Int) (i:Int) (r:Int),He k l n m i=some r→AY Tryz.prog Tryz.f17.results.toList (at_ Tryz.f17 20) (N4 l n m i) (F.int .i64 r)
 | 0,_,_,_,_,_,h=>nomatch h
 | k+1,l,n,m,i,r,h=>by
  refine AY.of_cut Ap Ij (T:=[(7,[1,3,27,28,29],1000),(13,[1,3,38,39,40],1000),(20,[3,8,54,55,56],1000),(23,[3,8,9,10,54,55,56,63,64,65],1000)]) (n:=200) ?_
  refine gE (Y:=VD (fun r=>some (.ret (F.int .i64 r))) (fun q n i m=>some (.cut (at_ Tryz.f17 7) (Sl q n i m))) (fun q n i m=>some (.cut (at_ Tryz.f17 13) (N5 q n i m))) (fun l n m i=>some (.cut (at_ Tryz.f17 20) (N4 l n m i))) (fun l n m i a b c d w u j=>some (.cut (at_ Tryz.f17 23) (N3 l n m i a b c d w u j))) l n m i) (by kernel_rfl) ?_
  exact (gS h (fun _ h=>(gS h (fun _ h=>(gS h (fun _ h=>(gS h (fun _ h=>(gS h (fun _ h=>gC (NF k _ _ _ _ _ _ _ _ _ _ _ r h)) gN)) gN)) gN)) gN)) (fun _ h=>gR (by cases h;rfl)))
theorem NF:∀ (k:Nat) (l:List Sg) (n:Int) (m:Int) (i:Int) (a:Int) (b:Int) (c:Int) (d:Int) (w:Nat) (u:Int) (j:Int) (r:Int),Ja k l n m i a b c d w u j=some r→AY Tryz.prog Tryz.f17.results.toList (at_ Tryz.f17 23) (N3 l n m i a b c d w u j) (F.int .i64 r)
 | 0,_,_,_,_,_,_,_,_,_,_,_,_,h=>nomatch h
 | k+1,l,n,m,i,a,b,c,d,w,u,j,r,h=>by
  refine AY.of_cut Ap Ij (T:=[(7,[1,3,27,28,29],1000),(13,[1,3,38,39,40],1000),(20,[3,8,54,55,56],1000),(23,[3,8,9,10,54,55,56,63,64,65],1000)]) (n:=200) ?_
  refine gE (Y:=VC (fun r=>some (.ret (F.int .i64 r))) (fun q n i m=>some (.cut (at_ Tryz.f17 7) (Sl q n i m))) (fun q n i m=>some (.cut (at_ Tryz.f17 13) (N5 q n i m))) (fun l n m i=>some (.cut (at_ Tryz.f17 20) (N4 l n m i))) (fun l n m i a b c d w u j=>some (.cut (at_ Tryz.f17 23) (N3 l n m i a b c d w u j))) l n m i a b c d w u j) (by kernel_rfl) ?_
  exact (gS h (fun _ h=>(gS h (fun _ h=>(gS h (fun _ h=>(gS h (fun _ h=>(gS h (fun _ h=>(gS h (fun _ h=>(gS h (fun _ h=>(gS h (fun _ h=>(gS h (fun _ h=>gR (by cases h;rfl)) (fun _ h=>gC (NF k _ _ _ _ _ _ _ _ _ _ _ r h)))) (fun _ h=>gC (NF k _ _ _ _ _ _ _ _ _ _ _ r h)))) (fun _ h=>gR (by cases h;rfl)))) (fun _ h=>(gS h (fun _ h=>(gS h (fun _ h=>gR (by cases h;rfl)) (fun _ h=>gC (NF k _ _ _ _ _ _ _ _ _ _ _ r h)))) (fun _ h=>gR (by cases h;rfl)))))) (fun _ h=>(gS h (fun _ h=>(gS h (fun _ h=>gC (NF k _ _ _ _ _ _ _ _ _ _ _ r h)) (fun _ h=>gC (NF k _ _ _ _ _ _ _ _ _ _ _ r h)))) (fun _ h=>gR (by cases h;rfl)))))) gN)) gN)) gN)) (fun _ h=>gC (jU k _ _ _ _ r h)))
end
theorem t17 (k:Nat) (q:List Pt) (r:Int) (h:G17 k q=some r):AY Tryz.prog Tryz.f17.results.toList [.code (AR Tryz.f17)] (start Tryz.f17.ntmps ([F.agg [Am q]].map .f)) (F.int .i64 r):=by
 refine AY.of_run Ap Ij (T:=[(7,[1,3,27,28,29],1000),(13,[1,3,38,39,40],1000),(20,[3,8,54,55,56],1000),(23,[3,8,9,10,54,55,56,63,64,65],1000)]) (n:=200) ?_
 refine gE (Y:=T17 (fun r=>some (.ret (F.int .i64 r))) (fun q n i m=>some (.cut (at_ Tryz.f17 7) (Sl q n i m))) (fun q n i m=>some (.cut (at_ Tryz.f17 13) (N5 q n i m))) (fun l n m i=>some (.cut (at_ Tryz.f17 20) (N4 l n m i))) (fun l n m i a b c d w u j=>some (.cut (at_ Tryz.f17 23) (N3 l n m i a b c d w u j))) q) (by kernel_rfl) ?_
 exact (gS h (fun _ h=>gR (by cases h;rfl)) (fun _ h=>(gS h (fun _ h=>gR (by cases h;rfl)) (fun _ h=>gC (t17_7 k _ _ _ _ r h)))))
theorem nN {q:List Pt} {i:Nat} (hi:i≤q.length):ZT (q.take i) (q.getD i .zero).x (q.getD i .zero).y = !CK (fun j=>!Bg q i j) 0 i:=by
 have hg:∀ {j:Nat} (h:j<q.length),q.getD j .zero=q[j]:=fun h=>by simp [List.getD,List.getElem?_eq_getElem h]
 cases h:CK (fun j=>!Bg q i j) 0 i with
 | true =>
  rw [Bool.not_true,← Bool.not_eq_true]
  intro hh
  unfold ZT at hh
  obtain ⟨p,hp,e⟩:=List.any_eq_true.1 hh
  obtain ⟨j,hj,rfl⟩:=List.mem_take_iff_getElem.1 hp
  have:=(DQ _ _ _).1 h j (by omega) (by omega)
  have e2:Bg q i j=true:=by
   unfold Bg
   rw [hg (show j<q.length by omega)]
   exact e
  simp only [e2] at this
  cases this
 | false =>
  rw [Bool.not_false]
  refine Classical.byContradiction fun hn=>absurd h ?_
  rw [Bool.not_eq_false,DQ]
  intro j _ hj
  cases hs:Bg q i j with
  | false=>rfl
  | true =>
   refine absurd ?_ hn
   unfold ZT
   rw [List.any_eq_true]
   refine ⟨q[j],List.mem_take_iff_getElem.2 ⟨j,by omega,rfl⟩,?_⟩
   unfold Bg at hs
   rw [hg (show j<q.length by omega)] at hs
   exact hs
theorem SF {q:List Pt} (h:RingIn q) {i:Nat} (hi:i<q.length) {R:Int} {K:Nat} (hout:∀ k,K≤k→He k (BZ q) q.length q.length ((i+1:Nat):Int)=some R) :
  ∀ (d j k:Nat),j+d=i→d+1+K≤k→Ja k (BZ q) q.length q.length i (AT q i).x0 (AT q i).y0 (AT q i).x1 (AT q i).y1 i ((i:Nat):Int) j=some (bif CK (fun j=>!HZ q i j) j d then R else 5)
 | d,j,0,_,hk=>by omega
 | 0,j,k+1,hj,hk=>by
  have:=h.high
  rw [Ja]
  unfold VC
  rw [decide_eq_false (show ¬ (j:Int)<i by omega),AJ,Av (by omega) (by omega),show (i:Int)+1=((i+1:Nat):Int) by omega,hout k (by omega)]
  rfl
 | d+1,j,k+1,hj,hk=>by
  have hh:=h.high
  have ih:=SF h hi hout d (j+1) k (by omega) (by omega)
  have wj:IntKind.i64.wrap ((j:Int)+1)=((j+1:Nat):Int):=by rw [Av (by omega) (by omega)];omega
  have si:=DY h hi
  have sj:=DY h (show j<q.length by omega)
  unfold okS at si sj
  obtain ⟨n1,n2,n3⟩:=cE h.high hi (show j<i by omega)
  have hc:HZ q i j=badI (Cb (AT q i).x0 (AT q i).y0 (AT q i).x1 (AT q i).y1 (AT q j).x0 (AT q j).y0 (AT q j).x1 (AT q j).y1) (decide (j+1=i) || (decide (j=0)&&decide (i+1=q.length))):=rfl
  rw [Ja]
  unfold VC
  simp only [decide_eq_true (show (j:Int)<i by omega),decide_eq_true (show (0:Int)≤j by omega),Int.toNat_natCast,Nat.zero_add,GU q (show j<q.length by omega),si,sj,n1,n2,n3,wj,ih,Bool.and_self,AF]
  rw [Ck,hc]
  unfold badI
  cases decide (j+1=i) <;> cases decide (j=0) <;> cases decide (i+1=q.length) <;> cases (Cb (AT q i).x0 (AT q i).y0 (AT q i).x1 (AT q i).y1 (AT q j).x0 (AT q j).y0 (AT q j).x1 (AT q j).y1==1) <;> cases (Cb (AT q i).x0 (AT q i).y0 (AT q i).x1 (AT q i).y1 (AT q j).x0 (AT q j).y0 (AT q j).x1 (AT q j).y1==2) <;> rfl
theorem SG {q:List Pt} (h:RingIn q):∀ (d i k:Nat),i+d=q.length→15*d+1≤k→He k (BZ q) q.length q.length i=some (bif BK (HZ q) i d then 0 else 5)
 | d,i,0,_,hk=>by omega
 | 0,i,k+1,hi,hk=>by
  rw [He]
  unfold VD
  rw [decide_eq_false (show ¬ (i:Int)<q.length by omega)]
  rfl
 | d+1,i,k+1,hi,hk=>by
  have:=h.high
  have ih:=SF h (i:=i) (by omega) (K:=15*d+1) (fun k hk=>SG h d (i+1) k (by omega) hk) i 0 k (by omega) (by omega)
  rw [He]
  unfold VD
  simp only [Dm,decide_eq_true (show (i:Int)<q.length by omega),decide_eq_true (show (0:Int)≤i by omega),decide_eq_true (show (i:Int)≤q.length by omega),Int.toNat_natCast,Int.toNat_zero,Nat.sub_zero,GU q (show i<q.length by omega),AF]
  refine ih.trans ?_
  unfold BK
  rw [Ck]
  cases CK (fun j=>!HZ q i j) 0 i <;> rfl
theorem SH {q:List Pt} (hn:q.length≤12) {R:Int} {K:Nat} (hout:BK (Bg q) 0 q.length=true→∀ k,K≤k→He k (BZ q) q.length q.length 0=some R) :
  ∀ (d i k:Nat),i+d=q.length→d+1+K≤k→(BK (Bg q) i d=true→BK (Bg q) 0 q.length=true)→IG k q q.length i q.length=some (bif BK (Bg q) i d then R else 4)
 | d,i,0,_,hk,_=>by omega
 | 0,i,k+1,hi,hk,he=>by
  rw [IG]
  unfold VE
  simp only [decide_eq_false (show ¬ (i:Int)<q.length by omega),AJ,CM,Br,D1,decide_eq_true (show q.length≤1000 by omega),Bool.and_self,AF,Dm]
  rw [hout (he rfl) k (by omega)]
  rfl
 | d+1,i,k+1,hi,hk,he=>by
  have cut:BK (Bg q) i (d+1)=(CK (fun j=>!Bg q i j) 0 i&&BK (Bg q) (i+1) d):=rfl
  have wi:IntKind.i64.wrap ((i:Int)+1)=((i+1:Nat):Int):=by rw [Av (by omega) (by omega)];omega
  obtain ⟨u1,u2⟩:=YX q i (by omega)
  have hlen:D1 (q.take i)=true:=decide_eq_true (by rw [List.length_take];omega)
  rw [IG]
  unfold VE
  simp only [decide_eq_true (show (i:Int)<q.length by omega),decide_eq_true (show (0:Int)≤i by omega),decide_eq_true (show (i:Int)≤q.length by omega),Int.toNat_natCast,Int.toNat_zero,Nat.sub_zero,Nat.zero_add,u1,u2,hlen,wi,nN (show i≤q.length by omega),Bool.and_self,AF]
  rw [cut] at he ⊢
  cases hc:CK (fun j=>!Bg q i j) 0 i with
  | false=>rfl
  | true =>
   rw [Bool.not_true,AJ,SH hn hout d (i+1) k (by omega) (by omega) fun ht=>he (by rw [hc,ht];rfl)]
   rfl
theorem W9 {q:List Pt} (hn:q.length≤12) {R:Int} {K:Nat} (hout:(q.all fun p=>BQ p.x p.y)=true→∀ k,K≤k→IG k q q.length 0 q.length=some R) :
  ∀ (d i k:Nat),i+d=q.length→d+1+K≤k→((q.drop i).all (fun p=>BQ p.x p.y)=true→(q.all fun p=>BQ p.x p.y)=true)→M8 k q q.length i q.length=some (bif (q.drop i).all fun p=>BQ p.x p.y then R else 3)
 | d,i,0,_,hk,_=>by omega
 | 0,i,k+1,hi,hk,he=>by
  rw [List.drop_eq_nil_of_le (by omega)] at he ⊢
  rw [M8]
  unfold eB
  rw [decide_eq_false (show ¬ (i:Int)<q.length by omega),AJ,hout (he rfl) k (by omega)]
  rfl
 | d+1,i,k+1,hi,hk,he=>by
  have hlt:i<q.length:=by omega
  have hg:q.getD i Pt.zero=q[i]:=by simp [List.getD,List.getElem?_eq_getElem hlt]
  rw [List.drop_eq_getElem_cons hlt,List.all_cons] at he ⊢
  rw [M8]
  unfold eB
  rw [decide_eq_true (show (i:Int)<q.length by omega),decide_eq_true (show (0:Int)≤i by omega),Int.toNat_natCast,hg,Av (by omega) (by omega),show (i:Int)+1=((i+1:Nat):Int) by omega]
  simp only [AF]
  cases ho:BQ q[i].x q[i].y with
  | false=>rfl
  | true =>
   rw [Bool.not_true,AJ,W9 hn hout d (i+1) k (by omega) (by omega) fun ht=>he (by rw [ho,ht];rfl)]
   rfl
theorem ZV (q:List Pt):G17 600 q=some (Mr q):=by
 unfold G17 T17 Mr Ho
 by_cases h1:q.length<3
 ·rw [decide_eq_true (show (q.length:Int)<3 by omega),decide_eq_true h1];rfl
 ·by_cases h2:q.length > 12
  ·rw [decide_eq_false (show ¬ (q.length:Int)<3 by omega),decide_eq_false h1,decide_eq_true (show (q.length:Int) > 12 by omega),decide_eq_true h2];rfl
  ·rw [decide_eq_false (show ¬ (q.length:Int)<3 by omega),decide_eq_false h1,decide_eq_false (show ¬ (q.length:Int) > 12 by omega),decide_eq_false h2]
   have:=W9 (q:=q) (by omega) (R:=bif BK (Bg q) 0 q.length then (bif BK (HZ q) 0 q.length then 0 else 5) else 4) (K:=400) (fun h3 k hk=>SH (by omega) (R:=bif BK (HZ q) 0 q.length then 0 else 5) (K:=190) (fun h4 k hk=>SG (Kq h1 h2 h3 h4) q.length 0 k (by omega) (by omega)) q.length 0 k (by omega) (by omega) id) q.length 0 600 (by omega) (by omega) id
   refine this.trans ?_
   rw [List.drop_zero]
   cases (q.all fun p=>BQ p.x p.y) <;> cases BK (Bg q) 0 q.length <;> cases BK (HZ q) 0 q.length <;> rfl
/-! Both tell the same. -/
theorem on_ends {s:Sg} (h:OH s):onS s ⟨s.x0,s.y0⟩∧onS s ⟨s.x1,s.y1⟩:=by
 unfold OH BT at h
 unfold onS fL Ab Ct
 dsimp only
 refine ⟨⟨by simp,by omega,by omega⟩,⟨?_,by omega,by omega⟩⟩
 show (s.x1-s.x0)*(s.y1-s.y0)-(s.y1-s.y0)*(s.x1-s.x0)=0
 rw [Int.mul_comm]
 omega
theorem cG {a b:Pt} (h:a ≠ b):onS (DA a b) b∧onS (DA a b) a:=by
 have:=on_ends (KE h)
 rcases IX a b h with ⟨h1,h2⟩ | ⟨h1,h2⟩ <;> rw [h2] at this ⊢
 ·exact ⟨this.2,this.1⟩
 ·exact ⟨this.1,this.2⟩
theorem fV {q:List Pt} (h:RingIn q) {i j:Nat} (hi:i<q.length) (hj:j<i) (hn:LW q.length i j=true):Ws (AT q i) (AT q j):=by
 have hl:=h.low
 obtain ⟨e1,e2⟩:=O5 hi hl
 obtain ⟨f1,f2⟩:=O5 (show j<q.length by omega) hl
 have ni:=Kk h hi e2 (fun e=>e1 e.symm)
 have nj:=Kk h (show j<q.length by omega) f2 (fun e=>f1 e.symm)
 unfold LW at hn
 simp only [Bool.or_eq_true,Bool.and_eq_true,decide_eq_true_eq] at hn
 rcases hn with hn | ⟨hn,hm⟩
 ·-- the end of j is the beginning of i
  have ej:(j+1) % q.length=i:=by rw [hn,Nat.mod_eq_of_lt hi]
  refine (ZC (KE nj) (KE ni)).1 (nA ni (KE nj) ?_)
  rw [ej]
  rw [ej] at nj
  exact (cG nj).1
 ·-- the end of i is the beginning of j
  have ei:(i+1) % q.length=j:=by rw [hm,Nat.mod_self,hn]
  refine nA nj (KE ni) ?_
  unfold AT
  rw [ei]
  rw [ei] at ni
  exact (cG ni).1
theorem Zk {q:List Pt} (h:RingIn q) {i j:Nat} (hi:i<q.length) (hj:j<i):HZ q i j=EX q i j:=by
 have si:=DY h hi
 have sj:=DY h (show j<q.length by omega)
 have hr:=nF si sj
 unfold HZ EX
 rw [kI_3 si sj]
 unfold badI qH
 cases hn:LW q.length i j with
 | false =>
  rcases hr with e | e | e <;> rw [e] <;> rfl
 | true =>
  have hm:k3 (AT q i) (AT q j) ≠ 0:=(IY si sj).2.1.2 (fV h hi hj hn)
  rcases hr with e | e | e
  ·exact absurd e hm
  ·rw [e];rfl
  ·rw [e];rfl
theorem ZU (q:List Pt):Mr q=CB q:=by
 unfold Mr CB Ho
 by_cases h1:q.length<3
 ·rw [decide_eq_true h1];rfl
 ·by_cases h2:q.length > 12
  ·rw [decide_eq_false h1,decide_eq_true h2];rfl
  ·rw [decide_eq_false h1,decide_eq_false h2]
   cases h3:(q.all fun p=>BQ p.x p.y) with
   | false=>rfl
   | true =>
    cases h4:BK (Bg q) 0 q.length with
    | false=>rfl
    | true =>
     have h:=Kq h1 h2 h3 h4
     have e:BK (HZ q) 0 q.length=BK (EX q) 0 q.length:=by
      rw [Bool.eq_iff_iff,Oy,Oy]
      exact forall_congr' fun i=>forall_congr' fun hi=>forall_congr' fun j=>forall_congr' fun hj=>by rw [Zk h hi hj]
     rw [e]
def Rq:List F→F | [x]=>.int .i64 (CB (Ac x)) | _=>.dflt
theorem mB:Ai Tryz.prog 17 bQ Rq :=
 Ae (c:=AR Tryz.f17) Tryz.func17 (by kernel_rfl) (by kernel_rfl) fun xs hp=>match xs,hp with
 | [x],hp=>⟨[C9 (Ac x)],_,⟨(Em hp).1,trivial⟩,t17 600 _ _ (ZV _),by
   show FLe (.int .i64 (Mr (Ac x))) (.int .i64 (CB (Ac x)))
   rw [ZU]
   exact .refl _⟩
def envK3:Env:=envK2.add 17 (.pure bQ Rq)
theorem HW:Ax Tryz.prog envK3:=(Env.add_ok Ij mB.sp)
end
noncomputable section
set_option maxHeartbeats 1000000
def Bp (q:List Pt):Bool:=CB q==0
theorem DI {q:List Pt} (h:Bp q=true):RingIn q:=by
 unfold Bp CB Ho at h
 by_cases h1:q.length<3
 ·rw [decide_eq_true h1] at h;cases h
 ·by_cases h2:q.length > 12
  ·rw [decide_eq_false h1,decide_eq_true h2] at h;cases h
  ·rw [decide_eq_false h1,decide_eq_false h2] at h
   cases h3:(q.all fun p=>BQ p.x p.y) with
   | false=>rw [h3] at h;cases h
   | true =>
    cases h4:BK (Bg q) 0 q.length with
    | false=>rw [h3,h4] at h;cases h
    | true=>exact Kq h1 h2 h3 h4
def EM (q p:List Pt) (i j:Nat):Bool:=k3 (AT q i) (AT p j) != 0
def EU (q p:List Pt):Bool:=!TA (EM q p) p.length q.length
/-! ### function 95 -/
def eG (q:List Pt) (p:List Pt) (i:Int):St:=⟨Ag 2 ((U.hp 0 0) :: (U.hp 1 0) :: Ag 1 ((U.f (F.int .i64 i)) :: Ag 31 [])),[HO.box [(U.f (Am q))],HO.box [(U.f (Am p))]]⟩
def eF (q:List Pt) (p:List Pt) (i:Int) (j:Int):St:=⟨Ag 2 ((U.hp 0 0) :: (U.hp 1 0) :: Ag 1 ((U.f (F.int .i64 i)) :: (U.f (F.int .i64 j)) :: Ag 30 [])),[HO.box [(U.f (Am q))],HO.box [(U.f (Am p))]]⟩
abbrev KJ78 (ρ:Type):=(List Pt)→(List Pt)→(Int)→(Int)→Option ρ
def dB {ρ:Type} (ret:VL ρ) (c2:(List Pt)→(List Pt)→(Int)→Option ρ) (c5:KJ78 ρ) (q:List Pt) (p:List Pt) (i:Int):Option ρ :=
 (AC (decide (i<(↑q.length:Int)))
 (c5 (q) (p) (i) (0))
 (ret (false)))
def dA {ρ:Type} (ret:VL ρ) (c2:(List Pt)→(List Pt)→(Int)→Option ρ) (c5:KJ78 ρ) (q:List Pt) (p:List Pt) (i:Int) (j:Int):Option ρ :=
 (AC (decide (j<(↑p.length:Int)))
 (AC (B4 (F.agg [Am q])&&Ta (Ac (F.agg [Am q])) i)
 (AC (B4 (F.agg [Am p])&&Ta (Ac (F.agg [Am p])) j)
 (AC (BW (AT (Ac (F.agg [Am q])) i.toNat).x0 (AT (Ac (F.agg [Am q])) i.toNat).y0 (AT (Ac (F.agg [Am q])) i.toNat).x1 (AT (Ac (F.agg [Am q])) i.toNat).y1&&BW (AT (Ac (F.agg [Am p])) j.toNat).x0 (AT (Ac (F.agg [Am p])) j.toNat).y0 (AT (Ac (F.agg [Am p])) j.toNat).x1 (AT (Ac (F.agg [Am p])) j.toNat).y1)
 (AC (CX (AT (Ac (F.agg [Am q])) i.toNat).x0 (AT (Ac (F.agg [Am q])) i.toNat).y0 (AT (Ac (F.agg [Am q])) i.toNat).x1 (AT (Ac (F.agg [Am q])) i.toNat).y1 (AT (Ac (F.agg [Am p])) j.toNat).x0 (AT (Ac (F.agg [Am p])) j.toNat).y0 (AT (Ac (F.agg [Am p])) j.toNat).x1 (AT (Ac (F.agg [Am p])) j.toNat).y1 != 0)
 (ret (true))
 (c5 (q) (p) (i) (IntKind.i64.wrap (j+1))))
 none)
 none)
 none)
 (c2 (q) (p) (IntKind.i64.wrap (i+1))))
mutual
def Oa:Nat→(List Pt)→(List Pt)→(Int)→Option (Bool)
 | 0,_,_,_=>none
 | k+1,q,p,i=>dB some (Oa k) (Qs k) q p i
def Qs:Nat→(List Pt)→(List Pt)→(Int)→(Int)→Option (Bool)
 | 0,_,_,_,_=>none
 | k+1,q,p,i,j=>dA some (Oa k) (Qs k) q p i j
end
def T95 {ρ:Type} (ret:VL ρ) (c2:(List Pt)→(List Pt)→(Int)→Option ρ) (c5:KJ78 ρ) (q:List Pt) (p:List Pt):Option ρ :=
 (c2 (q) (p) (0))
def G95 (k:Nat) (q:List Pt) (p:List Pt):Option (Bool):=T95 some (Oa k) (Qs k) q p
mutual
theorem t95_2:∀ (k:Nat) (q:List Pt) (p:List Pt) (i:Int) (res:Bool),Oa k q p i=some res→AY Tryz.prog Tryz.f95.results.toList (at_ Tryz.f95 2) (eG q p i) (F.bool res)
 | 0,_,_,_,_,h=>nomatch h
 | k+1,q,p,i,res,h=>by
  refine AY.of_cut Ap HW (T:=[(2,[2,3,5],1000),(5,[2,3,5,6],1000)]) (n:=200) ?_
  refine gE (Y:=dB (fun res=>some (.ret (F.bool res))) (fun q p i=>some (.cut (at_ Tryz.f95 2) (eG q p i))) (fun q p i j=>some (.cut (at_ Tryz.f95 5) (eF q p i j))) q p i) (by kernel_rfl) ?_
  exact (gS h (fun _ h=>gC (t95_5 k _ _ _ _ res h)) (fun _ h=>gR (by cases h;rfl)))
theorem t95_5:∀ (k:Nat) (q:List Pt) (p:List Pt) (i:Int) (j:Int) (res:Bool),Qs k q p i j=some res→AY Tryz.prog Tryz.f95.results.toList (at_ Tryz.f95 5) (eF q p i j) (F.bool res)
 | 0,_,_,_,_,_,h=>nomatch h
 | k+1,q,p,i,j,res,h=>by
  refine AY.of_cut Ap HW (T:=[(2,[2,3,5],1000),(5,[2,3,5,6],1000)]) (n:=200) ?_
  refine gE (Y:=dA (fun res=>some (.ret (F.bool res))) (fun q p i=>some (.cut (at_ Tryz.f95 2) (eG q p i))) (fun q p i j=>some (.cut (at_ Tryz.f95 5) (eF q p i j))) q p i j) (by kernel_rfl) ?_
  exact (gS h (fun _ h=>(gS h (fun _ h=>(gS h (fun _ h=>(gS h (fun _ h=>(gS h (fun _ h=>gR (by cases h;rfl)) (fun _ h=>gC (t95_5 k _ _ _ _ res h)))) gN)) gN)) gN)) (fun _ h=>gC (t95_2 k _ _ _ res h)))
end
theorem t95 (k:Nat) (q:List Pt) (p:List Pt) (res:Bool) (h:G95 k q p=some res):AY Tryz.prog Tryz.f95.results.toList [.code (AR Tryz.f95)] (start Tryz.f95.ntmps ([F.agg [Am q],F.agg [Am p]].map .f)) (F.bool res):=by
 refine AY.of_run Ap HW (T:=[(2,[2,3,5],1000),(5,[2,3,5,6],1000)]) (n:=200) ?_
 refine gE (Y:=T95 (fun res=>some (.ret (F.bool res))) (fun q p i=>some (.cut (at_ Tryz.f95 2) (eG q p i))) (fun q p i j=>some (.cut (at_ Tryz.f95 5) (eF q p i j))) q p) (by kernel_rfl) ?_
 exact gC (t95_2 k _ _ _ res h)
theorem Vw {q p:List Pt} (hq:RingIn q) (hp:RingIn p) {i:Nat} (hi:i<q.length) {R:Bool} {K:Nat} (hout:∀ k,K≤k→Oa k q p ((i+1:Nat):Int)=some R) :
  ∀ (d j k:Nat),j+d=p.length→d+1+K≤k→Qs k q p i j=some (bif CK (fun j=>!EM q p i j) j d then R else true)
 | d,j,0,_,hk=>by omega
 | 0,j,k+1,hj,hk=>by
  have:=hq.high
  rw [Qs]
  unfold dA
  rw [decide_eq_false (show ¬ (j:Int)<p.length by omega),AJ,Av (by omega) (by omega),show (i:Int)+1=((i+1:Nat):Int) by omega,hout k (by omega)]
  rfl
 | d+1,j,k+1,hj,hk=>by
  have h1:=hq.high
  have h2:=hp.high
  have ih:=Vw hq hp hi hout d (j+1) k (by omega) (by omega)
  have wj:IntKind.i64.wrap ((j:Int)+1)=((j+1:Nat):Int):=by rw [Av (by omega) (by omega)];omega
  have si:=DY hq hi
  have sj:=DY hp (show j<p.length by omega)
  unfold okS at si sj
  have hc:EM q p i j=(CX (AT q i).x0 (AT q i).y0 (AT q i).x1 (AT q i).y1 (AT p j).x0 (AT p j).y0 (AT p j).x1 (AT p j).y1 != 0):=rfl
  rw [Qs]
  unfold dA
  simp only [decide_eq_true (show (j:Int)<p.length by omega),CM,Br,Ic.2 ⟨⟨show (0:Int)≤i by omega,show (i:Int)<q.length by omega⟩,show q.length≤1000 by omega⟩,Ic.2 ⟨⟨show (0:Int)≤j by omega,show (j:Int)<p.length by omega⟩,show p.length≤1000 by omega⟩,Int.toNat_natCast,si,sj,wj,ih,Bool.and_self,AF]
  rw [Ck,hc]
  cases (CX (AT q i).x0 (AT q i).y0 (AT q i).x1 (AT q i).y1 (AT p j).x0 (AT p j).y0 (AT p j).x1 (AT p j).y1 != 0) <;> rfl
theorem Vx {q p:List Pt} (hq:RingIn q) (hp:RingIn p):∀ (d i k:Nat),i+d=q.length→15*d+1≤k→Oa k q p i=some (!CK (fun i=>CK (fun j=>!EM q p i j) 0 p.length) i d)
 | d,i,0,_,hk=>by omega
 | 0,i,k+1,hi,hk=>by
  rw [Oa]
  unfold dB
  rw [decide_eq_false (show ¬ (i:Int)<q.length by omega)]
  rfl
 | d+1,i,k+1,hi,hk=>by
  have:=hp.high
  have ih:=Vw hq hp (i:=i) (by omega) (K:=15*d+1) (fun k hk=>Vx hq hp d (i+1) k (by omega) hk) p.length 0 k (by omega) (by omega)
  rw [Oa]
  unfold dB
  rw [decide_eq_true (show (i:Int)<q.length by omega),AF]
  refine ih.trans ?_
  rw [Ck]
  cases CK (fun j=>!EM q p i j) 0 p.length <;> rfl
def IN:List F→Bool | [x,y]=>B4 x&&B4 y&&(Bp (Ac x)&&Bp (Ac y)) | _=>false
def MN:List F→F | [x,y]=>.bool (EU (Ac x) (Ac y)) | _=>.dflt
theorem lU:Ai Tryz.prog 95 IN MN :=
 Ae (c:=AR Tryz.f95) Tryz.func95 (by kernel_rfl) (by kernel_rfl) fun xs hp=>match xs,hp with
 | [x,y],hp=>by
  simp only [IN,Bool.and_eq_true] at hp
  have hx:=DI hp.2.1
  have:=hx.high
  exact ⟨[C9 (Ac x),C9 (Ac y)],_,⟨(Em hp.1.1).1,(Em hp.1.2).1,trivial⟩,t95 400 _ _ _ (Vx hx (DI hp.2.2) (Ac x).length 0 400 (by omega) (by omega)),.refl _⟩
/-! ### function 20 -/
def eP (p:List Pt) (l:List Sg) (n:Int) (i:Int):St:=⟨Ag 3 ((U.hp 0 0) :: Ag 9 ((U.f (BL l)) :: (U.f (F.int .i64 n)) :: (U.f (F.int .i64 i)) :: Ag 21 [])),[HO.box [(U.f (Am p))]]⟩
def eO (p:List Pt) (l:List Sg) (n:Int) (i:Int) (a:Int) (b:Int) (c:Int) (d:Int) (m:List Sg) (u:Int) (j:Int):St:=⟨Ag 3 ((U.hp 0 0) :: Ag 2 ((U.hp 1 0) :: Ag 6 ((U.f (BL l)) :: (U.f (F.int .i64 n)) :: (U.f (F.int .i64 i)) :: Ag 4 ((U.f (BL m)) :: (U.f (F.int .i64 u)) :: (U.f (F.int .i64 j)) :: Ag 14 [])))),[HO.box [(U.f (Am p))],HO.box [(U.f (F.int .i64 a)),(U.f (F.int .i64 b)),(U.f (F.int .i64 c)),(U.f (F.int .i64 d))]]⟩
abbrev KJ74 (ρ:Type):=(List Pt)→(List Sg)→(Int)→(Int)→(Int)→(Int)→(Int)→(Int)→(List Sg)→(Int)→(Int)→Option ρ
abbrev KJ79 (ρ:Type):=(List Pt)→(List Sg)→(Int)→(Int)→Option ρ
def dZ {ρ:Type} (ret:VL ρ) (c2:KJ79 ρ) (c5:KJ74 ρ) (p:List Pt) (l:List Sg) (n:Int) (i:Int):Option ρ :=
 (AC (decide (i<n))
 (AC (decide (0≤i))
 (AC (decide (i<(↑l.length:Int)))
 (AC (B4 (F.agg [Am p])&&D1 (Ac (F.agg [Am p])))
 (c5 (p) (l) (n) (i) ((l.getD i.toNat Sg.zero).x0) ((l.getD i.toNat Sg.zero).y0) ((l.getD i.toNat Sg.zero).x1) ((l.getD i.toNat Sg.zero).y1) (BZ (Ac (F.agg [Am p]))) ((↑(BZ (Ac (F.agg [Am p]))).length:Int)) (0))
 none)
 none)
 none)
 (ret (false)))
def dY {ρ:Type} (ret:VL ρ) (c2:KJ79 ρ) (c5:KJ74 ρ) (p:List Pt) (l:List Sg) (n:Int) (i:Int) (a:Int) (b:Int) (c:Int) (d:Int) (m:List Sg) (u:Int) (j:Int):Option ρ :=
 (AC (decide (j<u))
 (AC (decide (0≤j))
 (AC (decide (j<(↑m.length:Int)))
 (AC (BW a b c d&&BW (m.getD j.toNat Sg.zero).x0 (m.getD j.toNat Sg.zero).y0 (m.getD j.toNat Sg.zero).x1 (m.getD j.toNat Sg.zero).y1)
 (AC (Cb a b c d (m.getD j.toNat Sg.zero).x0 (m.getD j.toNat Sg.zero).y0 (m.getD j.toNat Sg.zero).x1 (m.getD j.toNat Sg.zero).y1 != 0)
 (ret (true))
 (c5 (p) (l) (n) (i) (a) (b) (c) (d) (m) (u) (IntKind.i64.wrap (j+1))))
 none)
 none)
 none)
 (c2 (p) (l) (n) (IntKind.i64.wrap (i+1))))
mutual
def Oi:Nat→(List Pt)→(List Sg)→(Int)→(Int)→Option (Bool)
 | 0,_,_,_,_=>none
 | k+1,p,l,n,i=>dZ some (Oi k) (Qx k) p l n i
def Qx:Nat→(List Pt)→(List Sg)→(Int)→(Int)→(Int)→(Int)→(Int)→(Int)→(List Sg)→(Int)→(Int)→Option (Bool)
 | 0,_,_,_,_,_,_,_,_,_,_,_=>none
 | k+1,p,l,n,i,a,b,c,d,m,u,j=>dY some (Oi k) (Qx k) p l n i a b c d m u j
end
def T20 {ρ:Type} (ret:VL ρ) (c2:KJ79 ρ) (c5:KJ74 ρ) (q:List Pt) (p:List Pt):Option ρ :=
 (AC (B4 (F.agg [Am q])&&D1 (Ac (F.agg [Am q])))
 (c2 (p) (BZ (Ac (F.agg [Am q]))) ((↑(BZ (Ac (F.agg [Am q]))).length:Int)) (0))
 none)
def G20 (k:Nat) (q:List Pt) (p:List Pt):Option (Bool):=T20 some (Oi k) (Qx k) q p
mutual
theorem t20_2:∀ (k:Nat) (p:List Pt) (l:List Sg) (n:Int) (i:Int) (res:Bool),Oi k p l n i=some res→AY Tryz.prog Tryz.f20.results.toList (at_ Tryz.f20 2) (eP p l n i) (F.bool res)
 | 0,_,_,_,_,_,h=>nomatch h
 | k+1,p,l,n,i,res,h=>by
  refine AY.of_cut Ap HW (T:=[(2,[3,13,14,15],1000),(5,[3,6,13,14,15,20,21,22],1000)]) (n:=200) ?_
  refine gE (Y:=dZ (fun res=>some (.ret (F.bool res))) (fun p l n i=>some (.cut (at_ Tryz.f20 2) (eP p l n i))) (fun p l n i a b c d m u j=>some (.cut (at_ Tryz.f20 5) (eO p l n i a b c d m u j))) p l n i) (by kernel_rfl) ?_
  exact (gS h (fun _ h=>(gS h (fun _ h=>(gS h (fun _ h=>(gS h (fun _ h=>gC (t20_5 k _ _ _ _ _ _ _ _ _ _ _ res h)) gN)) gN)) gN)) (fun _ h=>gR (by cases h;rfl)))
theorem t20_5:∀ (k:Nat) (p:List Pt) (l:List Sg) (n:Int) (i:Int) (a:Int) (b:Int) (c:Int) (d:Int) (m:List Sg) (u:Int) (j:Int) (res:Bool),Qx k p l n i a b c d m u j=some res→AY Tryz.prog Tryz.f20.results.toList (at_ Tryz.f20 5) (eO p l n i a b c d m u j) (F.bool res)
 | 0,_,_,_,_,_,_,_,_,_,_,_,_,h=>nomatch h
 | k+1,p,l,n,i,a,b,c,d,m,u,j,res,h=>by
  refine AY.of_cut Ap HW (T:=[(2,[3,13,14,15],1000),(5,[3,6,13,14,15,20,21,22],1000)]) (n:=200) ?_
  refine gE (Y:=dY (fun res=>some (.ret (F.bool res))) (fun p l n i=>some (.cut (at_ Tryz.f20 2) (eP p l n i))) (fun p l n i a b c d m u j=>some (.cut (at_ Tryz.f20 5) (eO p l n i a b c d m u j))) p l n i a b c d m u j) (by kernel_rfl) ?_
  exact (gS h (fun _ h=>(gS h (fun _ h=>(gS h (fun _ h=>(gS h (fun _ h=>(gS h (fun _ h=>gR (by cases h;rfl)) (fun _ h=>gC (t20_5 k _ _ _ _ _ _ _ _ _ _ _ res h)))) gN)) gN)) gN)) (fun _ h=>gC (t20_2 k _ _ _ _ res h)))
end
theorem t20 (k:Nat) (q:List Pt) (p:List Pt) (res:Bool) (h:G20 k q p=some res):AY Tryz.prog Tryz.f20.results.toList [.code (AR Tryz.f20)] (start Tryz.f20.ntmps ([F.agg [Am q],F.agg [Am p]].map .f)) (F.bool res):=by
 refine AY.of_run Ap HW (T:=[(2,[3,13,14,15],1000),(5,[3,6,13,14,15,20,21,22],1000)]) (n:=200) ?_
 refine gE (Y:=T20 (fun res=>some (.ret (F.bool res))) (fun p l n i=>some (.cut (at_ Tryz.f20 2) (eP p l n i))) (fun p l n i a b c d m u j=>some (.cut (at_ Tryz.f20 5) (eO p l n i a b c d m u j))) q p) (by kernel_rfl) ?_
 exact (gS h (fun _ h=>gC (t20_2 k _ _ _ _ res h)) gN)
theorem W6 {q p:List Pt} (hq:RingIn q) (hp:RingIn p) {i:Nat} (hi:i<q.length) {R:Bool} {K:Nat} (hout:∀ k,K≤k→Oi k p (BZ q) q.length ((i+1:Nat):Int)=some R) :
  ∀ (d j k:Nat),j+d=p.length→d+1+K≤k→Qx k p (BZ q) q.length i (AT q i).x0 (AT q i).y0 (AT q i).x1 (AT q i).y1 (BZ p) p.length j=some (bif CK (fun j=>!EM q p i j) j d then R else true)
 | d,j,0,_,hk=>by omega
 | 0,j,k+1,hj,hk=>by
  have:=hq.high
  rw [Qx]
  unfold dY
  rw [decide_eq_false (show ¬ (j:Int)<p.length by omega),AJ,Av (by omega) (by omega),show (i:Int)+1=((i+1:Nat):Int) by omega,hout k (by omega)]
  rfl
 | d+1,j,k+1,hj,hk=>by
  have h1:=hq.high
  have h2:=hp.high
  have ih:=W6 hq hp hi hout d (j+1) k (by omega) (by omega)
  have wj:IntKind.i64.wrap ((j:Int)+1)=((j+1:Nat):Int):=by rw [Av (by omega) (by omega)];omega
  have hj':j<p.length:=by omega
  have si:=DY hq hi
  have sj:=DY hp hj'
  have hc:EM q p i j=(Cb (AT q i).x0 (AT q i).y0 (AT q i).x1 (AT q i).y1 (AT p j).x0 (AT p j).y0 (AT p j).x1 (AT p j).y1 != 0):=by
   unfold EM
   rw [← kI_3 si sj]
   rfl
  unfold okS at si sj
  rw [Qx]
  unfold dY
  simp only [decide_eq_true (show (j:Int)<p.length by omega),decide_eq_true (show (0:Int)≤j by omega),Dm,Int.toNat_natCast,GU p hj',si,sj,wj,ih,Bool.and_self,AF]
  rw [Ck,hc]
  cases (Cb (AT q i).x0 (AT q i).y0 (AT q i).x1 (AT q i).y1 (AT p j).x0 (AT p j).y0 (AT p j).x1 (AT p j).y1 != 0) <;> rfl
theorem W7 {q p:List Pt} (hq:RingIn q) (hp:RingIn p):∀ (d i k:Nat),i+d=q.length→15*d+1≤k→Oi k p (BZ q) q.length i=some (!CK (fun i=>CK (fun j=>!EM q p i j) 0 p.length) i d)
 | d,i,0,_,hk=>by omega
 | 0,i,k+1,hi,hk=>by
  rw [Oi]
  unfold dZ
  rw [decide_eq_false (show ¬ (i:Int)<q.length by omega)]
  rfl
 | d+1,i,k+1,hi,hk=>by
  have h1:=hp.high
  have h2:=hq.high
  have ih:=W6 hq hp (i:=i) (by omega) (K:=15*d+1) (fun k hk=>W7 hq hp d (i+1) k (by omega) hk) p.length 0 k (by omega) (by omega)
  rw [Oi]
  unfold dZ
  simp only [decide_eq_true (show (i:Int)<q.length by omega),decide_eq_true (show (0:Int)≤i by omega),Dm,CM,Br,D1,decide_eq_true (show p.length≤1000 by omega),Int.toNat_natCast,GU q (show i<q.length by omega),Bool.and_self,AF]
  refine ih.trans ?_
  rw [Ck]
  cases CK (fun j=>!EM q p i j) 0 p.length <;> rfl
theorem lT:Ai Tryz.prog 20 IN MN :=
 Ae (c:=AR Tryz.f20) Tryz.func20 (by kernel_rfl) (by kernel_rfl) fun xs hp=>match xs,hp with
 | [x,y],hp=>by
  simp only [IN,Bool.and_eq_true] at hp
  have hx:=DI hp.2.1
  have hh:=hx.high
  exact ⟨[C9 (Ac x),C9 (Ac y)],_,⟨(Em hp.1.1).1,(Em hp.1.2).1,trivial⟩,t20 400 _ _ _ (by
   unfold G20 T20
   simp only [CM,Br,D1,decide_eq_true (show (Ac x).length≤1000 by omega),Bool.and_self,AF,Dm]
   exact W7 hx (DI hp.2.2) (Ac x).length 0 400 (by omega) (by omega)),.refl _⟩
def envK4:Env:=(envK3.add 95 (.pure IN MN)).add 20 (.pure IN MN)
theorem Xd:Ax Tryz.prog envK4:=(Env.add_ok (Env.add_ok HW lU.sp) lT.sp)
end
noncomputable section
/-! ### function 19 -/
def T19 {ρ:Type} (ret:VL ρ) (q:List Pt) (p:List Pt):Option ρ :=
 (AC (B4 (F.agg [Am q])&&B4 (F.agg [Am p])&&(Bp (Ac (F.agg [Am q]))&&Bp (Ac (F.agg [Am p]))))
 (ret (EU (Ac (F.agg [Am q])) (Ac (F.agg [Am p]))))
 none)
def G19 (q:List Pt) (p:List Pt):Option (Bool):=T19 some q p
theorem t19 (q:List Pt) (p:List Pt) (res:Bool) (h:G19 q p=some res):CL Tryz.prog 1 Tryz.f19.results.toList [.code (AR Tryz.f19)] (CU Tryz.f19.ntmps [U.f (F.agg [Am p]),U.hp 0 0] [HO.box [(U.f (Am q))]]) (F.tup [F.bool res,F.agg [Am q]]):=by
 refine AY.of_run Ap Xd (T:=[]) (n:=200) ?_
 refine gE (Y:=T19 (fun res=>some (.ret (F.tup [F.bool res,F.agg [Am q]]))) q p) (by kernel_rfl) ?_
 exact (gS h (fun _ h=>gR (by cases h;rfl)) gN)
def lH:List F→F→Bool | [y],x=>C3 y&&B4 x&&(Bp (BR y)&&Bp (Ac x)) | _,_=>false
def resCl:List F→F→F × List F | [y],x=>(.bool (EU (BR y) (Ac x)),[y]) | cs,_=>(.dflt,cs)
theorem okCl:EJ Tryz.prog 19 (.shared (Mz Ns lH) (LP Ns resCl)) :=
 Nh (mk:=cX) (c:=AR Tryz.f19) Tryz.func19 (by kernel_rfl) (by kernel_rfl) iL (fun h=>qJ h) fun cs x hp=>match cs,hp with
 | [y],hp=>by
  simp only [lH,Bool.and_eq_true] at hp
  obtain ⟨⟨h1,h2⟩,h3,h4⟩:=hp
  refine ⟨[Am (BR y)],C9 (Ac x),_,_,⟨(Dx h1).1,trivial⟩,(Em h2).1,t19 (BR y) (Ac x) _ (by
   unfold G19 T19
   rw [CM,CM,Br,Br,h3,h4]
   rfl),.refl _,⟨(Dx h1).2,trivial⟩⟩
def envK5:Env:=envK4.add 19 (.shared (Mz Ns lH) (LP Ns resCl))
theorem QR:Ax Tryz.prog envK5:=(Env.add_ok Xd okCl)
end
noncomputable section
/-! ### function 40 -/
def rR (q:List Pt) (l:List (List Pt)) (n:Int) (i:Int):St:=⟨(U.f (A5 l)) :: (U.fn 19 [U.hp 0 0]) :: Ag 5 ((U.f (F.int .i64 n)) :: (U.f (F.int .i64 i)) :: Ag 10 []),[HO.box [(U.f (Am q))]]⟩
def dV {ρ:Type} (ret:L6 ρ) (c2:(List Pt)→(List (List Pt))→(Int)→(Int)→Option ρ) (q:List Pt) (l:List (List Pt)) (n:Int) (i:Int):Option ρ :=
 (AC (decide (i<n))
 (AC (decide (0≤i))
 (AC (decide (i<(↑l.length:Int)))
 (AC (C3 (Am q)&&B4 (F.agg [Am (l.getD i.toNat [])])&&(Bp (BR (Am q))&&Bp (Ac (F.agg [Am (l.getD i.toNat [])]))))
 (AC (EU (BR (Am q)) (Ac (F.agg [Am (l.getD i.toNat [])])))
 (ret (i))
 (c2 (q) (l) (n) (IntKind.i64.wrap (i+1))))
 none)
 none)
 none)
 (ret (-1)))
def Sx:Nat→(List Pt)→(List (List Pt))→(Int)→(Int)→Option (Int)
 | 0,_,_,_,_=>none
 | k+1,q,l,n,i=>dV some (Sx k) q l n i
def T40 {ρ:Type} (ret:L6 ρ) (c2:(List Pt)→(List (List Pt))→(Int)→(Int)→Option ρ) (q:List Pt) (l:List (List Pt)):Option ρ :=
 (c2 (q) (l) ((↑l.length:Int)) (0))
def G40 (k:Nat) (q:List Pt) (l:List (List Pt)):Option (Int):=T40 some (Sx k) q l
theorem t40_2:∀ (k:Nat) (q:List Pt) (l:List (List Pt)) (n:Int) (i:Int) (res:Int),Sx k q l n i=some res→CL Tryz.prog 1 Tryz.f40.results.toList (at_ Tryz.f40 2) (rR q l n i) (F.tup [F.int .i64 res,F.agg [Am q]])
 | 0,_,_,_,_,_,h=>nomatch h
 | k+1,q,l,n,i,res,h=>by
  refine AY.of_cut Ap QR (T:=[(2,[0,1,7,8],1000)]) (n:=200) ?_
  refine gE (Y:=dV (fun res=>some (.ret (F.tup [F.int .i64 res,F.agg [Am q]]))) (fun q l n i=>some (.cut (at_ Tryz.f40 2) (rR q l n i))) q l n i) (by kernel_rfl) ?_
  exact (gS h (fun _ h=>(gS h (fun _ h=>(gS h (fun _ h=>(gS h (fun _ h=>(gS h (fun _ h=>gR (by cases h;rfl)) (fun _ h=>gC (t40_2 k _ _ _ _ res h)))) gN)) gN)) gN)) (fun _ h=>gR (by cases h;rfl)))
theorem t40 (k:Nat) (q:List Pt) (l:List (List Pt)) (res:Int) (h:G40 k q l=some res):CL Tryz.prog 1 Tryz.f40.results.toList [.code (AR Tryz.f40)] (CU Tryz.f40.ntmps [U.f (A5 l),(U.fn 19 [U.hp 0 0])] [HO.box [(U.f (Am q))]]) (F.tup [F.int .i64 res,F.agg [Am q]]):=by
 refine AY.of_run Ap QR (T:=[(2,[0,1,7,8],1000)]) (n:=200) ?_
 refine gE (Y:=T40 (fun res=>some (.ret (F.tup [F.int .i64 res,F.agg [Am q]]))) (fun q l n i=>some (.cut (at_ Tryz.f40 2) (rR q l n i))) q l) (by kernel_rfl) ?_
 exact gC (t40_2 k _ _ _ _ res h)
def QE (q:List Pt):List (List Pt)→Nat→Int
 | [],_=>-1
 | p :: r,i=>bif EU q p then (i:Int) else QE q r (i+1)
def Gj (q:List Pt) (l:List (List Pt)):Bool:=l.any (EU q)
theorem cL (q:List Pt):∀ (l:List (List Pt)) (i:Nat),decide (QE q l i ≥ 0)=Gj q l
 | [],i=>rfl
 | p :: r,i=>by
  unfold Gj QE
  rw [List.any_cons]
  cases EU q p with
  | true=>rw [cond_true,decide_eq_true (by omega)];rfl
  | false=>rw [cond_false,cL q r (i+1)];rfl
theorem XB {q:List Pt} {l:List (List Pt)} (hn:l.length≤1000) (hq:Bp q=true) (hl:∀ p ∈ l,Bp p=true):∀ (d i k:Nat),i+d=l.length→d+1≤k→Sx k q l l.length i=some (QE q (l.drop i) i)
 | d,i,0,_,hk=>by omega
 | 0,i,k+1,hi,hk=>by
  rw [Sx]
  unfold dV
  rw [decide_eq_false (show ¬ (i:Int)<l.length by omega),List.drop_eq_nil_of_le (by omega)]
  rfl
 | d+1,i,k+1,hi,hk=>by
  have hlt:i<l.length:=by omega
  have hg:l.getD i []=l[i]:=by simp [List.getD,List.getElem?_eq_getElem hlt]
  have wi:IntKind.i64.wrap ((i:Int)+1)=((i+1:Nat):Int):=by rw [Av (by omega) (by omega)];omega
  rw [Sx]
  unfold dV
  rw [decide_eq_true (show (i:Int)<l.length by omega),decide_eq_true (show (0:Int)≤i by omega),Int.toNat_natCast,hg,wi,XB hn hq hl d (i+1) k (by omega) (by omega),List.drop_eq_getElem_cons hlt,QE,CM,Br,GE,E6,hq,hl _ (List.getElem_mem hlt)]
  simp only [AF,Bool.and_self]
  cases EU q l[i] <;> rfl
def Ib (l:List (List Pt)):Bool:=l.all Bp&&decide (l.length≤1000)
theorem Mk {l:List (List Pt)}:Ib l=true ↔ (∀ p ∈ l,Bp p=true)∧l.length≤1000:=by
 unfold Ib
 rw [Bool.and_eq_true,List.all_eq_true,decide_eq_true_eq]
def Kw:List F→F→Bool | [y],x=>C3 y&&B2 x&&(Bp (BR y)&&Ib (Au x)) | _,_=>false
def bC:List F→F→F × List F | [y],x=>(.int .i64 (QE (BR y) (Au x) 0),[y]) | cs,_=>(.dflt,cs)
theorem okIdxF:EJ Tryz.prog 40 (.shared (Mz (LO 19) Kw) (LP (LO 19) bC)) :=
 Nh (mk:=nU 19) (c:=AR Tryz.f40) Tryz.func40 (by kernel_rfl) (by kernel_rfl) (Xt _) (fun h=>cN h) fun cs x hp=>match cs,hp with
 | [y],hp=>by
  simp only [Kw,Bool.and_eq_true] at hp
  obtain ⟨⟨h1,h2⟩,h3,h4⟩:=hp
  obtain ⟨h5,h6⟩:=Mk.1 h4
  exact ⟨[Am (BR y)],A5 (Au x),_,_,⟨(Dx h1).1,trivial⟩,(Cv h2).1,t40 2000 (BR y) (Au x) _ (XB h6 h3 h5 (Au x).length 0 2000 (by omega) (by omega)),.refl _,⟨(Dx h1).2,trivial⟩⟩
def envK6:Env:=envK5.add 40 (.shared (Mz (LO 19) Kw) (LP (LO 19) bC))
theorem Xc:Ax Tryz.prog envK6:=(Env.add_ok QR okIdxF)
end
noncomputable section
/-! ### function 18 -/
def T18 {ρ:Type} (ret:VL ρ) (q:List Pt) (l:List (List Pt)):Option ρ :=
 (AC (C3 (Am q)&&B2 (A5 l)&&(Bp (BR (Am q))&&Ib (Au (A5 l))))
 (ret (decide (QE (BR (Am q)) (Au (A5 l)) 0 ≥ 0)))
 none)
def G18 (q:List Pt) (l:List (List Pt)):Option (Bool):=T18 some q l
theorem t18 (q:List Pt) (l:List (List Pt)) (res:Bool) (h:G18 q l=some res):CL Tryz.prog 1 Tryz.f18.results.toList [.code (AR Tryz.f18)] (CU Tryz.f18.ntmps [U.f (A5 l),(U.fn 19 [U.hp 0 0])] [HO.box [(U.f (Am q))]]) (F.tup [F.bool res,F.agg [Am q]]):=by
 refine AY.of_run Ap Xc (T:=[]) (n:=200) ?_
 refine gE (Y:=T18 (fun res=>some (.ret (F.tup [F.bool res,F.agg [Am q]]))) q l) (by kernel_rfl) ?_
 exact (gS h (fun _ h=>gR (by cases h;rfl)) gN)
def bD:List F→F→F × List F | [y],x=>(.bool (Gj (BR y) (Au x)),[y]) | cs,_=>(.dflt,cs)
theorem okHasF:EJ Tryz.prog 18 (.shared (Mz (LO 19) Kw) (LP (LO 19) bD)) :=
 Nh (mk:=nU 19) (c:=AR Tryz.f18) Tryz.func18 (by kernel_rfl) (by kernel_rfl) (Xt _) (fun h=>cN h) fun cs x hp=>match cs,hp with
 | [y],hp=>by
  simp only [Kw,Bool.and_eq_true] at hp
  obtain ⟨⟨h1,h2⟩,h3,h4⟩:=hp
  exact ⟨[Am (BR y)],A5 (Au x),_,_,⟨(Dx h1).1,trivial⟩,(Cv h2).1,t18 (BR y) (Au x) (Gj (BR y) (Au x)) (by
   unfold G18 T18
   rw [GE,E6,CV,B7,h3,h4,cL]
   rfl),.refl _,⟨(Dx h1).2,trivial⟩⟩
def envK7:Env:=envK6.add 18 (.shared (Mz (LO 19) Kw) (LP (LO 19) bD))
theorem Gd:Ax Tryz.prog envK7:=(Env.add_ok Xc okHasF)
end
end Go.Proofs.YtlefbocihikaoaaGreat.R
