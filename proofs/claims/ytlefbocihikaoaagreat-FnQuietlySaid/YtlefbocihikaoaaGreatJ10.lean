/-
 The own walk and what it shows,part 10 of 10.
-/
import Derived.Test.YtlefbocihikaoaaGreatJ1
import Derived.Test.YtlefbocihikaoaaGreatJ2
import Derived.Test.YtlefbocihikaoaaGreatJ3
import Derived.Test.YtlefbocihikaoaaGreatJ4
import Derived.Test.YtlefbocihikaoaaGreatJ5
import Derived.Test.YtlefbocihikaoaaGreatJ6
import Derived.Test.YtlefbocihikaoaaGreatJ7
import Derived.Test.YtlefbocihikaoaaGreatJ8
import Derived.Test.YtlefbocihikaoaaGreatJ9
set_option linter.unusedVariables false
set_option linter.unusedSimpArgs false
set_option maxRecDepth 100000
set_option exponentiation.threshold 30000
namespace Go.Proofs.YtlefbocihikaoaaGreat.R
open Go
noncomputable section
set_option maxHeartbeats 4000000
/-! ### function 15 -/
def rV (s:ByteArray) (p:Int) (n:Nat) (g:Nat→F) (x6:Int) (x7:Int):St:=⟨(U.hp 0 0) :: Ag 4 ((U.hs 1 n 0 n) :: (U.f (F.int .i64 x6)) :: (U.f (F.int .i64 x7)) :: Ag 106 []),[HO.box [U.f (AB s),U.f (F.int .i64 p)],HO.arr 4 n g]⟩
def S15_4v (s:ByteArray) (p:Int) (n:Nat) (o:List Sg) (x6:Int) (x7:Int):St:=⟨(U.hp 0 0) :: Ag 4 ((U.hs 1 n 0 n) :: (U.f (F.int .i64 x6)) :: (U.f (F.int .i64 x7)) :: Ag 106 []),[HO.box [U.f (AB s),U.f (F.int .i64 p)],HO.arr 4 n (fun i=>sgF (o.getD i Sg.zero))]⟩
def Sf {ρ:Type} (ret:(Nat)→(Nat→F)→(Int)→Option ρ) (c4:(ByteArray)→(Int)→(Nat)→(Nat→F)→(Int)→(Int)→Option ρ) (s:ByteArray) (p:Int) (n:Nat) (o:List Sg) (x6:Int) (x7:Int):Option ρ :=
 (AC (decide (x7<x6))
 (AC (Af (AB s)&&A9 (AA (AB s)) p&&true)
 (AC (Af (AB s)&&A9 (AA (AB s)) (AL [] (AA (AB s)) p).snd&&true)
 (AC (decide (x7 > 0)==true)
 (AC (Af (AB s)&&A9 (AA (AB s)) (AL [] (AA (AB s)) (AL [] (AA (AB s)) p).snd).snd)
 (AC ((Ar (AA (AB s)) (AL [] (AA (AB s)) (AL [] (AA (AB s)) p).snd).snd 3).fst)
 (AC (decide (n=n))
 (AC (decide (0≤IntKind.i64.wrap (x7-1)))
 (AC (decide (IntKind.i64.wrap (x7-1)<(↑n:Int)))
 (AC (decide (n=n))
 (AC (decide (n=n))
 (AC (decide (0+(IntKind.i64.wrap (x7-1)).toNat<n))
 (AC (decide (x7 > 0)==true)
 (AC (Af (AB s)&&A9 (AA (AB s)) (Ar (AA (AB s)) (AL [] (AA (AB s)) (AL [] (AA (AB s)) p).snd).snd 3).snd)
 (AC ((Ar (AA (AB s)) (Ar (AA (AB s)) (AL [] (AA (AB s)) (AL [] (AA (AB s)) p).snd).snd 3).snd 6).fst)
 (AC (decide (n=n))
 (AC (decide (0≤IntKind.i64.wrap (x7-1)))
 (AC (decide (IntKind.i64.wrap (x7-1)<(↑n:Int)))
 (AC (decide (n=n))
 (AC (decide (n=n))
 (AC (decide (0+(IntKind.i64.wrap (x7-1)).toNat<n))
 (AC (decide (n=n))
 (AC (decide (0≤IntKind.i64.wrap (x7-1)))
 (AC (decide (IntKind.i64.wrap (x7-1)<(↑n:Int)))
 (AC (decide (n=n))
 (AC (decide (n=n))
 (AC (decide (n=n))
 (AC (decide (0+(IntKind.i64.wrap (x7-1)).toNat<n))
 (AC (decide (n=n))
 (AC (decide (0≤IntKind.i64.wrap (x7-1)))
 (AC (decide (IntKind.i64.wrap (x7-1)<(↑n:Int)))
 (AC (decide (n=n))
 (AC (decide (n=n))
 (AC (decide (n=n))
 (AC (decide (0+(IntKind.i64.wrap (x7-1)).toNat<n))
 (AC (decide (n=n))
 (AC (decide (0≤IntKind.i64.wrap (x7-1)))
 (AC (decide (IntKind.i64.wrap (x7-1)<(↑n:Int)))
 (AC (decide (n=n))
 (AC (decide (n=n))
 (AC (decide (n=n))
 (AC (decide (0+(IntKind.i64.wrap (x7-1)).toNat<n))
 (AC (decide (n=n))
 (AC (decide (0≤IntKind.i64.wrap (x7-1)))
 (AC (decide (IntKind.i64.wrap (x7-1)<(↑n:Int)))
 (AC (decide (n=n))
 (AC (decide (n=n))
 (AC (decide (n=n))
 (AC (decide (0+(IntKind.i64.wrap (x7-1)).toNat<n))
 (AC ((o.getD (0+(IntKind.i64.wrap (x7-1)).toNat) Sg.zero).x0==IntKind.i64.wrap (IntKind.i64.wrap (2*(o.getD (0+(IntKind.i64.wrap (x7-1)).toNat) Sg.zero).x1)-(o.getD (0+(IntKind.i64.wrap (x7-1)).toNat) Sg.zero).x0)&&((o.getD (0+(IntKind.i64.wrap (x7-1)).toNat) Sg.zero).y0==IntKind.i64.wrap (IntKind.i64.wrap (2*(o.getD (0+(IntKind.i64.wrap (x7-1)).toNat) Sg.zero).y1)-(o.getD (0+(IntKind.i64.wrap (x7-1)).toNat) Sg.zero).y0)&&true))
 (AC (decide (n=n))
 (AC (decide (n=n))
 (AC (decide ((↑(n+1):Int)*(((32:Nat):Int)+1)≤(↑BC:Int)))
 (c4 (s) ((Ar (AA (AB s)) (Ar (AA (AB s)) (AL [] (AA (AB s)) (AL [] (AA (AB s)) p).snd).snd 3).snd 6).snd) (n+1) (fun j ↦ if j<n then F.agg [F.int .i64 (o.getD j Sg.zero).x0,F.int .i64 (o.getD j Sg.zero).y0,F.int .i64 (o.getD j Sg.zero).x1,F.int .i64 (o.getD j Sg.zero).y1] else F.agg [F.int .i64 (Aq (o.getD (0+(IntKind.i64.wrap (x7-1)).toNat) Sg.zero).x0 (o.getD (0+(IntKind.i64.wrap (x7-1)).toNat) Sg.zero).y0 (IntKind.i64.wrap (IntKind.i64.wrap (2*(o.getD (0+(IntKind.i64.wrap (x7-1)).toNat) Sg.zero).x1)-(o.getD (0+(IntKind.i64.wrap (x7-1)).toNat) Sg.zero).x0)) (IntKind.i64.wrap (IntKind.i64.wrap (IntKind.i64.wrap (2*(o.getD (0+(IntKind.i64.wrap (x7-1)).toNat) Sg.zero).y1)-(o.getD (0+(IntKind.i64.wrap (x7-1)).toNat) Sg.zero).y0)+1))).fst.x0,F.int .i64 (Aq (o.getD (0+(IntKind.i64.wrap (x7-1)).toNat) Sg.zero).x0 (o.getD (0+(IntKind.i64.wrap (x7-1)).toNat) Sg.zero).y0 (IntKind.i64.wrap (IntKind.i64.wrap (2*(o.getD (0+(IntKind.i64.wrap (x7-1)).toNat) Sg.zero).x1)-(o.getD (0+(IntKind.i64.wrap (x7-1)).toNat) Sg.zero).x0)) (IntKind.i64.wrap (IntKind.i64.wrap (IntKind.i64.wrap (2*(o.getD (0+(IntKind.i64.wrap (x7-1)).toNat) Sg.zero).y1)-(o.getD (0+(IntKind.i64.wrap (x7-1)).toNat) Sg.zero).y0)+1))).fst.y0,F.int .i64 (Aq (o.getD (0+(IntKind.i64.wrap (x7-1)).toNat) Sg.zero).x0 (o.getD (0+(IntKind.i64.wrap (x7-1)).toNat) Sg.zero).y0 (IntKind.i64.wrap (IntKind.i64.wrap (2*(o.getD (0+(IntKind.i64.wrap (x7-1)).toNat) Sg.zero).x1)-(o.getD (0+(IntKind.i64.wrap (x7-1)).toNat) Sg.zero).x0)) (IntKind.i64.wrap (IntKind.i64.wrap (IntKind.i64.wrap (2*(o.getD (0+(IntKind.i64.wrap (x7-1)).toNat) Sg.zero).y1)-(o.getD (0+(IntKind.i64.wrap (x7-1)).toNat) Sg.zero).y0)+1))).fst.x1,F.int .i64 (Aq (o.getD (0+(IntKind.i64.wrap (x7-1)).toNat) Sg.zero).x0 (o.getD (0+(IntKind.i64.wrap (x7-1)).toNat) Sg.zero).y0 (IntKind.i64.wrap (IntKind.i64.wrap (2*(o.getD (0+(IntKind.i64.wrap (x7-1)).toNat) Sg.zero).x1)-(o.getD (0+(IntKind.i64.wrap (x7-1)).toNat) Sg.zero).x0)) (IntKind.i64.wrap (IntKind.i64.wrap (IntKind.i64.wrap (2*(o.getD (0+(IntKind.i64.wrap (x7-1)).toNat) Sg.zero).y1)-(o.getD (0+(IntKind.i64.wrap (x7-1)).toNat) Sg.zero).y0)+1))).fst.y1]) (x6) (IntKind.i64.wrap (x7+1)))
 none)
 none)
 none)
 (AC (decide (n=n))
 (AC (decide (n=n))
 (AC (decide ((↑(n+1):Int)*(((32:Nat):Int)+1)≤(↑BC:Int)))
 (c4 (s) ((Ar (AA (AB s)) (Ar (AA (AB s)) (AL [] (AA (AB s)) (AL [] (AA (AB s)) p).snd).snd 3).snd 6).snd) (n+1) (fun j ↦ if j<n then F.agg [F.int .i64 (o.getD j Sg.zero).x0,F.int .i64 (o.getD j Sg.zero).y0,F.int .i64 (o.getD j Sg.zero).x1,F.int .i64 (o.getD j Sg.zero).y1] else F.agg [F.int .i64 (Aq (o.getD (0+(IntKind.i64.wrap (x7-1)).toNat) Sg.zero).x0 (o.getD (0+(IntKind.i64.wrap (x7-1)).toNat) Sg.zero).y0 (IntKind.i64.wrap (IntKind.i64.wrap (2*(o.getD (0+(IntKind.i64.wrap (x7-1)).toNat) Sg.zero).x1)-(o.getD (0+(IntKind.i64.wrap (x7-1)).toNat) Sg.zero).x0)) (IntKind.i64.wrap (IntKind.i64.wrap (2*(o.getD (0+(IntKind.i64.wrap (x7-1)).toNat) Sg.zero).y1)-(o.getD (0+(IntKind.i64.wrap (x7-1)).toNat) Sg.zero).y0))).fst.x0,F.int .i64 (Aq (o.getD (0+(IntKind.i64.wrap (x7-1)).toNat) Sg.zero).x0 (o.getD (0+(IntKind.i64.wrap (x7-1)).toNat) Sg.zero).y0 (IntKind.i64.wrap (IntKind.i64.wrap (2*(o.getD (0+(IntKind.i64.wrap (x7-1)).toNat) Sg.zero).x1)-(o.getD (0+(IntKind.i64.wrap (x7-1)).toNat) Sg.zero).x0)) (IntKind.i64.wrap (IntKind.i64.wrap (2*(o.getD (0+(IntKind.i64.wrap (x7-1)).toNat) Sg.zero).y1)-(o.getD (0+(IntKind.i64.wrap (x7-1)).toNat) Sg.zero).y0))).fst.y0,F.int .i64 (Aq (o.getD (0+(IntKind.i64.wrap (x7-1)).toNat) Sg.zero).x0 (o.getD (0+(IntKind.i64.wrap (x7-1)).toNat) Sg.zero).y0 (IntKind.i64.wrap (IntKind.i64.wrap (2*(o.getD (0+(IntKind.i64.wrap (x7-1)).toNat) Sg.zero).x1)-(o.getD (0+(IntKind.i64.wrap (x7-1)).toNat) Sg.zero).x0)) (IntKind.i64.wrap (IntKind.i64.wrap (2*(o.getD (0+(IntKind.i64.wrap (x7-1)).toNat) Sg.zero).y1)-(o.getD (0+(IntKind.i64.wrap (x7-1)).toNat) Sg.zero).y0))).fst.x1,F.int .i64 (Aq (o.getD (0+(IntKind.i64.wrap (x7-1)).toNat) Sg.zero).x0 (o.getD (0+(IntKind.i64.wrap (x7-1)).toNat) Sg.zero).y0 (IntKind.i64.wrap (IntKind.i64.wrap (2*(o.getD (0+(IntKind.i64.wrap (x7-1)).toNat) Sg.zero).x1)-(o.getD (0+(IntKind.i64.wrap (x7-1)).toNat) Sg.zero).x0)) (IntKind.i64.wrap (IntKind.i64.wrap (2*(o.getD (0+(IntKind.i64.wrap (x7-1)).toNat) Sg.zero).y1)-(o.getD (0+(IntKind.i64.wrap (x7-1)).toNat) Sg.zero).y0))).fst.y1]) (x6) (IntKind.i64.wrap (x7+1)))
 none)
 none)
 none))
 none)
 none)
 none)
 none)
 none)
 none)
 none)
 none)
 none)
 none)
 none)
 none)
 none)
 none)
 none)
 none)
 none)
 none)
 none)
 none)
 none)
 none)
 none)
 none)
 none)
 none)
 none)
 none)
 none)
 none)
 none)
 none)
 none)
 none)
 (AC ((o.getD (0+(IntKind.i64.wrap (x7-1)).toNat) Sg.zero).x1==(AV (AA (AB s)) (AL [] (AA (AB s)) p).snd).fst&&((o.getD (0+(IntKind.i64.wrap (x7-1)).toNat) Sg.zero).y1==(AV (AA (AB s)) (AL [] (AA (AB s)) p).snd).snd.fst&&true))
 (AC (decide (n=n))
 (AC (decide (n=n))
 (AC (decide ((↑(n+1):Int)*(((32:Nat):Int)+1)≤(↑BC:Int)))
 (c4 (s) ((Ar (AA (AB s)) (Ar (AA (AB s)) (AL [] (AA (AB s)) (AL [] (AA (AB s)) p).snd).snd 3).snd 6).snd) (n+1) (fun j ↦ if j<n then F.agg [F.int .i64 (o.getD j Sg.zero).x0,F.int .i64 (o.getD j Sg.zero).y0,F.int .i64 (o.getD j Sg.zero).x1,F.int .i64 (o.getD j Sg.zero).y1] else F.agg [F.int .i64 (Aq (o.getD (0+(IntKind.i64.wrap (x7-1)).toNat) Sg.zero).x1 (o.getD (0+(IntKind.i64.wrap (x7-1)).toNat) Sg.zero).y1 (AV (AA (AB s)) (AL [] (AA (AB s)) p).snd).fst (IntKind.i64.wrap ((AV (AA (AB s)) (AL [] (AA (AB s)) p).snd).snd.fst+1))).fst.x0,F.int .i64 (Aq (o.getD (0+(IntKind.i64.wrap (x7-1)).toNat) Sg.zero).x1 (o.getD (0+(IntKind.i64.wrap (x7-1)).toNat) Sg.zero).y1 (AV (AA (AB s)) (AL [] (AA (AB s)) p).snd).fst (IntKind.i64.wrap ((AV (AA (AB s)) (AL [] (AA (AB s)) p).snd).snd.fst+1))).fst.y0,F.int .i64 (Aq (o.getD (0+(IntKind.i64.wrap (x7-1)).toNat) Sg.zero).x1 (o.getD (0+(IntKind.i64.wrap (x7-1)).toNat) Sg.zero).y1 (AV (AA (AB s)) (AL [] (AA (AB s)) p).snd).fst (IntKind.i64.wrap ((AV (AA (AB s)) (AL [] (AA (AB s)) p).snd).snd.fst+1))).fst.x1,F.int .i64 (Aq (o.getD (0+(IntKind.i64.wrap (x7-1)).toNat) Sg.zero).x1 (o.getD (0+(IntKind.i64.wrap (x7-1)).toNat) Sg.zero).y1 (AV (AA (AB s)) (AL [] (AA (AB s)) p).snd).fst (IntKind.i64.wrap ((AV (AA (AB s)) (AL [] (AA (AB s)) p).snd).snd.fst+1))).fst.y1]) (x6) (IntKind.i64.wrap (x7+1)))
 none)
 none)
 none)
 (AC (decide (n=n))
 (AC (decide (n=n))
 (AC (decide ((↑(n+1):Int)*(((32:Nat):Int)+1)≤(↑BC:Int)))
 (c4 (s) ((Ar (AA (AB s)) (Ar (AA (AB s)) (AL [] (AA (AB s)) (AL [] (AA (AB s)) p).snd).snd 3).snd 6).snd) (n+1) (fun j ↦ if j<n then F.agg [F.int .i64 (o.getD j Sg.zero).x0,F.int .i64 (o.getD j Sg.zero).y0,F.int .i64 (o.getD j Sg.zero).x1,F.int .i64 (o.getD j Sg.zero).y1] else F.agg [F.int .i64 (Aq (o.getD (0+(IntKind.i64.wrap (x7-1)).toNat) Sg.zero).x1 (o.getD (0+(IntKind.i64.wrap (x7-1)).toNat) Sg.zero).y1 (AV (AA (AB s)) (AL [] (AA (AB s)) p).snd).fst (AV (AA (AB s)) (AL [] (AA (AB s)) p).snd).snd.fst).fst.x0,F.int .i64 (Aq (o.getD (0+(IntKind.i64.wrap (x7-1)).toNat) Sg.zero).x1 (o.getD (0+(IntKind.i64.wrap (x7-1)).toNat) Sg.zero).y1 (AV (AA (AB s)) (AL [] (AA (AB s)) p).snd).fst (AV (AA (AB s)) (AL [] (AA (AB s)) p).snd).snd.fst).fst.y0,F.int .i64 (Aq (o.getD (0+(IntKind.i64.wrap (x7-1)).toNat) Sg.zero).x1 (o.getD (0+(IntKind.i64.wrap (x7-1)).toNat) Sg.zero).y1 (AV (AA (AB s)) (AL [] (AA (AB s)) p).snd).fst (AV (AA (AB s)) (AL [] (AA (AB s)) p).snd).snd.fst).fst.x1,F.int .i64 (Aq (o.getD (0+(IntKind.i64.wrap (x7-1)).toNat) Sg.zero).x1 (o.getD (0+(IntKind.i64.wrap (x7-1)).toNat) Sg.zero).y1 (AV (AA (AB s)) (AL [] (AA (AB s)) p).snd).fst (AV (AA (AB s)) (AL [] (AA (AB s)) p).snd).snd.fst).fst.y1]) (x6) (IntKind.i64.wrap (x7+1)))
 none)
 none)
 none)))
 none)
 (AC ((o.getD (0+(IntKind.i64.wrap (x7-1)).toNat) Sg.zero).x1==(AV (AA (AB s)) (AL [] (AA (AB s)) p).snd).fst&&((o.getD (0+(IntKind.i64.wrap (x7-1)).toNat) Sg.zero).y1==(AV (AA (AB s)) (AL [] (AA (AB s)) p).snd).snd.fst&&true))
 (AC (decide (n=n))
 (AC (decide (n=n))
 (AC (decide ((↑(n+1):Int)*(((32:Nat):Int)+1)≤(↑BC:Int)))
 (c4 (s) ((Ar (AA (AB s)) (AL [] (AA (AB s)) (AL [] (AA (AB s)) p).snd).snd 3).snd) (n+1) (fun j ↦ if j<n then F.agg [F.int .i64 (o.getD j Sg.zero).x0,F.int .i64 (o.getD j Sg.zero).y0,F.int .i64 (o.getD j Sg.zero).x1,F.int .i64 (o.getD j Sg.zero).y1] else F.agg [F.int .i64 (Aq (o.getD (0+(IntKind.i64.wrap (x7-1)).toNat) Sg.zero).x1 (o.getD (0+(IntKind.i64.wrap (x7-1)).toNat) Sg.zero).y1 (AV (AA (AB s)) (AL [] (AA (AB s)) p).snd).fst (IntKind.i64.wrap ((AV (AA (AB s)) (AL [] (AA (AB s)) p).snd).snd.fst+1))).fst.x0,F.int .i64 (Aq (o.getD (0+(IntKind.i64.wrap (x7-1)).toNat) Sg.zero).x1 (o.getD (0+(IntKind.i64.wrap (x7-1)).toNat) Sg.zero).y1 (AV (AA (AB s)) (AL [] (AA (AB s)) p).snd).fst (IntKind.i64.wrap ((AV (AA (AB s)) (AL [] (AA (AB s)) p).snd).snd.fst+1))).fst.y0,F.int .i64 (Aq (o.getD (0+(IntKind.i64.wrap (x7-1)).toNat) Sg.zero).x1 (o.getD (0+(IntKind.i64.wrap (x7-1)).toNat) Sg.zero).y1 (AV (AA (AB s)) (AL [] (AA (AB s)) p).snd).fst (IntKind.i64.wrap ((AV (AA (AB s)) (AL [] (AA (AB s)) p).snd).snd.fst+1))).fst.x1,F.int .i64 (Aq (o.getD (0+(IntKind.i64.wrap (x7-1)).toNat) Sg.zero).x1 (o.getD (0+(IntKind.i64.wrap (x7-1)).toNat) Sg.zero).y1 (AV (AA (AB s)) (AL [] (AA (AB s)) p).snd).fst (IntKind.i64.wrap ((AV (AA (AB s)) (AL [] (AA (AB s)) p).snd).snd.fst+1))).fst.y1]) (x6) (IntKind.i64.wrap (x7+1)))
 none)
 none)
 none)
 (AC (decide (n=n))
 (AC (decide (n=n))
 (AC (decide ((↑(n+1):Int)*(((32:Nat):Int)+1)≤(↑BC:Int)))
 (c4 (s) ((Ar (AA (AB s)) (AL [] (AA (AB s)) (AL [] (AA (AB s)) p).snd).snd 3).snd) (n+1) (fun j ↦ if j<n then F.agg [F.int .i64 (o.getD j Sg.zero).x0,F.int .i64 (o.getD j Sg.zero).y0,F.int .i64 (o.getD j Sg.zero).x1,F.int .i64 (o.getD j Sg.zero).y1] else F.agg [F.int .i64 (Aq (o.getD (0+(IntKind.i64.wrap (x7-1)).toNat) Sg.zero).x1 (o.getD (0+(IntKind.i64.wrap (x7-1)).toNat) Sg.zero).y1 (AV (AA (AB s)) (AL [] (AA (AB s)) p).snd).fst (AV (AA (AB s)) (AL [] (AA (AB s)) p).snd).snd.fst).fst.x0,F.int .i64 (Aq (o.getD (0+(IntKind.i64.wrap (x7-1)).toNat) Sg.zero).x1 (o.getD (0+(IntKind.i64.wrap (x7-1)).toNat) Sg.zero).y1 (AV (AA (AB s)) (AL [] (AA (AB s)) p).snd).fst (AV (AA (AB s)) (AL [] (AA (AB s)) p).snd).snd.fst).fst.y0,F.int .i64 (Aq (o.getD (0+(IntKind.i64.wrap (x7-1)).toNat) Sg.zero).x1 (o.getD (0+(IntKind.i64.wrap (x7-1)).toNat) Sg.zero).y1 (AV (AA (AB s)) (AL [] (AA (AB s)) p).snd).fst (AV (AA (AB s)) (AL [] (AA (AB s)) p).snd).snd.fst).fst.x1,F.int .i64 (Aq (o.getD (0+(IntKind.i64.wrap (x7-1)).toNat) Sg.zero).x1 (o.getD (0+(IntKind.i64.wrap (x7-1)).toNat) Sg.zero).y1 (AV (AA (AB s)) (AL [] (AA (AB s)) p).snd).fst (AV (AA (AB s)) (AL [] (AA (AB s)) p).snd).snd.fst).fst.y1]) (x6) (IntKind.i64.wrap (x7+1)))
 none)
 none)
 none)))
 none)
 none)
 none)
 none)
 none)
 none)
 (AC (decide (x7 > 0)==true)
 (AC (Af (AB s)&&A9 (AA (AB s)) (Ar (AA (AB s)) (AL [] (AA (AB s)) (AL [] (AA (AB s)) p).snd).snd 3).snd)
 (AC ((Ar (AA (AB s)) (Ar (AA (AB s)) (AL [] (AA (AB s)) (AL [] (AA (AB s)) p).snd).snd 3).snd 6).fst)
 (AC (decide (n=n))
 (AC (decide (0≤IntKind.i64.wrap (x7-1)))
 (AC (decide (IntKind.i64.wrap (x7-1)<(↑n:Int)))
 (AC (decide (n=n))
 (AC (decide (n=n))
 (AC (decide (0+(IntKind.i64.wrap (x7-1)).toNat<n))
 (AC (decide (n=n))
 (AC (decide (0≤IntKind.i64.wrap (x7-1)))
 (AC (decide (IntKind.i64.wrap (x7-1)<(↑n:Int)))
 (AC (decide (n=n))
 (AC (decide (n=n))
 (AC (decide (n=n))
 (AC (decide (0+(IntKind.i64.wrap (x7-1)).toNat<n))
 (AC (decide (n=n))
 (AC (decide (0≤IntKind.i64.wrap (x7-1)))
 (AC (decide (IntKind.i64.wrap (x7-1)<(↑n:Int)))
 (AC (decide (n=n))
 (AC (decide (n=n))
 (AC (decide (n=n))
 (AC (decide (0+(IntKind.i64.wrap (x7-1)).toNat<n))
 (AC (decide (n=n))
 (AC (decide (0≤IntKind.i64.wrap (x7-1)))
 (AC (decide (IntKind.i64.wrap (x7-1)<(↑n:Int)))
 (AC (decide (n=n))
 (AC (decide (n=n))
 (AC (decide (n=n))
 (AC (decide (0+(IntKind.i64.wrap (x7-1)).toNat<n))
 (AC (decide (n=n))
 (AC (decide (0≤IntKind.i64.wrap (x7-1)))
 (AC (decide (IntKind.i64.wrap (x7-1)<(↑n:Int)))
 (AC (decide (n=n))
 (AC (decide (n=n))
 (AC (decide (n=n))
 (AC (decide (0+(IntKind.i64.wrap (x7-1)).toNat<n))
 (AC ((o.getD (0+(IntKind.i64.wrap (x7-1)).toNat) Sg.zero).x0==IntKind.i64.wrap (IntKind.i64.wrap (2*(o.getD (0+(IntKind.i64.wrap (x7-1)).toNat) Sg.zero).x1)-(o.getD (0+(IntKind.i64.wrap (x7-1)).toNat) Sg.zero).x0)&&((o.getD (0+(IntKind.i64.wrap (x7-1)).toNat) Sg.zero).y0==IntKind.i64.wrap (IntKind.i64.wrap (2*(o.getD (0+(IntKind.i64.wrap (x7-1)).toNat) Sg.zero).y1)-(o.getD (0+(IntKind.i64.wrap (x7-1)).toNat) Sg.zero).y0)&&true))
 (AC (decide (n=n))
 (AC (decide (n=n))
 (AC (decide ((↑(n+1):Int)*(((32:Nat):Int)+1)≤(↑BC:Int)))
 (c4 (s) ((Ar (AA (AB s)) (Ar (AA (AB s)) (AL [] (AA (AB s)) (AL [] (AA (AB s)) p).snd).snd 3).snd 6).snd) (n+1) (fun j ↦ if j<n then F.agg [F.int .i64 (o.getD j Sg.zero).x0,F.int .i64 (o.getD j Sg.zero).y0,F.int .i64 (o.getD j Sg.zero).x1,F.int .i64 (o.getD j Sg.zero).y1] else F.agg [F.int .i64 (Aq (o.getD (0+(IntKind.i64.wrap (x7-1)).toNat) Sg.zero).x0 (o.getD (0+(IntKind.i64.wrap (x7-1)).toNat) Sg.zero).y0 (IntKind.i64.wrap (IntKind.i64.wrap (2*(o.getD (0+(IntKind.i64.wrap (x7-1)).toNat) Sg.zero).x1)-(o.getD (0+(IntKind.i64.wrap (x7-1)).toNat) Sg.zero).x0)) (IntKind.i64.wrap (IntKind.i64.wrap (IntKind.i64.wrap (2*(o.getD (0+(IntKind.i64.wrap (x7-1)).toNat) Sg.zero).y1)-(o.getD (0+(IntKind.i64.wrap (x7-1)).toNat) Sg.zero).y0)+1))).fst.x0,F.int .i64 (Aq (o.getD (0+(IntKind.i64.wrap (x7-1)).toNat) Sg.zero).x0 (o.getD (0+(IntKind.i64.wrap (x7-1)).toNat) Sg.zero).y0 (IntKind.i64.wrap (IntKind.i64.wrap (2*(o.getD (0+(IntKind.i64.wrap (x7-1)).toNat) Sg.zero).x1)-(o.getD (0+(IntKind.i64.wrap (x7-1)).toNat) Sg.zero).x0)) (IntKind.i64.wrap (IntKind.i64.wrap (IntKind.i64.wrap (2*(o.getD (0+(IntKind.i64.wrap (x7-1)).toNat) Sg.zero).y1)-(o.getD (0+(IntKind.i64.wrap (x7-1)).toNat) Sg.zero).y0)+1))).fst.y0,F.int .i64 (Aq (o.getD (0+(IntKind.i64.wrap (x7-1)).toNat) Sg.zero).x0 (o.getD (0+(IntKind.i64.wrap (x7-1)).toNat) Sg.zero).y0 (IntKind.i64.wrap (IntKind.i64.wrap (2*(o.getD (0+(IntKind.i64.wrap (x7-1)).toNat) Sg.zero).x1)-(o.getD (0+(IntKind.i64.wrap (x7-1)).toNat) Sg.zero).x0)) (IntKind.i64.wrap (IntKind.i64.wrap (IntKind.i64.wrap (2*(o.getD (0+(IntKind.i64.wrap (x7-1)).toNat) Sg.zero).y1)-(o.getD (0+(IntKind.i64.wrap (x7-1)).toNat) Sg.zero).y0)+1))).fst.x1,F.int .i64 (Aq (o.getD (0+(IntKind.i64.wrap (x7-1)).toNat) Sg.zero).x0 (o.getD (0+(IntKind.i64.wrap (x7-1)).toNat) Sg.zero).y0 (IntKind.i64.wrap (IntKind.i64.wrap (2*(o.getD (0+(IntKind.i64.wrap (x7-1)).toNat) Sg.zero).x1)-(o.getD (0+(IntKind.i64.wrap (x7-1)).toNat) Sg.zero).x0)) (IntKind.i64.wrap (IntKind.i64.wrap (IntKind.i64.wrap (2*(o.getD (0+(IntKind.i64.wrap (x7-1)).toNat) Sg.zero).y1)-(o.getD (0+(IntKind.i64.wrap (x7-1)).toNat) Sg.zero).y0)+1))).fst.y1]) (x6) (IntKind.i64.wrap (x7+1)))
 none)
 none)
 none)
 (AC (decide (n=n))
 (AC (decide (n=n))
 (AC (decide ((↑(n+1):Int)*(((32:Nat):Int)+1)≤(↑BC:Int)))
 (c4 (s) ((Ar (AA (AB s)) (Ar (AA (AB s)) (AL [] (AA (AB s)) (AL [] (AA (AB s)) p).snd).snd 3).snd 6).snd) (n+1) (fun j ↦ if j<n then F.agg [F.int .i64 (o.getD j Sg.zero).x0,F.int .i64 (o.getD j Sg.zero).y0,F.int .i64 (o.getD j Sg.zero).x1,F.int .i64 (o.getD j Sg.zero).y1] else F.agg [F.int .i64 (Aq (o.getD (0+(IntKind.i64.wrap (x7-1)).toNat) Sg.zero).x0 (o.getD (0+(IntKind.i64.wrap (x7-1)).toNat) Sg.zero).y0 (IntKind.i64.wrap (IntKind.i64.wrap (2*(o.getD (0+(IntKind.i64.wrap (x7-1)).toNat) Sg.zero).x1)-(o.getD (0+(IntKind.i64.wrap (x7-1)).toNat) Sg.zero).x0)) (IntKind.i64.wrap (IntKind.i64.wrap (2*(o.getD (0+(IntKind.i64.wrap (x7-1)).toNat) Sg.zero).y1)-(o.getD (0+(IntKind.i64.wrap (x7-1)).toNat) Sg.zero).y0))).fst.x0,F.int .i64 (Aq (o.getD (0+(IntKind.i64.wrap (x7-1)).toNat) Sg.zero).x0 (o.getD (0+(IntKind.i64.wrap (x7-1)).toNat) Sg.zero).y0 (IntKind.i64.wrap (IntKind.i64.wrap (2*(o.getD (0+(IntKind.i64.wrap (x7-1)).toNat) Sg.zero).x1)-(o.getD (0+(IntKind.i64.wrap (x7-1)).toNat) Sg.zero).x0)) (IntKind.i64.wrap (IntKind.i64.wrap (2*(o.getD (0+(IntKind.i64.wrap (x7-1)).toNat) Sg.zero).y1)-(o.getD (0+(IntKind.i64.wrap (x7-1)).toNat) Sg.zero).y0))).fst.y0,F.int .i64 (Aq (o.getD (0+(IntKind.i64.wrap (x7-1)).toNat) Sg.zero).x0 (o.getD (0+(IntKind.i64.wrap (x7-1)).toNat) Sg.zero).y0 (IntKind.i64.wrap (IntKind.i64.wrap (2*(o.getD (0+(IntKind.i64.wrap (x7-1)).toNat) Sg.zero).x1)-(o.getD (0+(IntKind.i64.wrap (x7-1)).toNat) Sg.zero).x0)) (IntKind.i64.wrap (IntKind.i64.wrap (2*(o.getD (0+(IntKind.i64.wrap (x7-1)).toNat) Sg.zero).y1)-(o.getD (0+(IntKind.i64.wrap (x7-1)).toNat) Sg.zero).y0))).fst.x1,F.int .i64 (Aq (o.getD (0+(IntKind.i64.wrap (x7-1)).toNat) Sg.zero).x0 (o.getD (0+(IntKind.i64.wrap (x7-1)).toNat) Sg.zero).y0 (IntKind.i64.wrap (IntKind.i64.wrap (2*(o.getD (0+(IntKind.i64.wrap (x7-1)).toNat) Sg.zero).x1)-(o.getD (0+(IntKind.i64.wrap (x7-1)).toNat) Sg.zero).x0)) (IntKind.i64.wrap (IntKind.i64.wrap (2*(o.getD (0+(IntKind.i64.wrap (x7-1)).toNat) Sg.zero).y1)-(o.getD (0+(IntKind.i64.wrap (x7-1)).toNat) Sg.zero).y0))).fst.y1]) (x6) (IntKind.i64.wrap (x7+1)))
 none)
 none)
 none))
 none)
 none)
 none)
 none)
 none)
 none)
 none)
 none)
 none)
 none)
 none)
 none)
 none)
 none)
 none)
 none)
 none)
 none)
 none)
 none)
 none)
 none)
 none)
 none)
 none)
 none)
 none)
 none)
 none)
 none)
 none)
 none)
 none)
 none)
 (AC ((AV (AA (AB s)) p).fst==(AV (AA (AB s)) (AL [] (AA (AB s)) p).snd).fst&&((AV (AA (AB s)) p).snd.fst==(AV (AA (AB s)) (AL [] (AA (AB s)) p).snd).snd.fst&&true))
 (AC (decide (n=n))
 (AC (decide (n=n))
 (AC (decide ((↑(n+1):Int)*(((32:Nat):Int)+1)≤(↑BC:Int)))
 (c4 (s) ((Ar (AA (AB s)) (Ar (AA (AB s)) (AL [] (AA (AB s)) (AL [] (AA (AB s)) p).snd).snd 3).snd 6).snd) (n+1) (fun j ↦ if j<n then F.agg [F.int .i64 (o.getD j Sg.zero).x0,F.int .i64 (o.getD j Sg.zero).y0,F.int .i64 (o.getD j Sg.zero).x1,F.int .i64 (o.getD j Sg.zero).y1] else F.agg [F.int .i64 (Aq (AV (AA (AB s)) p).fst (AV (AA (AB s)) p).snd.fst (AV (AA (AB s)) (AL [] (AA (AB s)) p).snd).fst (IntKind.i64.wrap ((AV (AA (AB s)) (AL [] (AA (AB s)) p).snd).snd.fst+1))).fst.x0,F.int .i64 (Aq (AV (AA (AB s)) p).fst (AV (AA (AB s)) p).snd.fst (AV (AA (AB s)) (AL [] (AA (AB s)) p).snd).fst (IntKind.i64.wrap ((AV (AA (AB s)) (AL [] (AA (AB s)) p).snd).snd.fst+1))).fst.y0,F.int .i64 (Aq (AV (AA (AB s)) p).fst (AV (AA (AB s)) p).snd.fst (AV (AA (AB s)) (AL [] (AA (AB s)) p).snd).fst (IntKind.i64.wrap ((AV (AA (AB s)) (AL [] (AA (AB s)) p).snd).snd.fst+1))).fst.x1,F.int .i64 (Aq (AV (AA (AB s)) p).fst (AV (AA (AB s)) p).snd.fst (AV (AA (AB s)) (AL [] (AA (AB s)) p).snd).fst (IntKind.i64.wrap ((AV (AA (AB s)) (AL [] (AA (AB s)) p).snd).snd.fst+1))).fst.y1]) (x6) (IntKind.i64.wrap (x7+1)))
 none)
 none)
 none)
 (AC (decide (n=n))
 (AC (decide (n=n))
 (AC (decide ((↑(n+1):Int)*(((32:Nat):Int)+1)≤(↑BC:Int)))
 (c4 (s) ((Ar (AA (AB s)) (Ar (AA (AB s)) (AL [] (AA (AB s)) (AL [] (AA (AB s)) p).snd).snd 3).snd 6).snd) (n+1) (fun j ↦ if j<n then F.agg [F.int .i64 (o.getD j Sg.zero).x0,F.int .i64 (o.getD j Sg.zero).y0,F.int .i64 (o.getD j Sg.zero).x1,F.int .i64 (o.getD j Sg.zero).y1] else F.agg [F.int .i64 (Aq (AV (AA (AB s)) p).fst (AV (AA (AB s)) p).snd.fst (AV (AA (AB s)) (AL [] (AA (AB s)) p).snd).fst (AV (AA (AB s)) (AL [] (AA (AB s)) p).snd).snd.fst).fst.x0,F.int .i64 (Aq (AV (AA (AB s)) p).fst (AV (AA (AB s)) p).snd.fst (AV (AA (AB s)) (AL [] (AA (AB s)) p).snd).fst (AV (AA (AB s)) (AL [] (AA (AB s)) p).snd).snd.fst).fst.y0,F.int .i64 (Aq (AV (AA (AB s)) p).fst (AV (AA (AB s)) p).snd.fst (AV (AA (AB s)) (AL [] (AA (AB s)) p).snd).fst (AV (AA (AB s)) (AL [] (AA (AB s)) p).snd).snd.fst).fst.x1,F.int .i64 (Aq (AV (AA (AB s)) p).fst (AV (AA (AB s)) p).snd.fst (AV (AA (AB s)) (AL [] (AA (AB s)) p).snd).fst (AV (AA (AB s)) (AL [] (AA (AB s)) p).snd).snd.fst).fst.y1]) (x6) (IntKind.i64.wrap (x7+1)))
 none)
 none)
 none)))
 none)
 (AC ((AV (AA (AB s)) p).fst==(AV (AA (AB s)) (AL [] (AA (AB s)) p).snd).fst&&((AV (AA (AB s)) p).snd.fst==(AV (AA (AB s)) (AL [] (AA (AB s)) p).snd).snd.fst&&true))
 (AC (decide (n=n))
 (AC (decide (n=n))
 (AC (decide ((↑(n+1):Int)*(((32:Nat):Int)+1)≤(↑BC:Int)))
 (c4 (s) ((Ar (AA (AB s)) (AL [] (AA (AB s)) (AL [] (AA (AB s)) p).snd).snd 3).snd) (n+1) (fun j ↦ if j<n then F.agg [F.int .i64 (o.getD j Sg.zero).x0,F.int .i64 (o.getD j Sg.zero).y0,F.int .i64 (o.getD j Sg.zero).x1,F.int .i64 (o.getD j Sg.zero).y1] else F.agg [F.int .i64 (Aq (AV (AA (AB s)) p).fst (AV (AA (AB s)) p).snd.fst (AV (AA (AB s)) (AL [] (AA (AB s)) p).snd).fst (IntKind.i64.wrap ((AV (AA (AB s)) (AL [] (AA (AB s)) p).snd).snd.fst+1))).fst.x0,F.int .i64 (Aq (AV (AA (AB s)) p).fst (AV (AA (AB s)) p).snd.fst (AV (AA (AB s)) (AL [] (AA (AB s)) p).snd).fst (IntKind.i64.wrap ((AV (AA (AB s)) (AL [] (AA (AB s)) p).snd).snd.fst+1))).fst.y0,F.int .i64 (Aq (AV (AA (AB s)) p).fst (AV (AA (AB s)) p).snd.fst (AV (AA (AB s)) (AL [] (AA (AB s)) p).snd).fst (IntKind.i64.wrap ((AV (AA (AB s)) (AL [] (AA (AB s)) p).snd).snd.fst+1))).fst.x1,F.int .i64 (Aq (AV (AA (AB s)) p).fst (AV (AA (AB s)) p).snd.fst (AV (AA (AB s)) (AL [] (AA (AB s)) p).snd).fst (IntKind.i64.wrap ((AV (AA (AB s)) (AL [] (AA (AB s)) p).snd).snd.fst+1))).fst.y1]) (x6) (IntKind.i64.wrap (x7+1)))
 none)
 none)
 none)
 (AC (decide (n=n))
 (AC (decide (n=n))
 (AC (decide ((↑(n+1):Int)*(((32:Nat):Int)+1)≤(↑BC:Int)))
 (c4 (s) ((Ar (AA (AB s)) (AL [] (AA (AB s)) (AL [] (AA (AB s)) p).snd).snd 3).snd) (n+1) (fun j ↦ if j<n then F.agg [F.int .i64 (o.getD j Sg.zero).x0,F.int .i64 (o.getD j Sg.zero).y0,F.int .i64 (o.getD j Sg.zero).x1,F.int .i64 (o.getD j Sg.zero).y1] else F.agg [F.int .i64 (Aq (AV (AA (AB s)) p).fst (AV (AA (AB s)) p).snd.fst (AV (AA (AB s)) (AL [] (AA (AB s)) p).snd).fst (AV (AA (AB s)) (AL [] (AA (AB s)) p).snd).snd.fst).fst.x0,F.int .i64 (Aq (AV (AA (AB s)) p).fst (AV (AA (AB s)) p).snd.fst (AV (AA (AB s)) (AL [] (AA (AB s)) p).snd).fst (AV (AA (AB s)) (AL [] (AA (AB s)) p).snd).snd.fst).fst.y0,F.int .i64 (Aq (AV (AA (AB s)) p).fst (AV (AA (AB s)) p).snd.fst (AV (AA (AB s)) (AL [] (AA (AB s)) p).snd).fst (AV (AA (AB s)) (AL [] (AA (AB s)) p).snd).snd.fst).fst.x1,F.int .i64 (Aq (AV (AA (AB s)) p).fst (AV (AA (AB s)) p).snd.fst (AV (AA (AB s)) (AL [] (AA (AB s)) p).snd).fst (AV (AA (AB s)) (AL [] (AA (AB s)) p).snd).snd.fst).fst.y1]) (x6) (IntKind.i64.wrap (x7+1)))
 none)
 none)
 none))))
 none)
 (AC (decide (x7 > 0)==true)
 (AC (Af (AB s)&&A9 (AA (AB s)) (AL [] (AA (AB s)) (AL [] (AA (AB s)) p).snd).snd)
 (AC ((Ar (AA (AB s)) (AL [] (AA (AB s)) (AL [] (AA (AB s)) p).snd).snd 6).fst)
 (AC (decide (n=n))
 (AC (decide (0≤IntKind.i64.wrap (x7-1)))
 (AC (decide (IntKind.i64.wrap (x7-1)<(↑n:Int)))
 (AC (decide (n=n))
 (AC (decide (n=n))
 (AC (decide (0+(IntKind.i64.wrap (x7-1)).toNat<n))
 (AC (decide (n=n))
 (AC (decide (0≤IntKind.i64.wrap (x7-1)))
 (AC (decide (IntKind.i64.wrap (x7-1)<(↑n:Int)))
 (AC (decide (n=n))
 (AC (decide (n=n))
 (AC (decide (n=n))
 (AC (decide (0+(IntKind.i64.wrap (x7-1)).toNat<n))
 (AC (decide (n=n))
 (AC (decide (0≤IntKind.i64.wrap (x7-1)))
 (AC (decide (IntKind.i64.wrap (x7-1)<(↑n:Int)))
 (AC (decide (n=n))
 (AC (decide (n=n))
 (AC (decide (n=n))
 (AC (decide (0+(IntKind.i64.wrap (x7-1)).toNat<n))
 (AC (decide (n=n))
 (AC (decide (0≤IntKind.i64.wrap (x7-1)))
 (AC (decide (IntKind.i64.wrap (x7-1)<(↑n:Int)))
 (AC (decide (n=n))
 (AC (decide (n=n))
 (AC (decide (n=n))
 (AC (decide (0+(IntKind.i64.wrap (x7-1)).toNat<n))
 (AC (decide (n=n))
 (AC (decide (0≤IntKind.i64.wrap (x7-1)))
 (AC (decide (IntKind.i64.wrap (x7-1)<(↑n:Int)))
 (AC (decide (n=n))
 (AC (decide (n=n))
 (AC (decide (n=n))
 (AC (decide (0+(IntKind.i64.wrap (x7-1)).toNat<n))
 (AC ((o.getD (0+(IntKind.i64.wrap (x7-1)).toNat) Sg.zero).x0==IntKind.i64.wrap (IntKind.i64.wrap (2*(o.getD (0+(IntKind.i64.wrap (x7-1)).toNat) Sg.zero).x1)-(o.getD (0+(IntKind.i64.wrap (x7-1)).toNat) Sg.zero).x0)&&((o.getD (0+(IntKind.i64.wrap (x7-1)).toNat) Sg.zero).y0==IntKind.i64.wrap (IntKind.i64.wrap (2*(o.getD (0+(IntKind.i64.wrap (x7-1)).toNat) Sg.zero).y1)-(o.getD (0+(IntKind.i64.wrap (x7-1)).toNat) Sg.zero).y0)&&true))
 (AC (decide (n=n))
 (AC (decide (n=n))
 (AC (decide ((↑(n+1):Int)*(((32:Nat):Int)+1)≤(↑BC:Int)))
 (c4 (s) ((Ar (AA (AB s)) (AL [] (AA (AB s)) (AL [] (AA (AB s)) p).snd).snd 6).snd) (n+1) (fun j ↦ if j<n then F.agg [F.int .i64 (o.getD j Sg.zero).x0,F.int .i64 (o.getD j Sg.zero).y0,F.int .i64 (o.getD j Sg.zero).x1,F.int .i64 (o.getD j Sg.zero).y1] else F.agg [F.int .i64 (Aq (o.getD (0+(IntKind.i64.wrap (x7-1)).toNat) Sg.zero).x0 (o.getD (0+(IntKind.i64.wrap (x7-1)).toNat) Sg.zero).y0 (IntKind.i64.wrap (IntKind.i64.wrap (2*(o.getD (0+(IntKind.i64.wrap (x7-1)).toNat) Sg.zero).x1)-(o.getD (0+(IntKind.i64.wrap (x7-1)).toNat) Sg.zero).x0)) (IntKind.i64.wrap (IntKind.i64.wrap (IntKind.i64.wrap (2*(o.getD (0+(IntKind.i64.wrap (x7-1)).toNat) Sg.zero).y1)-(o.getD (0+(IntKind.i64.wrap (x7-1)).toNat) Sg.zero).y0)+1))).fst.x0,F.int .i64 (Aq (o.getD (0+(IntKind.i64.wrap (x7-1)).toNat) Sg.zero).x0 (o.getD (0+(IntKind.i64.wrap (x7-1)).toNat) Sg.zero).y0 (IntKind.i64.wrap (IntKind.i64.wrap (2*(o.getD (0+(IntKind.i64.wrap (x7-1)).toNat) Sg.zero).x1)-(o.getD (0+(IntKind.i64.wrap (x7-1)).toNat) Sg.zero).x0)) (IntKind.i64.wrap (IntKind.i64.wrap (IntKind.i64.wrap (2*(o.getD (0+(IntKind.i64.wrap (x7-1)).toNat) Sg.zero).y1)-(o.getD (0+(IntKind.i64.wrap (x7-1)).toNat) Sg.zero).y0)+1))).fst.y0,F.int .i64 (Aq (o.getD (0+(IntKind.i64.wrap (x7-1)).toNat) Sg.zero).x0 (o.getD (0+(IntKind.i64.wrap (x7-1)).toNat) Sg.zero).y0 (IntKind.i64.wrap (IntKind.i64.wrap (2*(o.getD (0+(IntKind.i64.wrap (x7-1)).toNat) Sg.zero).x1)-(o.getD (0+(IntKind.i64.wrap (x7-1)).toNat) Sg.zero).x0)) (IntKind.i64.wrap (IntKind.i64.wrap (IntKind.i64.wrap (2*(o.getD (0+(IntKind.i64.wrap (x7-1)).toNat) Sg.zero).y1)-(o.getD (0+(IntKind.i64.wrap (x7-1)).toNat) Sg.zero).y0)+1))).fst.x1,F.int .i64 (Aq (o.getD (0+(IntKind.i64.wrap (x7-1)).toNat) Sg.zero).x0 (o.getD (0+(IntKind.i64.wrap (x7-1)).toNat) Sg.zero).y0 (IntKind.i64.wrap (IntKind.i64.wrap (2*(o.getD (0+(IntKind.i64.wrap (x7-1)).toNat) Sg.zero).x1)-(o.getD (0+(IntKind.i64.wrap (x7-1)).toNat) Sg.zero).x0)) (IntKind.i64.wrap (IntKind.i64.wrap (IntKind.i64.wrap (2*(o.getD (0+(IntKind.i64.wrap (x7-1)).toNat) Sg.zero).y1)-(o.getD (0+(IntKind.i64.wrap (x7-1)).toNat) Sg.zero).y0)+1))).fst.y1]) (x6) (IntKind.i64.wrap (x7+1)))
 none)
 none)
 none)
 (AC (decide (n=n))
 (AC (decide (n=n))
 (AC (decide ((↑(n+1):Int)*(((32:Nat):Int)+1)≤(↑BC:Int)))
 (c4 (s) ((Ar (AA (AB s)) (AL [] (AA (AB s)) (AL [] (AA (AB s)) p).snd).snd 6).snd) (n+1) (fun j ↦ if j<n then F.agg [F.int .i64 (o.getD j Sg.zero).x0,F.int .i64 (o.getD j Sg.zero).y0,F.int .i64 (o.getD j Sg.zero).x1,F.int .i64 (o.getD j Sg.zero).y1] else F.agg [F.int .i64 (Aq (o.getD (0+(IntKind.i64.wrap (x7-1)).toNat) Sg.zero).x0 (o.getD (0+(IntKind.i64.wrap (x7-1)).toNat) Sg.zero).y0 (IntKind.i64.wrap (IntKind.i64.wrap (2*(o.getD (0+(IntKind.i64.wrap (x7-1)).toNat) Sg.zero).x1)-(o.getD (0+(IntKind.i64.wrap (x7-1)).toNat) Sg.zero).x0)) (IntKind.i64.wrap (IntKind.i64.wrap (2*(o.getD (0+(IntKind.i64.wrap (x7-1)).toNat) Sg.zero).y1)-(o.getD (0+(IntKind.i64.wrap (x7-1)).toNat) Sg.zero).y0))).fst.x0,F.int .i64 (Aq (o.getD (0+(IntKind.i64.wrap (x7-1)).toNat) Sg.zero).x0 (o.getD (0+(IntKind.i64.wrap (x7-1)).toNat) Sg.zero).y0 (IntKind.i64.wrap (IntKind.i64.wrap (2*(o.getD (0+(IntKind.i64.wrap (x7-1)).toNat) Sg.zero).x1)-(o.getD (0+(IntKind.i64.wrap (x7-1)).toNat) Sg.zero).x0)) (IntKind.i64.wrap (IntKind.i64.wrap (2*(o.getD (0+(IntKind.i64.wrap (x7-1)).toNat) Sg.zero).y1)-(o.getD (0+(IntKind.i64.wrap (x7-1)).toNat) Sg.zero).y0))).fst.y0,F.int .i64 (Aq (o.getD (0+(IntKind.i64.wrap (x7-1)).toNat) Sg.zero).x0 (o.getD (0+(IntKind.i64.wrap (x7-1)).toNat) Sg.zero).y0 (IntKind.i64.wrap (IntKind.i64.wrap (2*(o.getD (0+(IntKind.i64.wrap (x7-1)).toNat) Sg.zero).x1)-(o.getD (0+(IntKind.i64.wrap (x7-1)).toNat) Sg.zero).x0)) (IntKind.i64.wrap (IntKind.i64.wrap (2*(o.getD (0+(IntKind.i64.wrap (x7-1)).toNat) Sg.zero).y1)-(o.getD (0+(IntKind.i64.wrap (x7-1)).toNat) Sg.zero).y0))).fst.x1,F.int .i64 (Aq (o.getD (0+(IntKind.i64.wrap (x7-1)).toNat) Sg.zero).x0 (o.getD (0+(IntKind.i64.wrap (x7-1)).toNat) Sg.zero).y0 (IntKind.i64.wrap (IntKind.i64.wrap (2*(o.getD (0+(IntKind.i64.wrap (x7-1)).toNat) Sg.zero).x1)-(o.getD (0+(IntKind.i64.wrap (x7-1)).toNat) Sg.zero).x0)) (IntKind.i64.wrap (IntKind.i64.wrap (2*(o.getD (0+(IntKind.i64.wrap (x7-1)).toNat) Sg.zero).y1)-(o.getD (0+(IntKind.i64.wrap (x7-1)).toNat) Sg.zero).y0))).fst.y1]) (x6) (IntKind.i64.wrap (x7+1)))
 none)
 none)
 none))
 none)
 none)
 none)
 none)
 none)
 none)
 none)
 none)
 none)
 none)
 none)
 none)
 none)
 none)
 none)
 none)
 none)
 none)
 none)
 none)
 none)
 none)
 none)
 none)
 none)
 none)
 none)
 none)
 none)
 none)
 none)
 none)
 none)
 none)
 (AC ((AV (AA (AB s)) p).fst==(AV (AA (AB s)) (AL [] (AA (AB s)) p).snd).fst&&((AV (AA (AB s)) p).snd.fst==(AV (AA (AB s)) (AL [] (AA (AB s)) p).snd).snd.fst&&true))
 (AC (decide (n=n))
 (AC (decide (n=n))
 (AC (decide ((↑(n+1):Int)*(((32:Nat):Int)+1)≤(↑BC:Int)))
 (c4 (s) ((Ar (AA (AB s)) (AL [] (AA (AB s)) (AL [] (AA (AB s)) p).snd).snd 6).snd) (n+1) (fun j ↦ if j<n then F.agg [F.int .i64 (o.getD j Sg.zero).x0,F.int .i64 (o.getD j Sg.zero).y0,F.int .i64 (o.getD j Sg.zero).x1,F.int .i64 (o.getD j Sg.zero).y1] else F.agg [F.int .i64 (Aq (AV (AA (AB s)) p).fst (AV (AA (AB s)) p).snd.fst (AV (AA (AB s)) (AL [] (AA (AB s)) p).snd).fst (IntKind.i64.wrap ((AV (AA (AB s)) (AL [] (AA (AB s)) p).snd).snd.fst+1))).fst.x0,F.int .i64 (Aq (AV (AA (AB s)) p).fst (AV (AA (AB s)) p).snd.fst (AV (AA (AB s)) (AL [] (AA (AB s)) p).snd).fst (IntKind.i64.wrap ((AV (AA (AB s)) (AL [] (AA (AB s)) p).snd).snd.fst+1))).fst.y0,F.int .i64 (Aq (AV (AA (AB s)) p).fst (AV (AA (AB s)) p).snd.fst (AV (AA (AB s)) (AL [] (AA (AB s)) p).snd).fst (IntKind.i64.wrap ((AV (AA (AB s)) (AL [] (AA (AB s)) p).snd).snd.fst+1))).fst.x1,F.int .i64 (Aq (AV (AA (AB s)) p).fst (AV (AA (AB s)) p).snd.fst (AV (AA (AB s)) (AL [] (AA (AB s)) p).snd).fst (IntKind.i64.wrap ((AV (AA (AB s)) (AL [] (AA (AB s)) p).snd).snd.fst+1))).fst.y1]) (x6) (IntKind.i64.wrap (x7+1)))
 none)
 none)
 none)
 (AC (decide (n=n))
 (AC (decide (n=n))
 (AC (decide ((↑(n+1):Int)*(((32:Nat):Int)+1)≤(↑BC:Int)))
 (c4 (s) ((Ar (AA (AB s)) (AL [] (AA (AB s)) (AL [] (AA (AB s)) p).snd).snd 6).snd) (n+1) (fun j ↦ if j<n then F.agg [F.int .i64 (o.getD j Sg.zero).x0,F.int .i64 (o.getD j Sg.zero).y0,F.int .i64 (o.getD j Sg.zero).x1,F.int .i64 (o.getD j Sg.zero).y1] else F.agg [F.int .i64 (Aq (AV (AA (AB s)) p).fst (AV (AA (AB s)) p).snd.fst (AV (AA (AB s)) (AL [] (AA (AB s)) p).snd).fst (AV (AA (AB s)) (AL [] (AA (AB s)) p).snd).snd.fst).fst.x0,F.int .i64 (Aq (AV (AA (AB s)) p).fst (AV (AA (AB s)) p).snd.fst (AV (AA (AB s)) (AL [] (AA (AB s)) p).snd).fst (AV (AA (AB s)) (AL [] (AA (AB s)) p).snd).snd.fst).fst.y0,F.int .i64 (Aq (AV (AA (AB s)) p).fst (AV (AA (AB s)) p).snd.fst (AV (AA (AB s)) (AL [] (AA (AB s)) p).snd).fst (AV (AA (AB s)) (AL [] (AA (AB s)) p).snd).snd.fst).fst.x1,F.int .i64 (Aq (AV (AA (AB s)) p).fst (AV (AA (AB s)) p).snd.fst (AV (AA (AB s)) (AL [] (AA (AB s)) p).snd).fst (AV (AA (AB s)) (AL [] (AA (AB s)) p).snd).snd.fst).fst.y1]) (x6) (IntKind.i64.wrap (x7+1)))
 none)
 none)
 none)))
 none)
 (AC ((AV (AA (AB s)) p).fst==(AV (AA (AB s)) (AL [] (AA (AB s)) p).snd).fst&&((AV (AA (AB s)) p).snd.fst==(AV (AA (AB s)) (AL [] (AA (AB s)) p).snd).snd.fst&&true))
 (AC (decide (n=n))
 (AC (decide (n=n))
 (AC (decide ((↑(n+1):Int)*(((32:Nat):Int)+1)≤(↑BC:Int)))
 (c4 (s) ((AL [] (AA (AB s)) (AL [] (AA (AB s)) p).snd).snd) (n+1) (fun j ↦ if j<n then F.agg [F.int .i64 (o.getD j Sg.zero).x0,F.int .i64 (o.getD j Sg.zero).y0,F.int .i64 (o.getD j Sg.zero).x1,F.int .i64 (o.getD j Sg.zero).y1] else F.agg [F.int .i64 (Aq (AV (AA (AB s)) p).fst (AV (AA (AB s)) p).snd.fst (AV (AA (AB s)) (AL [] (AA (AB s)) p).snd).fst (IntKind.i64.wrap ((AV (AA (AB s)) (AL [] (AA (AB s)) p).snd).snd.fst+1))).fst.x0,F.int .i64 (Aq (AV (AA (AB s)) p).fst (AV (AA (AB s)) p).snd.fst (AV (AA (AB s)) (AL [] (AA (AB s)) p).snd).fst (IntKind.i64.wrap ((AV (AA (AB s)) (AL [] (AA (AB s)) p).snd).snd.fst+1))).fst.y0,F.int .i64 (Aq (AV (AA (AB s)) p).fst (AV (AA (AB s)) p).snd.fst (AV (AA (AB s)) (AL [] (AA (AB s)) p).snd).fst (IntKind.i64.wrap ((AV (AA (AB s)) (AL [] (AA (AB s)) p).snd).snd.fst+1))).fst.x1,F.int .i64 (Aq (AV (AA (AB s)) p).fst (AV (AA (AB s)) p).snd.fst (AV (AA (AB s)) (AL [] (AA (AB s)) p).snd).fst (IntKind.i64.wrap ((AV (AA (AB s)) (AL [] (AA (AB s)) p).snd).snd.fst+1))).fst.y1]) (x6) (IntKind.i64.wrap (x7+1)))
 none)
 none)
 none)
 (AC (decide (n=n))
 (AC (decide (n=n))
 (AC (decide ((↑(n+1):Int)*(((32:Nat):Int)+1)≤(↑BC:Int)))
 (c4 (s) ((AL [] (AA (AB s)) (AL [] (AA (AB s)) p).snd).snd) (n+1) (fun j ↦ if j<n then F.agg [F.int .i64 (o.getD j Sg.zero).x0,F.int .i64 (o.getD j Sg.zero).y0,F.int .i64 (o.getD j Sg.zero).x1,F.int .i64 (o.getD j Sg.zero).y1] else F.agg [F.int .i64 (Aq (AV (AA (AB s)) p).fst (AV (AA (AB s)) p).snd.fst (AV (AA (AB s)) (AL [] (AA (AB s)) p).snd).fst (AV (AA (AB s)) (AL [] (AA (AB s)) p).snd).snd.fst).fst.x0,F.int .i64 (Aq (AV (AA (AB s)) p).fst (AV (AA (AB s)) p).snd.fst (AV (AA (AB s)) (AL [] (AA (AB s)) p).snd).fst (AV (AA (AB s)) (AL [] (AA (AB s)) p).snd).snd.fst).fst.y0,F.int .i64 (Aq (AV (AA (AB s)) p).fst (AV (AA (AB s)) p).snd.fst (AV (AA (AB s)) (AL [] (AA (AB s)) p).snd).fst (AV (AA (AB s)) (AL [] (AA (AB s)) p).snd).snd.fst).fst.x1,F.int .i64 (Aq (AV (AA (AB s)) p).fst (AV (AA (AB s)) p).snd.fst (AV (AA (AB s)) (AL [] (AA (AB s)) p).snd).fst (AV (AA (AB s)) (AL [] (AA (AB s)) p).snd).snd.fst).fst.y1]) (x6) (IntKind.i64.wrap (x7+1)))
 none)
 none)
 none))))
 none)
 none)
 (AC (Af (AB s)&&A9 (AA (AB s)) p)
 (AC ((Ar (AA (AB s)) p 40).fst==true)
 (AC (decide (x6 > 0))
 (AC (Af (AB s)&&A9 (AA (AB s)) (Ar (AA (AB s)) p 40).snd)
 (AC (Af (AB s)&&A9 (AA (AB s)) (AK (AA (AB s)) (Ar (AA (AB s)) p 40).snd x6).snd&&true)
 (AC (decide (n=n))
 (AC (decide (0≤(AK (AA (AB s)) (Ar (AA (AB s)) p 40).snd x6).fst))
 (AC (decide ((AK (AA (AB s)) (Ar (AA (AB s)) p 40).snd x6).fst<(↑n:Int)))
 (AC (decide (n=n))
 (AC (decide (0+(AK (AA (AB s)) (Ar (AA (AB s)) p 40).snd x6).fst.toNat<n))
 (AC (decide (n=n))
 (ret (n) (fun j ↦ if j=0+(AK (AA (AB s)) (Ar (AA (AB s)) p 40).snd x6).fst.toNat then F.agg [F.int .i64 (Ol (AA (AB s)) (AK (AA (AB s)) (Ar (AA (AB s)) p 40).snd x6).snd).fst,F.int .i64 (Ol (AA (AB s)) (AK (AA (AB s)) (Ar (AA (AB s)) p 40).snd x6).snd).snd.fst,F.int .i64 (Ol (AA (AB s)) (AK (AA (AB s)) (Ar (AA (AB s)) p 40).snd x6).snd).snd.snd.fst,F.int .i64 (Ol (AA (AB s)) (AK (AA (AB s)) (Ar (AA (AB s)) p 40).snd x6).snd).snd.snd.snd.fst] else F.agg [F.int .i64 (o.getD j Sg.zero).x0,F.int .i64 (o.getD j Sg.zero).y0,F.int .i64 (o.getD j Sg.zero).x1,F.int .i64 (o.getD j Sg.zero).y1]) ((O2 [] (AA (AB s)) (AK (AA (AB s)) (Ar (AA (AB s)) p 40).snd x6).snd).snd))
 none)
 none)
 none)
 none)
 none)
 none)
 none)
 none)
 (AC (decide (n=n))
 (ret (n) (fun i ↦ F.agg [F.int .i64 (o.getD i Sg.zero).x0,F.int .i64 (o.getD i Sg.zero).y0,F.int .i64 (o.getD i Sg.zero).x1,F.int .i64 (o.getD i Sg.zero).y1]) ((Ar (AA (AB s)) p 40).snd))
 none))
 (AC (decide (n=n))
 (ret (n) (fun i ↦ F.agg [F.int .i64 (o.getD i Sg.zero).x0,F.int .i64 (o.getD i Sg.zero).y0,F.int .i64 (o.getD i Sg.zero).x1,F.int .i64 (o.getD i Sg.zero).y1]) ((Ar (AA (AB s)) p 40).snd))
 none))
 none))
def Oj:Nat→(ByteArray)→(Int)→(Nat)→(Nat→F)→(Int)→(Int)→Option ((Nat) × (Nat→F) × (Int))
 | 0,_,_,_,_,_,_=>none
 | k+1,s,p,n,g,x6,x7=>AC (Cr (F.sl n g)) (Sf (fun rn rg q=>some (rn,rg,q)) (Oj k) s p n (B6 (F.sl n g)) x6 x7) none
def T15 {ρ:Type} (ret:(Nat)→(Nat→F)→(Int)→Option ρ) (c4:(ByteArray)→(Int)→(Nat)→(Nat→F)→(Int)→(Int)→Option ρ) (s:ByteArray) (p:Int) (mx:Int):Option ρ :=
 (AC (Af (AB s)&&A9 (AA (AB s)) p)
 (c4 (s) ((AK (AA (AB s)) p (IntKind.i64.wrap (mx+1))).snd) (0) (Aj []) ((AK (AA (AB s)) p (IntKind.i64.wrap (mx+1))).fst) (0))
 none)
def G15 (k:Nat) (s:ByteArray) (p:Int) (mx:Int):Option ((Nat) × (Nat→F) × (Int)):=T15 (fun rn rg q=>some (rn,rg,q)) (Oj k) s p mx
theorem Ei:∀ (k:Nat) (s:ByteArray) (p:Int) (n:Nat) (g:Nat→F) (x6:Int) (x7:Int) (rn:Nat) (rg:Nat→F) (q:Int),Oj k s p n g x6 x7=some (rn,rg,q)→CL Tryz.prog 1 Tryz.f15.results.toList (at_ Tryz.f15 4) (rV s p n g x6 x7) (F.tup [F.sl rn rg,F.agg [AB s,F.int .i64 q]])
 | 0,_,_,_,_,_,_,_,_,_,h=>nomatch h
 | k+1,s,p,n,g,x6,x7,rn,rg,q,h=>by
  obtain ⟨hv_g,h⟩:=AI h
  refine AY.weak (st':=S15_4v s p n (B6 (F.sl n g)) x6 x7) (Nx.refl _) (HLe.cons (G2.refl _) (HLe.cons (G2.arr fun j hj=>atSegs hv_g hj) (HLe.nil))) ?_
  generalize B6 (F.sl n g)=o at h ⊢
  refine AY.of_cut Ap Nn (T:=[(4,[0,5,6,7],2)]) (n:=200) ?_
  refine gE (Y:=Sf (fun rn rg q=>some (.ret (F.tup [F.sl rn rg,F.agg [AB s,F.int .i64 q]]))) (fun s p n g x6 x7=>some (.cut (at_ Tryz.f15 4) (rV s p n g x6 x7))) s p n o x6 x7) (by kernel_rfl) ?_
  exact (gS h (fun _ h=>(gS h (fun _ h=>(gS h (fun _ h=>(gS h (fun _ h=>(gS h (fun _ h=>(gS h (fun _ h=>(gS h (fun _ h=>(gS h (fun _ h=>(gS h (fun _ h=>(gS h (fun _ h=>(gS h (fun _ h=>(gS h (fun _ h=>(gS h (fun _ h=>(gS h (fun _ h=>(gS h (fun _ h=>(gS h (fun _ h=>(gS h (fun _ h=>(gS h (fun _ h=>(gS h (fun _ h=>(gS h (fun _ h=>(gS h (fun _ h=>(gS h (fun _ h=>(gS h (fun _ h=>(gS h (fun _ h=>(gS h (fun _ h=>(gS h (fun _ h=>(gS h (fun _ h=>(gS h (fun _ h=>(gS h (fun _ h=>(gS h (fun _ h=>(gS h (fun _ h=>(gS h (fun _ h=>(gS h (fun _ h=>(gS h (fun _ h=>(gS h (fun _ h=>(gS h (fun _ h=>(gS h (fun _ h=>(gS h (fun _ h=>(gS h (fun _ h=>(gS h (fun _ h=>(gS h (fun _ h=>(gS h (fun _ h=>(gS h (fun _ h=>(gS h (fun _ h=>(gS h (fun _ h=>(gS h (fun _ h=>(gS h (fun _ h=>(gS h (fun _ h=>(gS h (fun _ h=>(gS h (fun _ h=>(gS h (fun _ h=>(gS h (fun _ h=>(gS h (fun _ h=>gC (Ei k _ _ _ _ _ _ rn rg q h)) gN)) gN)) gN)) (fun _ h=>(gS h (fun _ h=>(gS h (fun _ h=>(gS h (fun _ h=>gC (Ei k _ _ _ _ _ _ rn rg q h)) gN)) gN)) gN)))) gN)) gN)) gN)) gN)) gN)) gN)) gN)) gN)) gN)) gN)) gN)) gN)) gN)) gN)) gN)) gN)) gN)) gN)) gN)) gN)) gN)) gN)) gN)) gN)) gN)) gN)) gN)) gN)) gN)) gN)) gN)) gN)) gN)) gN)) (fun _ h=>(gS h (fun _ h=>(gS h (fun _ h=>(gS h (fun _ h=>(gS h (fun _ h=>gC (Ei k _ _ _ _ _ _ rn rg q h)) gN)) gN)) gN)) (fun _ h=>(gS h (fun _ h=>(gS h (fun _ h=>(gS h (fun _ h=>gC (Ei k _ _ _ _ _ _ rn rg q h)) gN)) gN)) gN)))))) gN)) (fun _ h=>(gS h (fun _ h=>(gS h (fun _ h=>(gS h (fun _ h=>(gS h (fun _ h=>gC (Ei k _ _ _ _ _ _ rn rg q h)) gN)) gN)) gN)) (fun _ h=>(gS h (fun _ h=>(gS h (fun _ h=>(gS h (fun _ h=>gC (Ei k _ _ _ _ _ _ rn rg q h)) gN)) gN)) gN)))))) gN)) gN)) gN)) gN)) gN)) gN)) (fun _ h=>(gS h (fun _ h=>(gS h (fun _ h=>(gS h (fun _ h=>(gS h (fun _ h=>(gS h (fun _ h=>(gS h (fun _ h=>(gS h (fun _ h=>(gS h (fun _ h=>(gS h (fun _ h=>(gS h (fun _ h=>(gS h (fun _ h=>(gS h (fun _ h=>(gS h (fun _ h=>(gS h (fun _ h=>(gS h (fun _ h=>(gS h (fun _ h=>(gS h (fun _ h=>(gS h (fun _ h=>(gS h (fun _ h=>(gS h (fun _ h=>(gS h (fun _ h=>(gS h (fun _ h=>(gS h (fun _ h=>(gS h (fun _ h=>(gS h (fun _ h=>(gS h (fun _ h=>(gS h (fun _ h=>(gS h (fun _ h=>(gS h (fun _ h=>(gS h (fun _ h=>(gS h (fun _ h=>(gS h (fun _ h=>(gS h (fun _ h=>(gS h (fun _ h=>(gS h (fun _ h=>(gS h (fun _ h=>(gS h (fun _ h=>(gS h (fun _ h=>(gS h (fun _ h=>(gS h (fun _ h=>(gS h (fun _ h=>gC (Ei k _ _ _ _ _ _ rn rg q h)) gN)) gN)) gN)) (fun _ h=>(gS h (fun _ h=>(gS h (fun _ h=>(gS h (fun _ h=>gC (Ei k _ _ _ _ _ _ rn rg q h)) gN)) gN)) gN)))) gN)) gN)) gN)) gN)) gN)) gN)) gN)) gN)) gN)) gN)) gN)) gN)) gN)) gN)) gN)) gN)) gN)) gN)) gN)) gN)) gN)) gN)) gN)) gN)) gN)) gN)) gN)) gN)) gN)) gN)) gN)) gN)) gN)) gN)) (fun _ h=>(gS h (fun _ h=>(gS h (fun _ h=>(gS h (fun _ h=>(gS h (fun _ h=>gC (Ei k _ _ _ _ _ _ rn rg q h)) gN)) gN)) gN)) (fun _ h=>(gS h (fun _ h=>(gS h (fun _ h=>(gS h (fun _ h=>gC (Ei k _ _ _ _ _ _ rn rg q h)) gN)) gN)) gN)))))) gN)) (fun _ h=>(gS h (fun _ h=>(gS h (fun _ h=>(gS h (fun _ h=>(gS h (fun _ h=>gC (Ei k _ _ _ _ _ _ rn rg q h)) gN)) gN)) gN)) (fun _ h=>(gS h (fun _ h=>(gS h (fun _ h=>(gS h (fun _ h=>gC (Ei k _ _ _ _ _ _ rn rg q h)) gN)) gN)) gN)))))))) gN)) (fun _ h=>(gS h (fun _ h=>(gS h (fun _ h=>(gS h (fun _ h=>(gS h (fun _ h=>(gS h (fun _ h=>(gS h (fun _ h=>(gS h (fun _ h=>(gS h (fun _ h=>(gS h (fun _ h=>(gS h (fun _ h=>(gS h (fun _ h=>(gS h (fun _ h=>(gS h (fun _ h=>(gS h (fun _ h=>(gS h (fun _ h=>(gS h (fun _ h=>(gS h (fun _ h=>(gS h (fun _ h=>(gS h (fun _ h=>(gS h (fun _ h=>(gS h (fun _ h=>(gS h (fun _ h=>(gS h (fun _ h=>(gS h (fun _ h=>(gS h (fun _ h=>(gS h (fun _ h=>(gS h (fun _ h=>(gS h (fun _ h=>(gS h (fun _ h=>(gS h (fun _ h=>(gS h (fun _ h=>(gS h (fun _ h=>(gS h (fun _ h=>(gS h (fun _ h=>(gS h (fun _ h=>(gS h (fun _ h=>(gS h (fun _ h=>(gS h (fun _ h=>(gS h (fun _ h=>(gS h (fun _ h=>(gS h (fun _ h=>gC (Ei k _ _ _ _ _ _ rn rg q h)) gN)) gN)) gN)) (fun _ h=>(gS h (fun _ h=>(gS h (fun _ h=>(gS h (fun _ h=>gC (Ei k _ _ _ _ _ _ rn rg q h)) gN)) gN)) gN)))) gN)) gN)) gN)) gN)) gN)) gN)) gN)) gN)) gN)) gN)) gN)) gN)) gN)) gN)) gN)) gN)) gN)) gN)) gN)) gN)) gN)) gN)) gN)) gN)) gN)) gN)) gN)) gN)) gN)) gN)) gN)) gN)) gN)) gN)) (fun _ h=>(gS h (fun _ h=>(gS h (fun _ h=>(gS h (fun _ h=>(gS h (fun _ h=>gC (Ei k _ _ _ _ _ _ rn rg q h)) gN)) gN)) gN)) (fun _ h=>(gS h (fun _ h=>(gS h (fun _ h=>(gS h (fun _ h=>gC (Ei k _ _ _ _ _ _ rn rg q h)) gN)) gN)) gN)))))) gN)) (fun _ h=>(gS h (fun _ h=>(gS h (fun _ h=>(gS h (fun _ h=>(gS h (fun _ h=>gC (Ei k _ _ _ _ _ _ rn rg q h)) gN)) gN)) gN)) (fun _ h=>(gS h (fun _ h=>(gS h (fun _ h=>(gS h (fun _ h=>gC (Ei k _ _ _ _ _ _ rn rg q h)) gN)) gN)) gN)))))))) gN)) gN)) (fun _ h=>(gS h (fun _ h=>(gS h (fun _ h=>(gS h (fun _ h=>(gS h (fun _ h=>(gS h (fun _ h=>(gS h (fun _ h=>(gS h (fun _ h=>(gS h (fun _ h=>(gS h (fun _ h=>(gS h (fun _ h=>(gS h (fun _ h=>gR (by cases h;rfl)) gN)) gN)) gN)) gN)) gN)) gN)) gN)) gN)) (fun _ h=>(gS h (fun _ h=>gR (by cases h;rfl)) gN)))) (fun _ h=>(gS h (fun _ h=>gR (by cases h;rfl)) gN)))) gN)))
theorem t15 (k:Nat) (s:ByteArray) (p:Int) (mx:Int) (rn:Nat) (rg:Nat→F) (q:Int) (h:G15 k s p mx=some (rn,rg,q)):CL Tryz.prog 1 Tryz.f15.results.toList [.code (AR Tryz.f15)] (CU Tryz.f15.ntmps [U.hp 0 0,U.f (F.int .i64 mx)] [HO.box [U.f (AB s),U.f (F.int .i64 p)]]) (F.tup [F.sl rn rg,F.agg [AB s,F.int .i64 q]]):=by
 refine AY.of_run Ap Nn (T:=[(4,[0,5,6,7],2)]) (n:=200) ?_
 refine gE (Y:=T15 (fun rn rg q=>some (.ret (F.tup [F.sl rn rg,F.agg [AB s,F.int .i64 q]]))) (fun s p n g x6 x7=>some (.cut (at_ Tryz.f15 4) (rV s p n g x6 x7))) s p mx) (by kernel_rfl) ?_
 exact (gS h (fun _ h=>gC (Ei k _ _ _ _ _ _ rn rg q h)) gN)
theorem cO {ρ α β:Type} {c:Bool} {X Y:Option ρ} {Q:α→β→Prop} {Z:α→β→Option ρ} (h1:∃ q g,Q q g∧X=Z q g) (h2:∃ q g,Q q g∧Y=Z q g):∃ q g,Q q g∧AC c X Y=Z q g:=by
 cases c
 ·exact h2
 ·exact h1
theorem Vp {ρ α β:Type} {c:Bool} {X Y:Option ρ} {Q:α→β→Prop} {Z:α→β→Option ρ} (hc:c=true) (h1:∃ q g,Q q g∧X=Z q g):∃ q g,Q q g∧AC c X Y=Z q g:=by
 subst hc;exact h1
theorem fC {ρ α β:Type} {c:Bool} {X Y:Option ρ} {Q:α→β→Prop} {Z:α→β→Option ρ} (hc:c=false) (h1:∃ q g,Q q g∧Y=Z q g):∃ q g,Q q g∧AC c X Y=Z q g:=by
 subst hc;exact h1
theorem OP {n:Nat} {o:List Sg} {a b c d:Int}:Cr (.sl (n+1) fun j=>if j<n then F.agg [F.int .i64 (o.getD j Sg.zero).x0,F.int .i64 (o.getD j Sg.zero).y0,F.int .i64 (o.getD j Sg.zero).x1,F.int .i64 (o.getD j Sg.zero).y1] else F.agg [F.int .i64 a,F.int .i64 b,F.int .i64 c,F.int .i64 d])=true:=by
 simp only [Cr,Ci,List.all_eq_true]
 intro j _
 split <;> rfl
set_option maxHeartbeats 1000000 in
theorem fD {ρ:Type} {s:ByteArray} {p x6:Int} (h:A9 s p=true) (n:Nat) (o:List Sg) (hn:(n:Int)<x6) (hx:x6≤1000) (ret:Nat→(Nat→F)→Int→Option ρ) (c4:ByteArray→Int→Nat→(Nat→F)→Int→Int→Option ρ) :
  ∃ (q:Int) (g:Nat→F),(A9 s q=true∧Cr (.sl (n+1) g)=true)∧Sf ret c4 s p n o x6 n=c4 s q (n+1) g x6 ((n+1:Nat):Int):=by
 obtain ⟨_,s1⟩:=Gu h
 obtain ⟨_,s2⟩:=Gu s1
 obtain ⟨_,o1⟩:=GP s2 3
 obtain ⟨_,o2⟩:=GP o1 6
 have c1:decide ((n:Int)<x6)=true:=decide_eq_true hn
 have hw:IntKind.i64.wrap ((n:Int)+1)=((n+1:Nat):Int):=by rw [E1 (by omega) (by omega)];omega
 have bft:(false==true)=false:=rfl
 have btf:(true==false)=false:=rfl
 have bff:(false==false)=true:=rfl
 have btt:(true==true)=true:=rfl
 unfold Sf
 by_cases h0:n=0
 ·subst h0
  have c2:decide (((0:Nat):Int) > 0)=false:=by decide
  have c5:decide (((0+1:Nat):Int)*(((32:Nat):Int)+1)≤(BC:Int))=true:=by rw [DL];exact decide_eq_true (by omega)
  repeat' first
   | exact ⟨_,_,⟨by simpa only [AL,A3] using s2,OP⟩,congrArg (c4 s _ (0+1) _ x6) hw⟩
   | (refine Vp ?hc ?_;case hc=>first | exact c1 | exact c5 | rfl | (simp only [AL,A3,A8,h,s1,s2,Bool.and_self];done))
   | (refine fC ?hc ?_;case hc=>first | (rw [c2];rfl) | exact c2)
   | refine cO ?_ ?_
 ·have c2:decide ((n:Int) > 0)=true:=decide_eq_true (by omega)
  have e1:IntKind.i64.wrap ((n:Int)-1)=((n-1:Nat):Int):=by rw [E1 (by omega) (by omega)];omega
  have c3:decide (0≤((n-1:Nat):Int))=true:=decide_eq_true (by omega)
  have c4':decide (((n-1:Nat):Int)<(n:Int))=true:=decide_eq_true (by omega)
  have c5:decide (0+(n-1)<n)=true:=decide_eq_true (by omega)
  have c6:decide (((n+1:Nat):Int)*(((32:Nat):Int)+1)≤(BC:Int))=true:=by rw [DL];exact decide_eq_true (by omega)
  rw [e1]
  repeat' first
   | exact ⟨_,_,⟨by simpa only [AL,A3] using o2,OP⟩,congrArg (c4 s _ (n+1) _ x6) hw⟩
   | (refine Vp ?hc ?_;case hc=>first | exact c1 | exact c3 | exact c4' | exact c6 | exact decide_eq_true rfl | exact c5 | (rw [c2];rfl) | exact c2 | (simp only [AL,A3,A8,h,s1,s2,o1,o2,Bool.and_self];done))
   | refine cO ?_ ?_
theorem kG {s:ByteArray} {p x6:Int} (h:A9 s p=true) (n:Nat) (o:List Sg) (hn:x6≤(n:Int)) (hn0:x6 > 0→(n:Int)=x6) (c4:ByteArray→Int→Nat→(Nat→F)→Int→Int→Option (Nat × (Nat→F) × Int)) :
  ∃ (g:Nat→F) (q:Int),Sf (fun rn rg q=>some (rn,rg,q)) c4 s p n o x6 n=some (n,g,q)∧A9 s q=true∧Cr (.sl n g)=true:=by
 obtain ⟨_,o1⟩:=GP h 40
 obtain ⟨b1,b2,b3,b4⟩:=EI o1 x6
 obtain ⟨_,g1⟩:=kJ b4
 have c1:decide ((n:Int)<x6)=false:=decide_eq_false (by omega)
 have same:Cr (.sl n fun i=>F.agg [F.int .i64 (o.getD i Sg.zero).x0,F.int .i64 (o.getD i Sg.zero).y0,F.int .i64 (o.getD i Sg.zero).x1,F.int .i64 (o.getD i Sg.zero).y1])=true:=by
  simp only [Cr,Ci,List.all_eq_true]
  intro j _
  rfl
 unfold Sf
 simp only [O2,A3,A8,h,o1,b4,c1,Bool.and_self,Bool.and_true,AF,AJ,decide_true]
 cases (Ar s p 40).1 with
 | false=>exact ⟨_,_,rfl,o1,same⟩
 | true =>
  have btt:(true==true)=true:=rfl
  simp only [btt,AF]
  by_cases h6:x6 > 0
  ·have h7:=hn0 h6
   have d1:decide (0≤(AK s (Ar s p 40).2 x6).1)=true:=decide_eq_true b2
   have d2:decide ((AK s (Ar s p 40).2 x6).1<(n:Int))=true:=decide_eq_true (by omega)
   have d3:decide (0+(AK s (Ar s p 40).2 x6).1.toNat<n)=true:=decide_eq_true (by omega)
   simp only [decide_eq_true h6,d1,d2,d3,AF]
   refine ⟨_,_,rfl,g1,?_⟩
   simp only [Cr,Ci,List.all_eq_true]
   intro j _
   split <;> rfl
  ·simp only [decide_eq_false h6,AJ]
   exact ⟨_,_,rfl,o1,same⟩
end
noncomputable section
theorem PW {s:ByteArray} {x6:Int} (hx:x6≤1000):∀ (d n:Nat) (p:Int) (g:Nat→F),(0≤x6→(n:Int)+d=x6)→(x6<0→n=0∧d=0)→A9 s p=true→Cr (.sl n g)=true →
  ∃ (n1:Nat) (g1:Nat→F) (q:Int),Oj (d+1) s p n g x6 n=some (n1,g1,q)∧A9 s q=true∧Cr (.sl n1 g1)=true
 | 0,n,p,g,h,h',hr,hg=>by
  obtain ⟨g1,q,e,k1,k2⟩:=kG (x6:=x6) hr n (B6 (.sl n g)) (by omega) (fun h6=>by omega) (Oj 0)
  refine ⟨n,g1,q,?_,k1,k2⟩
  rw [Oj,hg,AF]
  exact e
 | d+1,n,p,g,h,h',hr,hg=>by
  have h6:0≤x6:=by omega
  obtain ⟨q,g1,⟨k1,k2⟩,e⟩:=fD (x6:=x6) hr n (B6 (.sl n g)) (by omega) hx (fun rn rg q=>some (rn,rg,q)) (Oj (d+1))
  obtain ⟨n2,g2,q2,e2,m1,m2⟩:=PW hx d (n+1) q g1 (fun _=>by omega) (fun _=>by omega) k1 k2
  refine ⟨n2,g2,q2,?_,m1,m2⟩
  rw [Oj,hg,AF]
  exact e.trans e2
def cI:List F→Bool
 | [.int .i64 mx]=>decide (0≤mx∧mx≤100)
 | _=>false
theorem PV {s:ByteArray} {p mx:Int} (h:A9 s p=true) (hm:0≤mx∧mx≤100):∃ (r:List Sg × Int) (n:Nat) (g:Nat→F) (k:Nat),G15 k s p mx=some (n,g,r.2)∧A9 s r.2=true∧FLe (.sl n g) (BL r.1):=by
 obtain ⟨b1,b2,b3,b4⟩:=EI h (mx+1)
 have e1:IntKind.i64.wrap (mx+1)=mx+1:=E1 (by omega) (by omega)
 obtain ⟨n,g,q,e,k1,k2⟩:=PW (s:=s) (x6:=(AK s p (mx+1)).1) (by omega) (AK s p (mx+1)).1.toNat 0 (AK s p (mx+1)).2 (Aj []) (fun _=>by omega) (fun _=>by omega) b4 rfl
 refine ⟨(B6 (.sl n g),q),n,g,(AK s p (mx+1)).1.toNat+1,?_,k1,(Ek k2).1⟩
 unfold G15 T15
 simp only [A3,A8,h,e1,Bool.and_self,AF]
 exact e
def PX (s:ByteArray) (p mx:Int):List Sg × Int:=@dite _ (A9 s p=true∧(0≤mx∧mx≤100)) (Classical.propDecidable _) (fun h=>Classical.choose (PV h.1 h.2)) fun _=>([],0)
theorem segs_ok {s:ByteArray} {p mx:Int} (h:A9 s p=true) (hm:0≤mx∧mx≤100):∃ (n:Nat) (g:Nat→F) (k:Nat),G15 k s p mx=some (n,g,(PX s p mx).2)∧A9 s (PX s p mx).2=true∧FLe (.sl n g) (BL (PX s p mx).1):=by
 have e:PX s p mx=Classical.choose (PV h hm):=@dif_pos _ (Classical.propDecidable _) ⟨h,hm⟩ _ _ _
 rw [e]
 exact Classical.choose_spec (PV h hm)
def V7:List F→ByteArray→Int→F × Int
 | [.int .i64 mx],s,p=>(BL (PX s p mx).1,(PX s p mx).2)
 | _,_,p=>(.dflt,p)
theorem okSegsR:EJ Tryz.prog 15 (La cI V7) :=
 Pr (c:=AR Tryz.f15) Tryz.func15 (by kernel_rfl) (by kernel_rfl) fun xs s p hx hr=>match xs,hx with
 | [.int .i64 mx],hx=>by
  obtain ⟨n,g,k,e,_,hle⟩:=segs_ok hr (of_decide_eq_true hx)
  exact ⟨_,hle,t15 k s p mx _ _ _ e⟩
def pN:Env:=pO.add 15 (La cI V7)
theorem iF:Ax Tryz.prog pN:=(Env.add_ok Nn okSegsR)
end
noncomputable section
set_option maxHeartbeats 1000000
/-! ### function 13 -/
def YD (l:List (List Pt)) (n:Nat) (g:Nat→F) (i:Int):St:=⟨(U.f (A5 l)) :: Ag 2 ((U.hs 0 n 0 n) :: (U.f (F.int .i64 i)) :: Ag 60 []),[HO.arr 4 n g]⟩
def YC (l:List (List Pt)) (n:Nat) (g:Nat→F) (i:Int) (kk:Int):St:=⟨(U.f (A5 l)) :: Ag 2 ((U.hs 0 n 0 n) :: (U.f (F.int .i64 i)) :: (U.f (F.int .i64 kk)) :: Ag 59 []),[HO.arr 4 n g]⟩
def Qr (l:List (List Pt)) (n:Nat) (g:Nat→F) (i:Int) (kk:Int) (a:Int) (b:Int) (c:Int) (d:Int) (q:Int):St:=⟨(U.f (A5 l)) :: Ag 2 ((U.hs 0 n 0 n) :: (U.f (F.int .i64 i)) :: (U.f (F.int .i64 kk)) :: (U.hp 1 0) :: (U.f (F.int .i64 q)) :: Ag 57 []),[HO.arr 4 n g,HO.box [(U.f (F.int .i64 a)),(U.f (F.int .i64 b)),(U.f (F.int .i64 c)),(U.f (F.int .i64 d))]]⟩
abbrev eS (ρ:Type):=(List (List Pt))→(Nat)→(Nat→F)→(Int)→(Int)→(Int)→(Int)→(Int)→(Int)→(Int)→Option ρ
abbrev eR (ρ:Type):=(List (List Pt))→(Nat)→(Nat→F)→(Int)→(Int)→Option ρ
abbrev eQ (ρ:Type):=(List (List Pt))→(Nat)→(Nat→F)→(Int)→Option ρ
def eE {ρ:Type} (ret:(F)→Option ρ) (c5:eQ ρ) (c8:eR ρ) (c12:eS ρ) (l:List (List Pt)) (n:Nat) (g:Nat→F) (i:Int):Option ρ :=
 (AC (decide (i<(↑l.length:Int)))
 (c8 (l) (n) (g) (i) (0))
 (AC (decide (n=n))
 (ret (F.sl n g))
 none))
def eD {ρ:Type} (ret:(F)→Option ρ) (c5:eQ ρ) (c8:eR ρ) (c12:eS ρ) (l:List (List Pt)) (n:Nat) (g:Nat→F) (i:Int) (kk:Int):Option ρ :=
 (AC (decide (0≤i))
 (AC (decide (i<(↑l.length:Int)))
 (AC (decide (kk<(↑(l.getD i.toNat []).length:Int)))
 (AC (decide (0≤i))
 (AC (decide (i<(↑l.length:Int)))
 (AC (B4 (F.agg [Am (l.getD i.toNat [])])&&Ta (Ac (F.agg [Am (l.getD i.toNat [])])) kk)
 (c12 (l) (n) (g) (i) (kk) ((AT (Ac (F.agg [Am (l.getD i.toNat [])])) kk.toNat).x0) ((AT (Ac (F.agg [Am (l.getD i.toNat [])])) kk.toNat).y0) ((AT (Ac (F.agg [Am (l.getD i.toNat [])])) kk.toNat).x1) ((AT (Ac (F.agg [Am (l.getD i.toNat [])])) kk.toNat).y1) (0))
 none)
 none)
 none)
 (c5 (l) (n) (g) (IntKind.i64.wrap (i+1))))
 none)
 none)
def Z5 {ρ:Type} (ret:(F)→Option ρ) (c5:eQ ρ) (c8:eR ρ) (c12:eS ρ) (l:List (List Pt)) (n:Nat) (g:Nat→F) (i:Int) (kk:Int) (a:Int) (b:Int) (c:Int) (d:Int) (q:Int):Option ρ :=
 (AC (decide (n=n))
 (AC (decide (q<(↑n:Int))==true)
 (AC (decide (n=n))
 (AC (decide (0≤q))
 (AC (decide (q<(↑n:Int)))
 (AC (decide (n=n))
 (AC (decide (0+q.toNat<n))
 (AC (decide ((g (0+q.toNat)).cells.length=4))
 (AC (okV (Value.int IntKind.i64 0) ((List.drop 0 (g (0+q.toNat)).cells).headD F.dflt)&&(okV (Value.int IntKind.i64 0) ((List.drop 0 (g (0+q.toNat)).cells).tail.headD F.dflt)&&(okV (Value.int IntKind.i64 0) ((List.drop 0 (g (0+q.toNat)).cells).tail.tail.headD F.dflt)&&(okV (Value.int IntKind.i64 0) ((List.drop 0 (g (0+q.toNat)).cells).tail.tail.tail.headD F.dflt)&&true))))
 (AC (TY { x0:=Ex ((List.drop 0 (g (0+q.toNat)).cells).headD F.dflt),y0:=Ex ((List.drop 0 (g (0+q.toNat)).cells).tail.headD F.dflt),x1:=Ex ((List.drop 0 (g (0+q.toNat)).cells).tail.tail.headD F.dflt),y1:=Ex ((List.drop 0 (g (0+q.toNat)).cells).tail.tail.tail.headD F.dflt) } { x0:=a,y0:=b,x1:=c,y1:=d })
 (c12 (l) (n) (g) (i) (kk) (a) (b) (c) (d) (IntKind.i64.wrap (q+1)))
 (AC (decide (n=n))
 (AC (decide (0≤q))
 (AC (decide (q≤(↑n:Int)))
 (AC (decide (n=n))
 (AC (decide ((B3 (0+0) g 0).cells.length=4) || decide (q.toNat-0=0))
 (AC (decide ((↑(0+(q.toNat-0)):Int)*(((32:Nat):Int)+1)≤(↑BC:Int)))
 (AC (decide (0+(q.toNat-0)=0+(q.toNat-0)))
 (AC (decide (0+(q.toNat-0)=0+(q.toNat-0)))
 (AC (decide ((↑(0+(q.toNat-0)+1):Int)*(((32:Nat):Int)+1)≤(↑BC:Int)))
 (AC (decide (n=n))
 (AC (decide (0≤q))
 (AC (decide (q≤(↑n:Int)))
 (AC (decide ((↑n:Int)≤(↑n:Int)))
 (AC (decide (n=n))
 (AC (decide ((B3 (0+q.toNat) g 0).cells.length=4) || decide ((↑n:Int).toNat-q.toNat=0))
 (AC (decide (0+(q.toNat-0)+1=0+(q.toNat-0)+1))
 (AC (decide (0+(q.toNat-0)+1=0+(q.toNat-0)+1))
 (AC (decide ((↑(0+(q.toNat-0)+1+((↑n:Int).toNat-q.toNat)):Int)*(((32:Nat):Int)+1)≤(↑BC:Int)))
 (c8 (l) (0+(q.toNat-0)+1+((↑n:Int).toNat-q.toNat)) (fun j ↦ if j<0+(q.toNat-0)+1 then if j<0+(q.toNat-0) then if j<0 then Aj [] j else one (q.toNat-Int.toNat 0) (B3 (0+Int.toNat 0) g) (j-0) else F.agg [F.int .i64 a,F.int .i64 b,F.int .i64 c,F.int .i64 d] else one ((↑n:Int).toNat-q.toNat) (B3 (0+q.toNat) g) (j-(0+(q.toNat-0)+1))) (i) (IntKind.i64.wrap (kk+1)))
 none)
 none)
 none)
 none)
 none)
 none)
 none)
 none)
 none)
 none)
 none)
 none)
 none)
 none)
 none)
 none)
 none)
 none))
 none)
 none)
 none)
 none)
 none)
 none)
 none)
 (AC (decide (n=n))
 (AC (decide (0≤q))
 (AC (decide (q≤(↑n:Int)))
 (AC (decide (n=n))
 (AC (decide ((B3 (0+0) g 0).cells.length=4) || decide (q.toNat-0=0))
 (AC (decide ((↑(0+(q.toNat-0)):Int)*(((32:Nat):Int)+1)≤(↑BC:Int)))
 (AC (decide (0+(q.toNat-0)=0+(q.toNat-0)))
 (AC (decide (0+(q.toNat-0)=0+(q.toNat-0)))
 (AC (decide ((↑(0+(q.toNat-0)+1):Int)*(((32:Nat):Int)+1)≤(↑BC:Int)))
 (AC (decide (n=n))
 (AC (decide (0≤q))
 (AC (decide (q≤(↑n:Int)))
 (AC (decide ((↑n:Int)≤(↑n:Int)))
 (AC (decide (n=n))
 (AC (decide ((B3 (0+q.toNat) g 0).cells.length=4) || decide ((↑n:Int).toNat-q.toNat=0))
 (AC (decide (0+(q.toNat-0)+1=0+(q.toNat-0)+1))
 (AC (decide (0+(q.toNat-0)+1=0+(q.toNat-0)+1))
 (AC (decide ((↑(0+(q.toNat-0)+1+((↑n:Int).toNat-q.toNat)):Int)*(((32:Nat):Int)+1)≤(↑BC:Int)))
 (c8 (l) (0+(q.toNat-0)+1+((↑n:Int).toNat-q.toNat)) (fun j ↦ if j<0+(q.toNat-0)+1 then if j<0+(q.toNat-0) then if j<0 then Aj [] j else one (q.toNat-Int.toNat 0) (B3 (0+Int.toNat 0) g) (j-0) else F.agg [F.int .i64 a,F.int .i64 b,F.int .i64 c,F.int .i64 d] else one ((↑n:Int).toNat-q.toNat) (B3 (0+q.toNat) g) (j-(0+(q.toNat-0)+1))) (i) (IntKind.i64.wrap (kk+1)))
 none)
 none)
 none)
 none)
 none)
 none)
 none)
 none)
 none)
 none)
 none)
 none)
 none)
 none)
 none)
 none)
 none)
 none))
 none)
mutual
def M9:Nat→(List (List Pt))→(Nat)→(Nat→F)→(Int)→Option (F)
 | 0,_,_,_,_=>none
 | k+1,l,n,g,i=>eE some (M9 k) (LS k) (L5 k) l n g i
def LS:Nat→(List (List Pt))→(Nat)→(Nat→F)→(Int)→(Int)→Option (F)
 | 0,_,_,_,_,_=>none
 | k+1,l,n,g,i,kk=>eD some (M9 k) (LS k) (L5 k) l n g i kk
def L5:Nat→(List (List Pt))→(Nat)→(Nat→F)→(Int)→(Int)→(Int)→(Int)→(Int)→(Int)→(Int)→Option (F)
 | 0,_,_,_,_,_,_,_,_,_,_=>none
 | k+1,l,n,g,i,kk,a,b,c,d,q=>Z5 some (M9 k) (LS k) (L5 k) l n g i kk a b c d q
end
def T13 {ρ:Type} (ret:(F)→Option ρ) (c5:eQ ρ) (c8:eR ρ) (c12:eS ρ) (l:List (List Pt)):Option ρ :=
 (AC (B2 (A5 l))
 (AC (!DM (Au (A5 l)))
 (ret (F.sl 0 (Aj [])))
 (c5 (l) (0) (Aj []) (0)))
 none)
def G13 (k:Nat) (l:List (List Pt)):Option (F):=T13 some (M9 k) (LS k) (L5 k) l
mutual
theorem t13_5:∀ (k:Nat) (l:List (List Pt)) (n:Nat) (g:Nat→F) (i:Int) (rt:F),M9 k l n g i=some rt→AY Tryz.prog Tryz.f13.results.toList (at_ Tryz.f13 5) (YD l n g i) (rt)
 | 0,_,_,_,_,_,h=>nomatch h
 | k+1,l,n,g,i,rt,h=>by
  refine AY.of_cut Ap Ik (T:=[(5,[0,3,4],1000),(8,[0,3,4,5],1000),(12,[0,3,4,5,6,7],1000)]) (n:=200) ?_
  refine gE (Y:=eE (fun rt=>some (.ret (rt))) (fun l n g i=>some (.cut (at_ Tryz.f13 5) (YD l n g i))) (fun l n g i kk=>some (.cut (at_ Tryz.f13 8) (YC l n g i kk))) (fun l n g i kk a b c d q=>some (.cut (at_ Tryz.f13 12) (Qr l n g i kk a b c d q))) l n g i) (by kernel_rfl) ?_
  exact (gS h (fun _ h=>gC (jW k _ _ _ _ _ rt h)) (fun _ h=>(gS h (fun _ h=>gR (by cases h;rfl)) gN)))
theorem jW:∀ (k:Nat) (l:List (List Pt)) (n:Nat) (g:Nat→F) (i:Int) (kk:Int) (rt:F),LS k l n g i kk=some rt→AY Tryz.prog Tryz.f13.results.toList (at_ Tryz.f13 8) (YC l n g i kk) (rt)
 | 0,_,_,_,_,_,_,h=>nomatch h
 | k+1,l,n,g,i,kk,rt,h=>by
  refine AY.of_cut Ap Ik (T:=[(5,[0,3,4],1000),(8,[0,3,4,5],1000),(12,[0,3,4,5,6,7],1000)]) (n:=200) ?_
  refine gE (Y:=eD (fun rt=>some (.ret (rt))) (fun l n g i=>some (.cut (at_ Tryz.f13 5) (YD l n g i))) (fun l n g i kk=>some (.cut (at_ Tryz.f13 8) (YC l n g i kk))) (fun l n g i kk a b c d q=>some (.cut (at_ Tryz.f13 12) (Qr l n g i kk a b c d q))) l n g i kk) (by kernel_rfl) ?_
  exact (gS h (fun _ h=>(gS h (fun _ h=>(gS h (fun _ h=>(gS h (fun _ h=>(gS h (fun _ h=>(gS h (fun _ h=>gC (jX k _ _ _ _ _ _ _ _ _ _ rt h)) gN)) gN)) gN)) (fun _ h=>gC (t13_5 k _ _ _ _ rt h)))) gN)) gN)
theorem jX:∀ (k:Nat) (l:List (List Pt)) (n:Nat) (g:Nat→F) (i:Int) (kk:Int) (a:Int) (b:Int) (c:Int) (d:Int) (q:Int) (rt:F),L5 k l n g i kk a b c d q=some rt→AY Tryz.prog Tryz.f13.results.toList (at_ Tryz.f13 12) (Qr l n g i kk a b c d q) (rt)
 | 0,_,_,_,_,_,_,_,_,_,_,_,h=>nomatch h
 | k+1,l,n,g,i,kk,a,b,c,d,q,rt,h=>by
  refine AY.of_cut Ap Ik (T:=[(5,[0,3,4],1000),(8,[0,3,4,5],1000),(12,[0,3,4,5,6,7],1000)]) (n:=200) ?_
  refine gE (Y:=Z5 (fun rt=>some (.ret (rt))) (fun l n g i=>some (.cut (at_ Tryz.f13 5) (YD l n g i))) (fun l n g i kk=>some (.cut (at_ Tryz.f13 8) (YC l n g i kk))) (fun l n g i kk a b c d q=>some (.cut (at_ Tryz.f13 12) (Qr l n g i kk a b c d q))) l n g i kk a b c d q) (by kernel_rfl) ?_
  exact (gS h (fun _ h=>(gS h (fun _ h=>(gS h (fun _ h=>(gS h (fun _ h=>(gS h (fun _ h=>(gS h (fun _ h=>(gS h (fun _ h=>(gS h (fun _ h=>(gS h (fun _ h=>(gS h (fun _ h=>gC (jX k _ _ _ _ _ _ _ _ _ _ rt h)) (fun _ h=>(gS h (fun _ h=>(gS h (fun _ h=>(gS h (fun _ h=>(gS h (fun _ h=>(gS h (fun _ h=>(gS h (fun _ h=>(gS h (fun _ h=>(gS h (fun _ h=>(gS h (fun _ h=>(gS h (fun _ h=>(gS h (fun _ h=>(gS h (fun _ h=>(gS h (fun _ h=>(gS h (fun _ h=>(gS h (fun _ h=>(gS h (fun _ h=>(gS h (fun _ h=>(gS h (fun _ h=>gC (jW k _ _ _ _ _ rt h)) gN)) gN)) gN)) gN)) gN)) gN)) gN)) gN)) gN)) gN)) gN)) gN)) gN)) gN)) gN)) gN)) gN)) gN)))) gN)) gN)) gN)) gN)) gN)) gN)) gN)) (fun _ h=>(gS h (fun _ h=>(gS h (fun _ h=>(gS h (fun _ h=>(gS h (fun _ h=>(gS h (fun _ h=>(gS h (fun _ h=>(gS h (fun _ h=>(gS h (fun _ h=>(gS h (fun _ h=>(gS h (fun _ h=>(gS h (fun _ h=>(gS h (fun _ h=>(gS h (fun _ h=>(gS h (fun _ h=>(gS h (fun _ h=>(gS h (fun _ h=>(gS h (fun _ h=>(gS h (fun _ h=>gC (jW k _ _ _ _ _ rt h)) gN)) gN)) gN)) gN)) gN)) gN)) gN)) gN)) gN)) gN)) gN)) gN)) gN)) gN)) gN)) gN)) gN)) gN)))) gN)
end
theorem t13 (k:Nat) (l:List (List Pt)) (rt:F) (h:G13 k l=some rt):AY Tryz.prog Tryz.f13.results.toList [.code (AR Tryz.f13)] (start Tryz.f13.ntmps ([A5 l].map .f)) (rt):=by
 refine AY.of_run Ap Ik (T:=[(5,[0,3,4],1000),(8,[0,3,4,5],1000),(12,[0,3,4,5,6,7],1000)]) (n:=200) ?_
 refine gE (Y:=T13 (fun rt=>some (.ret (rt))) (fun l n g i=>some (.cut (at_ Tryz.f13 5) (YD l n g i))) (fun l n g i kk=>some (.cut (at_ Tryz.f13 8) (YC l n g i kk))) (fun l n g i kk a b c d q=>some (.cut (at_ Tryz.f13 12) (Qr l n g i kk a b c d q))) l) (by kernel_rfl) ?_
 exact (gS h (fun _ h=>(gS h (fun _ h=>gR (by cases h;rfl)) (fun _ h=>gC (t13_5 k _ _ _ _ rt h)))) gN)
def isG (n:Nat) (g:Nat→F):Prop:=∀ j,j<n→Na (g j)=true
theorem aL {x:F} (h:Na x=true):x=sgF (YW x):=by
 unfold Na at h
 split at h
 ·rfl
 ·cases h
def OW (X:Option F):Prop:=∃ rt,X=some rt∧Cr rt=true
theorem Vt {l:List (List Pt)} {n:Nat} {g:Nat→F} {i kk a b c d:Int} (hn:n≤20) (hk:0≤kk∧kk≤20) (hg:isG n g) {K:Nat} (hout:∀ g',isG (n+1) g'→∀ k,K≤k→OW (LS k l (n+1) g' i (kk+1))) :
  ∀ (m q k:Nat),q+m=n→m+1+K≤k→OW (L5 k l n g i kk a b c d q)
 | m,q,0,_,hk=>by omega
 | m,q,k+1,hq,hk1=>by
  have lim:∀ t:Nat,t≤21→decide (((t:Nat):Int)*(((32:Nat):Int)+1)≤(BC:Int))=true:=fun t ht=>by rw [DL];exact decide_eq_true (by omega)
  have c0:decide ((0:Int)≤(q:Int))=true:=decide_eq_true (by omega)
  have c1:decide ((q:Int)≤(n:Int))=true:=decide_eq_true (by omega)
  have first:∀ o:Nat,o<n→decide ((g o).cells.length=4)=true:=fun o ho=>decide_eq_true (by rw [aL (hg o ho)];rfl)
  have wk:IntKind.i64.wrap (kk+1)=kk+1:=Av (by omega) (by omega)
  have p1:(decide ((B3 0 g 0).cells.length=4) || decide (q=0))=true:=by
   by_cases h:q=0
   ·rw [decide_eq_true h,Bool.or_true]
   ·rw [show B3 0 g 0=g 0 from rfl,first 0 (by omega),Bool.true_or]
  have p2:(decide ((B3 q g 0).cells.length=4) || decide (n-q=0))=true:=by
   by_cases h:n-q=0
   ·rw [decide_eq_true h,Bool.or_true]
   ·rw [Mc,Nat.add_zero,first q (by omega),Bool.true_or]
  have key:∀ g',isG (n+1) g'→OW (LS k l (q+1+(n-q)) g' i (IntKind.i64.wrap (kk+1))):=fun g' h'=>by
   rw [wk,show q+1+(n-q)=n+1 by omega]
   exact hout g' h' k (by omega)
  have gnew:isG (n+1) (fun j=>if j<q+1 then if j<q then if j<0 then Aj [] j else one q (B3 0 g) j else F.agg [F.int .i64 a,F.int .i64 b,F.int .i64 c,F.int .i64 d] else one (n-q) (B3 q g) (j-(q+1))):=by
   intro j hj
   dsimp only
   by_cases h1:j<q+1
   ·rw [if_pos h1]
    by_cases h2:j<q
    ·rw [if_pos h2,if_neg (by omega),H4 _ h2]
     exact hg _ (by omega)
    ·rw [if_neg h2];rfl
   ·rw [if_neg h1,H4 _ (show j-(q+1)<n-q by omega),Mc]
    exact hg _ (by omega)
  rw [L5]
  unfold Z5
  simp only [Int.toNat_natCast,Nat.zero_add,Nat.sub_zero,Int.toNat_zero,decide_true,Bool.true_and,AF,c0,c1,p1,p2,lim q (by omega),lim (q+1) (by omega),lim (q+1+(n-q)) (by omega),Int.le_refl]
  by_cases h:q<n
  ·have hx:=aL (hg q h)
   rw [decide_eq_true (show (q:Int)<(n:Int) by omega),decide_eq_true h,decide_eq_true (show (g q).cells.length=4 by rw [hx];rfl)]
   simp only [beq_self_eq_true,AF]
   rw [hx]
   generalize YW (g q)=s
   have hc:(sgF s).cells=[.int .i64 s.x0,.int .i64 s.y0,.int .i64 s.x1,.int .i64 s.y1]:=rfl
   simp only [hc,List.drop_zero,List.headD_cons,List.tail_cons,show ∀ n:Int,okV (Value.int IntKind.i64 0) (F.int .i64 n)=true from fun _=>rfl,Bool.and_self,Bool.and_true,AF]
   match m,hq with
   | 0,hq=>omega
   | m+1,hq =>
   have ih:=Vt hn hk hg hout (a:=a) (b:=b) (c:=c) (d:=d) m (q+1) k (by omega) (by omega)
   rw [Av (by omega) (by omega),show (q:Int)+1=((q+1:Nat):Int) by omega]
   generalize TY _ _=cond
   cases cond with
   | true=>exact ih
   | false =>
    rw [AJ]
    exact key _ gnew
  ·rw [decide_eq_false (show ¬ (q:Int)<(n:Int) by omega),show (false==true)=false from rfl,AJ]
   exact key _ gnew
theorem aN {l:List (List Pt)} {i rest:Nat} (hi:i<l.length) (hl:l.length≤6) (hr:(l.getD i []).length≤12) {K:Nat} (hout:∀ n g,isG n g→n+rest≤20→∀ k,K≤k→OW (M9 k l n g ((i:Int)+1))) :
  ∀ (m kk n k:Nat) (g:Nat→F),kk+m=(l.getD i []).length→n+m+rest≤20→isG n g→25*m+1+K≤k→OW (LS k l n g i kk)
 | m,kk,n,0,g,_,_,_,hk=>by omega
 | 0,kk,n,k+1,g,hm,hn,hg,hk=>by
  rw [LS]
  unfold eD
  rw [decide_eq_true (show (0:Int)≤i by omega),decide_eq_true (show (i:Int)<l.length by omega),Int.toNat_natCast,decide_eq_false (show ¬ (kk:Int)<((l.getD i []).length:Int) by omega),Av (by omega) (by omega)]
  exact hout n g hg (by omega) k (by omega)
 | m+1,kk,n,k+1,g,hm,hn,hg,hk=>by
  rw [LS]
  unfold eD
  have ha:Ta (l.getD i []) (kk:Int)=true:=Ic.2 ⟨⟨by omega,by omega⟩,by omega⟩
  rw [decide_eq_true (show (0:Int)≤i by omega),decide_eq_true (show (i:Int)<l.length by omega),Int.toNat_natCast,decide_eq_true (show (kk:Int)<((l.getD i []).length:Int) by omega),CM,Br,ha]
  simp only [AF,Bool.and_self]
  exact Vt (K:=25*m+1+K) (by omega) ⟨by omega,by omega⟩ hg (fun g' hg' k hk=>by
   rw [show (kk:Int)+1=((kk+1:Nat):Int) by omega]
   exact aN hi hl hr hout m (kk+1) (n+1) k g' (by omega) (by omega) hg' (by omega)) n 0 k (by omega) (by omega)
theorem fE {n:Nat} {g:Nat→F} (hg:isG n g):Cr (.sl n g)=true:=by
 show (List.range n).all (fun j=>Na (g j))=true
 rw [List.all_eq_true]
 exact fun j hj=>hg j (List.mem_range.1 hj)
theorem aO {l:List (List Pt)} (hl:DM l=true):∀ (m i n k:Nat) (g:Nat→F),i+m=l.length→n+((l.drop i).map List.length).sum≤20→isG n g→320*m+1≤k→OW (M9 k l n g i)
 | m,i,n,0,g,_,_,_,hk=>by omega
 | 0,i,n,k+1,g,hm,hn,hg,hk=>by
  rw [M9]
  unfold eE
  rw [decide_eq_false (show ¬ (i:Int)<l.length by omega),AJ,decide_eq_true (show n=n from rfl)]
  exact ⟨_,rfl,fE hg⟩
 | m+1,i,n,k+1,g,hm,hn,hg,hk=>by
  obtain ⟨f1,f2,_⟩:=Dq hl
  have hlt:i<l.length:=by omega
  have hge:l.getD i []=l[i]:=by simp [List.getD,List.getElem?_eq_getElem hlt]
  have hr:=(DI (f2 _ (List.getElem_mem hlt))).high
  rw [List.drop_eq_getElem_cons hlt,List.map_cons,List.sum_cons] at hn
  rw [M9]
  unfold eE
  rw [decide_eq_true (show (i:Int)<l.length by omega)]
  exact aN (rest:=((l.drop (i+1)).map List.length).sum) (K:=320*m+1) hlt f1 (by rw [hge];exact hr) (fun n g hg hn k hk=>by
   rw [show (i:Int)+1=((i+1:Nat):Int) by omega]
   exact aO hl m (i+1) n k g (by omega) hn hg hk) (l.getD i []).length 0 n k g (by omega) (by rw [hge];omega) hg (by rw [hge];omega)
theorem Re (l:List (List Pt)):OW (G13 3000 l):=by
 unfold G13 T13
 rw [CV,B7,AF]
 cases h:DM l with
 | false=>exact ⟨_,rfl,rfl⟩
 | true =>
  have f1:=(Dq h).1
  exact aO h l.length 0 0 3000 (Aj []) (by omega) (by rw [List.drop_zero];have:=Kn h;omega) (fun j hj=>by omega) (by omega)
def kH (l:List (List Pt)):List Sg:=B6 (Classical.choose (Re l))
def LC:List F→F | [x]=>BL (kH (Au x)) | _=>.dflt
theorem TU:Ai Tryz.prog 13 Df LC :=
 Ae (c:=AR Tryz.f13) Tryz.func13 (by kernel_rfl) (by kernel_rfl) fun xs hp=>match xs,hp with
 | [x],hp=>by
  obtain ⟨h1,h2⟩:=Classical.choose_spec (Re (Au x))
  exact ⟨[A5 (Au x)],_,⟨(Cv hp).1,trivial⟩,t13 3000 _ _ h1,(Ek h2).1⟩
def envI4:Env:=((oW.add 13 (.pure Df LC)).or envA8).or pN
theorem QS:Ax Tryz.prog envI4:=(Env.or_ok (Env.or_ok (Env.add_ok Ik TU.sp) pQ) iF)
end
noncomputable section
/-! ### function 5 -/
def T5 {ρ:Type} (ret:(F)→Option ρ) (a0:ByteArray):Option ρ :=
 (AC (Af (AB a0))
 (AC (Af (AB a0)&&A9 (AA (AB a0)) 0)
 (AC ((Ar (AA (AB a0)) 0 2).fst)
 (AC (Af (AB a0)&&A9 (AA (AB a0)) (Ar (AA (AB a0)) 0 2).snd&&true)
 (AC (decide (lyN (AA (AB a0)) (Ar (AA (AB a0)) 0 2).snd=lyN (AA (AB a0)) (Ar (AA (AB a0)) 0 2).snd))
 (AC (B2 (F.sl (lyN (AA (AB a0)) (Ar (AA (AB a0)) 0 2).snd) (B3 0 (lyG (AA (AB a0)) (Ar (AA (AB a0)) 0 2).snd))))
 (ret (BL (kH (Au (F.sl (lyN (AA (AB a0)) (Ar (AA (AB a0)) 0 2).snd) (B3 0 (lyG (AA (AB a0)) (Ar (AA (AB a0)) 0 2).snd)))))))
 none)
 none)
 none)
 (AC (Af (AB a0)&&A9 (AA (AB a0)) (Ar (AA (AB a0)) 0 2).snd&&true)
 (ret (BL (PX (AA (AB a0)) (Ar (AA (AB a0)) 0 2).snd 4).fst))
 none))
 none)
 none)
def G5 (a0:ByteArray):Option (F):=T5 some a0
theorem t5 (a0:ByteArray) (rt:F) (h:G5 a0=some rt):AY Tryz.prog Tryz.f5.results.toList [.code (AR Tryz.f5)] (start Tryz.f5.ntmps ([AB a0].map .f)) (rt):=by
 refine AY.of_run Ap QS (T:=[]) (n:=200) ?_
 refine gE (Y:=T5 (fun rt=>some (.ret (rt))) a0) (by kernel_rfl) ?_
 exact (gS h (fun _ h=>(gS h (fun _ h=>(gS h (fun _ h=>(gS h (fun _ h=>(gS h (fun _ h=>(gS h (fun _ h=>gR (by cases h;rfl)) gN)) gN)) gN)) (fun _ h=>(gS h (fun _ h=>gR (by cases h;rfl)) gN)))) gN)) gN)
/-! ### function 6 -/
def T6 {ρ:Type} (ret:(F)→Option ρ) (a0:ByteArray):Option ρ :=
 (AC (Af (AB a0))
 (AC (Af (AB a0)&&A9 (AA (AB a0)) 0&&true)
 (AC (decide (lyN (AA (AB a0)) 0=lyN (AA (AB a0)) 0))
 (ret (F.sl (lyN (AA (AB a0)) 0) (lyG (AA (AB a0)) 0)))
 none)
 none)
 none)
def G6 (a0:ByteArray):Option (F):=T6 some a0
theorem t6 (a0:ByteArray) (rt:F) (h:G6 a0=some rt):AY Tryz.prog Tryz.f6.results.toList [.code (AR Tryz.f6)] (start Tryz.f6.ntmps ([AB a0].map .f)) (rt):=by
 refine AY.of_run Ap QS (T:=[]) (n:=200) ?_
 refine gE (Y:=T6 (fun rt=>some (.ret (rt))) a0) (by kernel_rfl) ?_
 exact (gS h (fun _ h=>(gS h (fun _ h=>(gS h (fun _ h=>gR (by cases h;rfl)) gN)) gN)) gN)
theorem Nq {s:ByteArray} (h:s.size≤1048576):OW (G5 s):=by
 have h0:A9 s 0=true:=MS.2 (by omega)
 obtain ⟨_,o1⟩:=GP h0 2
 obtain ⟨_,l1,l2,l3⟩:=mW o1
 unfold G5 T5
 simp only [A3,A8,h0,o1,Bool.and_self,Bool.and_true,decide_true,AF]
 cases (Ar s 0 2).1 with
 | true =>
  have l1':B2 (F.sl (lyN s (Ar s 0 2).2) (B3 0 (lyG s (Ar s 0 2).2)))=true:=l1
  rw [AF,l1',AF]
  exact ⟨_,rfl,C2 _⟩
 | false=>exact ⟨_,rfl,C2 _⟩
def Lm (s:ByteArray):List Sg:=@dite _ (s.size≤1048576) (Classical.propDecidable _) (fun h=>B6 (Classical.choose (Nq h))) fun _=>[]
theorem pW {s:ByteArray} (h:s.size≤1048576):∃ rt,G5 s=some rt∧FLe rt (BL (Lm s)):=by
 have e:Lm s=B6 (Classical.choose (Nq h)):=@dif_pos _ (Classical.propDecidable _) h _ _ _
 rw [e]
 obtain ⟨h1,h2⟩:=Classical.choose_spec (Nq h)
 exact ⟨_,h1,(Ek h2).1⟩
def IS:List F→Bool | [b]=>Af b&&decide ((AA b).size≤1048576) | _=>false
def WF:List F→F | [b]=>BL (Lm (AA b)) | _=>.dflt
theorem okDrawQ:Ai Tryz.prog 5 IS WF :=
 Ae (c:=AR Tryz.f5) Tryz.func5 (by kernel_rfl) (by kernel_rfl) fun xs hp=>match xs,hp with
 | [b],hp=>by
  simp only [IS,Bool.and_eq_true,decide_eq_true_eq] at hp
  obtain ⟨rt,e,hle⟩:=pW hp.2
  exact ⟨[AB (AA b)],rt,⟨(CC hp.1).1,trivial⟩,t5 _ _ e,hle⟩
theorem Np {s:ByteArray} (h:s.size≤1048576):∃ rt,G6 s=some rt∧B2 rt=true:=by
 have h0:A9 s 0=true:=MS.2 (by omega)
 obtain ⟨_,l1,l2,l3⟩:=mW h0
 unfold G6 T6
 simp only [A3,A8,h0,Bool.and_self,decide_true,AF]
 exact ⟨_,rfl,l1⟩
def Gi (s:ByteArray):List (List Pt):=@dite _ (s.size≤1048576) (Classical.propDecidable _) (fun h=>Au (Classical.choose (Np h))) fun _=>[]
theorem pV {s:ByteArray} (h:s.size≤1048576):∃ rt,G6 s=some rt∧FLe rt (A5 (Gi s)):=by
 have e:Gi s=Au (Classical.choose (Np h)):=@dif_pos _ (Classical.propDecidable _) h _ _ _
 rw [e]
 obtain ⟨h1,h2⟩:=Classical.choose_spec (Np h)
 exact ⟨_,h1,(Cv h2).1⟩
def WE:List F→F | [b]=>A5 (Gi (AA b)) | _=>.dflt
theorem okDrawS:Ai Tryz.prog 6 IS WE :=
 Ae (c:=AR Tryz.f6) Tryz.func6 (by kernel_rfl) (by kernel_rfl) fun xs hp=>match xs,hp with
 | [b],hp=>by
  simp only [IS,Bool.and_eq_true,decide_eq_true_eq] at hp
  obtain ⟨rt,e,hle⟩:=pV hp.2
  exact ⟨[AB (AA b)],rt,⟨(CC hp.1).1,trivial⟩,t6 _ _ e,hle⟩
def envI5:Env:=(envI4.add 5 (.pure IS WF)).add 6 (.pure IS WE)
theorem oV:Ax Tryz.prog envI5:=(Env.add_ok (Env.add_ok QS okDrawQ.sp) okDrawS.sp)
end
noncomputable section
theorem PR {x0 y0 x1 y1 u0 v0 u1 v1:Int} (hs:BT x0 y0 x1 y1) (h:Dj x0 y0 x1 y1 u0 v0 u1 v1):Dj u0 v0 u1 v1 x0 y0 x1 y1:=by
 obtain ⟨h1,h2,h3,h4⟩:=h
 obtain ⟨k1,k2⟩:=K5 hs h1 h2
 exact ⟨k1,k2,h4,h3⟩
theorem k3_comm {s t:Sg} (hs:okS s=true) (ht:okS t=true):k3 s t=k3 t s:=by
 obtain ⟨_,_,h2⟩:=B9 hs
 obtain ⟨_,_,t2⟩:=B9 ht
 obtain ⟨a1,a2,a3⟩:=IY hs ht
 obtain ⟨b1,b2,b3⟩:=IY ht hs
 refine R7 (IY hs ht) ⟨b1,b2.trans ⟨I5 t2 h2,I5 h2 t2⟩,b3.trans ⟨PR t2,PR h2⟩⟩
theorem Vn (a b c d e f g h:Int):E8 a b c d e f g h=E8 e f g h a b c d:=by
 apply Bool.eq_iff_iff.2
 simp only [E8,Bool.or_eq_true,Bool.and_eq_true,beq_iff_eq]
 constructor <;> (intro k;omega)
theorem R2 {s t:Sg} (hs:okS s=true) (ht:okS t=true):Hm s t=Hm t s:=by
 unfold Hm
 have:=k3_comm hs ht
 unfold k3 at this
 rw [this,Vn s.x0]
def P9 (s:Sg) (p:Pt):Prop:=(s.x0=p.x∧s.y0=p.y) ∨ (s.x1=p.x∧s.y1=p.y)
theorem nB {a b:Pt} (h:a ≠ b):P9 (DA a b) a∧P9 (DA a b) b:=by
 rcases IX a b h with ⟨_,e⟩ | ⟨_,e⟩ <;> rw [e]
 ·exact ⟨.inl ⟨rfl,rfl⟩,.inr ⟨rfl,rfl⟩⟩
 ·exact ⟨.inr ⟨rfl,rfl⟩,.inl ⟨rfl,rfl⟩⟩
theorem Vm {s t:Sg} {p:Pt} (hs:P9 s p) (ht:P9 t p):E8 s.x0 s.y0 s.x1 s.y1 t.x0 t.y0 t.x1 t.y1=true:=by
 unfold P9 at hs ht
 simp only [E8,Bool.or_eq_true,Bool.and_eq_true,beq_iff_eq]
 omega
theorem Vz {q:List Pt} (h:Bp q=true) {i j:Nat} (hi:i<q.length) (hj:j<i):EX q i j=false:=by
 have hr:=DI h
 unfold Bp CB Ho at h
 rw [decide_eq_false (show ¬ q.length<3 by have:=hr.low;omega),decide_eq_false (show ¬ q.length > 12 by have:=hr.high;omega),cond_false,cond_false] at h
 cases h3:(q.all fun p=>BQ p.x p.y) with
 | false=>rw [h3] at h;cases h
 | true =>
  cases h4:BK (Bg q) 0 q.length with
  | false=>rw [h3,h4] at h;cases h
  | true =>
   cases h5:BK (EX q) 0 q.length with
   | false=>rw [h3,h4,h5] at h;cases h
   | true=>exact Oy.1 h5 i hi j hj
theorem RZ {q:List Pt} (h:RingIn q) {i:Nat} (hi:i<q.length):P9 (AT q i) (q.getD i .zero)∧P9 (AT q i) (q.getD ((i+1) % q.length) .zero):=by
 obtain ⟨h1,h2⟩:=O5 hi h.low
 exact nB (Kk h hi h2 fun e=>h1 e.symm)
theorem Yj {q:List Pt} (h:Bp q=true) {i j:Nat} (hi:i<q.length) (hj:j<i):Hm (AT q i) (AT q j)=false:=by
 have hr:=DI h
 have hc:=Vz h hi hj
 unfold EX qH at hc
 unfold Hm
 change (k3 (AT q i) (AT q j)==2 || (k3 (AT q i) (AT q j)==1 && !E8 _ _ _ _ _ _ _ _))=false
 cases hn:LW q.length i j with
 | false =>
  rw [hn,cond_false,bne,Bool.not_eq_false',beq_iff_eq] at hc
  rw [hc]
  rfl
 | true =>
  rw [hn,cond_true,bne,Bool.not_eq_false',beq_iff_eq] at hc
  rw [hc]
  obtain ⟨a1,a2⟩:=RZ hr hi
  obtain ⟨b1,b2⟩:=RZ hr (show j<q.length by omega)
  have hs:E8 (AT q i).x0 (AT q i).y0 (AT q i).x1 (AT q i).y1 (AT q j).x0 (AT q j).y0 (AT q j).x1 (AT q j).y1=true:=by
   unfold LW at hn
   simp only [Bool.or_eq_true,Bool.and_eq_true,decide_eq_true_eq] at hn
   rcases hn with hn | ⟨hn,hm⟩
   ·rw [hn,Nat.mod_eq_of_lt hi] at b2
    exact Vm a1 b2
   ·rw [hm,Nat.mod_self] at a2
    rw [hn] at b1
    rw [hn]
    exact Vm a2 b1
  rw [hs]
  rfl
theorem Vy {q p:List Pt} (h:EU q p=false) {i j:Nat} (hi:i<q.length) (hj:j<p.length):Hm (AT q i) (AT p j)=false:=by
 unfold EU at h
 rw [Bool.not_eq_false'] at h
 have:=Vv.1 h j hj
 have hk:k3 (AT q i) (AT p j)=0:=by
  cases e:EM q p i j with
  | true=>exact absurd ⟨i,hi,e⟩ this
  | false =>
   unfold EM at e
   rw [bne,Bool.not_eq_false',beq_iff_eq] at e
   exact e
 unfold Hm
 change (k3 (AT q i) (AT p j)==2 || (k3 (AT q i) (AT p j)==1 && !E8 _ _ _ _ _ _ _ _))=false
 rw [hk]
 rfl
theorem NX {q:List Pt} {s:Sg} (h:s ∈ BZ q):∃ i,i<q.length∧s=AT q i:=by
 unfold BZ at h
 obtain ⟨i,hi,rfl⟩:=List.mem_map.1 h
 exact ⟨i,List.mem_range.1 hi,rfl⟩
def still (s t:Sg):Prop:=Hm s t=false∧Hm t s=false
theorem iP {l:List (List Pt)} (h:DM l=true):(GK l).Pairwise still:=by
 obtain ⟨f1,f2,f3⟩:=Dq h
 unfold GK
 rw [List.pairwise_flatMap]
 constructor
 ·intro q hq
  have hr:=DI (f2 q hq)
  unfold BZ
  rw [List.pairwise_map,List.pairwise_iff_getElem]
  intro i j hi hj hij
  simp only [List.length_range] at hi hj
  simp only [List.getElem_range]
  have:=Yj (f2 q hq) hj hij
  exact ⟨by rw [R2 (DY hr hi) (DY hr hj)];exact this,this⟩
 ·rw [List.pairwise_iff_getElem]
  intro i j hi hj hij s hs t ht
  obtain ⟨a,ha,rfl⟩:=NX hs
  obtain ⟨b,hb,rfl⟩:=NX ht
  have hri:=DI (f2 _ (List.getElem_mem hi))
  have hrj:=DI (f2 _ (List.getElem_mem hj))
  have e:∀ k (hk:k<l.length),l.getD k []=l[k]:=fun k hk=>by simp [List.getD,List.getElem?_eq_getElem hk]
  have:=f3 j hj i hij
  rw [e j hj,e i hi] at this
  have:=Vy this hb ha
  exact ⟨by rw [R2 (DY hri ha) (DY hrj hb)];exact this,this⟩
theorem W0 {l:List (List Pt)} (h:DM l=true):H3 (Db l)=true:=by
 obtain ⟨f1,f2,f3⟩:=Dq h
 unfold Db
 rw [h,cond_true]
 have hp:=PT (GK l)
 have hlen:(E2 (GK l)).length≤20:=by rw [NG,Qf];exact Kn h
 have hst:(E2 (GK l)).Pairwise still:=(hp.pairwise_iff fun {x y} hxy=>⟨hxy.2,hxy.1⟩).2 (iP h)
 unfold H3
 rw [Bool.and_eq_true]
 refine ⟨LX.2 ⟨by omega,fun s hs=>?_⟩,?_⟩
 ·have hs:=hp.mem_iff.1 hs
  unfold GK at hs
  obtain ⟨q,hq,hs⟩:=List.mem_flatMap.1 hs
  obtain ⟨i,hi,rfl⟩:=NX hs
  exact DY (DI (f2 q hq)) hi
 ·rw [DQ]
  intro i _ hi
  unfold rowV
  rw [DQ]
  intro j _ hj
  have:=(List.pairwise_iff_getElem.1 hst j i (by omega) (by omega) (by omega)).2
  simp only [List.getD,List.getElem?_eq_getElem (show i<(E2 (GK l)).length by omega),List.getElem?_eq_getElem (show j<(E2 (GK l)).length by omega),Option.getD_some]
  rw [this]
  rfl
end
noncomputable section
/-! ### function 3 -/
def T3 {ρ:Type} (ret:(Bool)→Option ρ) (a0:ByteArray):Option ρ :=
 (AC (Af (AB a0))
 (AC (decide ((↑(AA (AB a0)).size:Int) > 1048576))
 (ret (true))
 (AC (Af (AB a0)&&decide ((AA (AB a0)).size≤1048576))
 (AC (Af (AB a0)&&decide ((AA (AB a0)).size≤1048576))
 (AC (B2 (A5 (Gi (AA (AB a0)))))
 (AC (Cr (BL (Lm (AA (AB a0)))))
 (AC (Cr (BL (Lm (AA (AB a0)))))
 (AC ((H3 (B6 (BL (Lm (AA (AB a0)))))==H3 (B6 (BL (Lm (AA (AB a0))))))==true)
 (AC (((Et (Au (A5 (Gi (AA (AB a0)))))).fst != 0)==false)
 (AC (B2 (A5 (Gi (AA (AB a0)))))
 (AC (Cr (En [A5 (Gi (AA (AB a0)))]))
 (ret (H3 (B6 (En [A5 (Gi (AA (AB a0)))]))))
 none)
 none)
 (ret (true)))
 (ret (false)))
 none)
 none)
 none)
 none)
 none))
 none)
def G3 (a0:ByteArray):Option (Bool):=T3 some a0
theorem t3 (a0:ByteArray) (r:Bool) (h:G3 a0=some r):AY Tryz.prog Tryz.f3.results.toList [.code (AR Tryz.f3)] (start Tryz.f3.ntmps ([AB a0].map .f)) (F.bool r):=by
 refine AY.of_run Ap oV (T:=[]) (n:=200) ?_
 refine gE (Y:=T3 (fun r=>some (.ret (F.bool r))) a0) (by kernel_rfl) ?_
 exact (gS h (fun _ h=>(gS h (fun _ h=>gR (by cases h;rfl)) (fun _ h=>(gS h (fun _ h=>(gS h (fun _ h=>(gS h (fun _ h=>(gS h (fun _ h=>(gS h (fun _ h=>(gS h (fun _ h=>(gS h (fun _ h=>(gS h (fun _ h=>(gS h (fun _ h=>gR (by cases h;rfl)) gN)) gN)) (fun _ h=>gR (by cases h;rfl)))) (fun _ h=>gR (by cases h;rfl)))) gN)) gN)) gN)) gN)) gN)))) gN)
theorem WN (s:ByteArray):G3 s=some true:=by
 unfold G3 T3
 rw [A8,AF,A3]
 by_cases h:s.size≤1048576
 ·rw [decide_eq_false (show ¬ ((s.size:Nat):Int) > 1048576 by omega),decide_eq_true h]
  simp only [CV,B7,C2,Dt,AF,AJ,Bool.and_self,beq_self_eq_true]
  have e:En [A5 (Gi s)]=BL (Db (Gi s)):=by
   show BL (Db (Au (A5 (Gi s))))=_
   rw [B7]
  rw [e,C2,Dt]
  cases hl:DM (Gi s) with
  | false =>
   unfold DM at hl
   rw [bne,hl]
   rfl
  | true =>
   have hl0:=hl
   unfold DM at hl
   rw [bne,hl,W0 hl0]
   rfl
 ·rw [decide_eq_true (show ((s.size:Nat):Int) > 1048576 by omega)]
  rfl
theorem Wn:Ai Tryz.prog 3 (fun xs=>match xs with | [b]=>Af b | _=>false) (fun _=>.bool true) :=
 Ae (c:=AR Tryz.f3) Tryz.func3 (by kernel_rfl) (by kernel_rfl) fun xs hp=>match xs,hp with
 | [b],hp=>⟨[AB (AA b)],_,⟨(CC hp).1,trivial⟩,t3 _ _ (WN _),.refl _⟩
end
end Go.Proofs.YtlefbocihikaoaaGreat.R
