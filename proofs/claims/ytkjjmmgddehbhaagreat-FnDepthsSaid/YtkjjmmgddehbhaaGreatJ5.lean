/-
 The own walk and what it shows,part 5 of 9.
-/
import Derived.Test.YtkjjmmgddehbhaaGreatJ1
import Derived.Test.YtkjjmmgddehbhaaGreatJ2
import Derived.Test.YtkjjmmgddehbhaaGreatJ3
import Derived.Test.YtkjjmmgddehbhaaGreatJ4
set_option linter.unusedVariables false
set_option linter.unusedSimpArgs false
set_option maxRecDepth 100000
set_option exponentiation.threshold 30000
namespace Go.Proofs.YtkjjmmgddehbhaaGreat.R
open Go
noncomputable section
/-! ### function 89 -/
def S89_7 (a:List Nat) (b:List Nat) (m:Nat) (g:Nat→F) (c:Int) (i:Int):St:=⟨(U.f (wordsF a)) :: (U.f (wordsF b)) :: bads 5 ((U.hs 0 m 0 m) :: (U.f (F.int .u64 c)) :: (U.f (F.int .i64 i)) :: bads 316 []),[HO.arr 1 m g]⟩
def S89_51 :St:=⟨bads 326 [],[]⟩
def S89_42 :St:=⟨bads 326 [],[]⟩
def S89_38 :St:=⟨bads 326 [],[]⟩
def S89_29 :St:=⟨bads 326 [],[]⟩
def S89_21 :St:=⟨bads 326 [],[]⟩
def S89_15 :St:=⟨bads 326 [],[]⟩
abbrev KJ51 (ρ:Type):=(List Nat)→(List Nat)→(Nat)→(Nat→F)→(Int)→(Int)→Option ρ
abbrev KJ58 (ρ:Type):=(F)→(F)→Option ρ
def T89_7 {ρ:Type} (ret:KJ58 ρ) (c7:KJ51 ρ) (c51:Option ρ) (c42:Option ρ) (c38:Option ρ) (c29:Option ρ) (c21:Option ρ) (c15:Option ρ) (a:List Nat) (b:List Nat) (m:Nat) (g:Nat→F) (c:Int) (i:Int):Option ρ :=
 (bsel (decide (i ≥ 0))
 (bsel (decide (0≤i))
 (bsel (decide (i<(↑a.length:Int)))
 (bsel (decide (0<(↑b.length:Int)))
 (bsel (isDiv c (↑(a.getD i.toNat 0):Int) (↑(b.getD (Int.toNat 0) 0):Int))
 (bsel (decide (m=m))
 (bsel (decide (0≤i))
 (bsel (decide (i<(↑m:Int)))
 (bsel (decide (m=m))
 (bsel (decide (0+i.toNat<m))
 (bsel (decide ((g (0+i.toNat)).cells.length=1))
 (bsel ((isAggF (g (0+i.toNat)) || true)&&true)
 (c7 (a) (b) (m) (fun j ↦ if j=0+i.toNat then F.int .u64 (divQ c (↑(a.getD i.toNat 0):Int) (↑(b.getD (Int.toNat 0) 0):Int)) else g j) (divR c (↑(a.getD i.toNat 0):Int) (↑(b.getD (Int.toNat 0) 0):Int)) (IntKind.i64.wrap (i-1)))
 none)
 none)
 none)
 none)
 none)
 none)
 none)
 none)
 none)
 none)
 none)
 (bsel (decide (m=m))
 (bsel (isWords (F.sl m (offF 0 g))&&decide ((unWords (F.sl m (offF 0 g))).length≤1000))
 (bsel (isWords (F.sl 1 (lget [F.int .u64 c]))&&true)
 (ret (wordsF (trimL (unWords (F.sl m (offF 0 g))))) (wordsF (trimL (unWords (F.sl 1 (lget [F.int .u64 c]))))))
 none)
 none)
 none))
def T89_51 {ρ:Type} (ret:KJ58 ρ) (c7:KJ51 ρ) (c51:Option ρ) (c42:Option ρ) (c38:Option ρ) (c29:Option ρ) (c21:Option ρ) (c15:Option ρ) :Option ρ :=
 none
def T89_42 {ρ:Type} (ret:KJ58 ρ) (c7:KJ51 ρ) (c51:Option ρ) (c42:Option ρ) (c38:Option ρ) (c29:Option ρ) (c21:Option ρ) (c15:Option ρ) :Option ρ :=
 none
def T89_38 {ρ:Type} (ret:KJ58 ρ) (c7:KJ51 ρ) (c51:Option ρ) (c42:Option ρ) (c38:Option ρ) (c29:Option ρ) (c21:Option ρ) (c15:Option ρ) :Option ρ :=
 none
def T89_29 {ρ:Type} (ret:KJ58 ρ) (c7:KJ51 ρ) (c51:Option ρ) (c42:Option ρ) (c38:Option ρ) (c29:Option ρ) (c21:Option ρ) (c15:Option ρ) :Option ρ :=
 none
def T89_21 {ρ:Type} (ret:KJ58 ρ) (c7:KJ51 ρ) (c51:Option ρ) (c42:Option ρ) (c38:Option ρ) (c29:Option ρ) (c21:Option ρ) (c15:Option ρ) :Option ρ :=
 none
def T89_15 {ρ:Type} (ret:KJ58 ρ) (c7:KJ51 ρ) (c51:Option ρ) (c42:Option ρ) (c38:Option ρ) (c29:Option ρ) (c21:Option ρ) (c15:Option ρ) :Option ρ :=
 none
mutual
def L89_7:Nat→(List Nat)→(List Nat)→(Nat)→(Nat→F)→(Int)→(Int)→Option ((F) × (F))
 | 0,_,_,_,_,_,_=>none
 | k+1,a,b,m,g,c,i=>T89_7 (fun r1 r2=>some (r1,r2)) (L89_7 k) (L89_51 k) (L89_42 k) (L89_38 k) (L89_29 k) (L89_21 k) (L89_15 k) a b m g c i
 termination_by structural k=>k
def L89_51:Nat→Option ((F) × (F))
 | 0=>none
 | k+1=>T89_51 (fun r1 r2=>some (r1,r2)) (L89_7 k) (L89_51 k) (L89_42 k) (L89_38 k) (L89_29 k) (L89_21 k) (L89_15 k)
 termination_by structural k=>k
def L89_42:Nat→Option ((F) × (F))
 | 0=>none
 | k+1=>T89_42 (fun r1 r2=>some (r1,r2)) (L89_7 k) (L89_51 k) (L89_42 k) (L89_38 k) (L89_29 k) (L89_21 k) (L89_15 k)
 termination_by structural k=>k
def L89_38:Nat→Option ((F) × (F))
 | 0=>none
 | k+1=>T89_38 (fun r1 r2=>some (r1,r2)) (L89_7 k) (L89_51 k) (L89_42 k) (L89_38 k) (L89_29 k) (L89_21 k) (L89_15 k)
 termination_by structural k=>k
def L89_29:Nat→Option ((F) × (F))
 | 0=>none
 | k+1=>T89_29 (fun r1 r2=>some (r1,r2)) (L89_7 k) (L89_51 k) (L89_42 k) (L89_38 k) (L89_29 k) (L89_21 k) (L89_15 k)
 termination_by structural k=>k
def L89_21:Nat→Option ((F) × (F))
 | 0=>none
 | k+1=>T89_21 (fun r1 r2=>some (r1,r2)) (L89_7 k) (L89_51 k) (L89_42 k) (L89_38 k) (L89_29 k) (L89_21 k) (L89_15 k)
 termination_by structural k=>k
def L89_15:Nat→Option ((F) × (F))
 | 0=>none
 | k+1=>T89_15 (fun r1 r2=>some (r1,r2)) (L89_7 k) (L89_51 k) (L89_42 k) (L89_38 k) (L89_29 k) (L89_21 k) (L89_15 k)
 termination_by structural k=>k
end
def T89 {ρ:Type} (ret:KJ58 ρ) (c7:KJ51 ρ) (c51:Option ρ) (c42:Option ρ) (c38:Option ρ) (c29:Option ρ) (c21:Option ρ) (c15:Option ρ) (a:List Nat) (b:List Nat):Option ρ :=
 (bsel (isWords (wordsF a)&&decide ((unWords (wordsF a)).length≤1000)&&(isWords (wordsF b)&&decide ((unWords (wordsF b)).length≤1000)))
 (bsel (decide (cmpWV (unWords (wordsF a)) (unWords (wordsF b))<0))
 (ret (F.sl 0 fun x ↦ F.bool false) (wordsF a))
 (bsel ((↑b.length:Int)==1)
 (bsel (decide ((↑a.length:Int)≤(↑a.length:Int)))
 (bsel (decide ((↑a.length:Int)*(((8:Nat):Int)+1)≤(↑limit:Int)))
 (c7 (a) (b) ((↑a.length:Int).toNat) (fun x ↦ F.int .u64 0) (0) (IntKind.i64.wrap ((↑a.length:Int)-1)))
 none)
 none)
 (bsel (decide (0≤IntKind.i64.wrap ((↑b.length:Int)-1)))
 (bsel (decide (IntKind.i64.wrap ((↑b.length:Int)-1)<(↑b.length:Int)))
 (bsel (isWd (↑(b.getD (IntKind.i64.wrap ((↑b.length:Int)-1)).toNat 0):Int))
 none
 none)
 none)
 none)))
 none)
def G89 (k:Nat) (a:List Nat) (b:List Nat):Option ((F) × (F)):=T89 (fun r1 r2=>some (r1,r2)) (L89_7 k) (L89_51 k) (L89_42 k) (L89_38 k) (L89_29 k) (L89_21 k) (L89_15 k) a b
mutual
theorem t89_7:∀ (k:Nat) (a:List Nat) (b:List Nat) (m:Nat) (g:Nat→F) (c:Int) (i:Int) (r1:F) (r2:F),L89_7 k a b m g c i=some (r1,r2)→Ends Tryz.prog Tryz.f89.results.toList (at_ Tryz.f89 7) (S89_7 a b m g c i) (F.tup [r1,r2])
 | 0,_,_,_,_,_,_,_,_,h=>nomatch h
 | k+1,a,b,m,g,c,i,r1,r2,h=>by
  refine Ends.of_cut tyOK envN13_ok (T:=[(7,[0,1,7,8,9],1000),(51,[10,13,28,289,290],1000),(42,[6,10,11,12,13,14,15,20,26,236,237],1000),(38,[6,10,11,12,13,14,15,20],1000),(29,[6,10,11,12,13,14,15,20,21,175,176],1000),(21,[6,10,11,12,13,14,15,16],1000),(15,[6,10,11,12,13,14],1000)]) (n:=200) ?_
  refine gE (Y:=T89_7 (fun r1 r2=>some (.ret (F.tup [r1,r2]))) (fun a b m g c i=>some (.cut (at_ Tryz.f89 7) (S89_7 a b m g c i))) (some (.cut (at_ Tryz.f89 51) (S89_51 ))) (some (.cut (at_ Tryz.f89 42) (S89_42 ))) (some (.cut (at_ Tryz.f89 38) (S89_38 ))) (some (.cut (at_ Tryz.f89 29) (S89_29 ))) (some (.cut (at_ Tryz.f89 21) (S89_21 ))) (some (.cut (at_ Tryz.f89 15) (S89_15 ))) a b m g c i) (by kernel_rfl) ?_
  exact (gS h (fun _ h=>(gS h (fun _ h=>(gS h (fun _ h=>(gS h (fun _ h=>(gS h (fun _ h=>(gS h (fun _ h=>(gS h (fun _ h=>(gS h (fun _ h=>(gS h (fun _ h=>(gS h (fun _ h=>(gS h (fun _ h=>(gS h (fun _ h=>gC (t89_7 k _ _ _ _ _ _ r1 r2 h)) gN)) gN)) gN)) gN)) gN)) gN)) gN)) gN)) gN)) gN)) gN)) (fun _ h=>(gS h (fun _ h=>(gS h (fun _ h=>(gS h (fun _ h=>gR (by cases h;rfl)) gN)) gN)) gN)))
theorem t89_51:∀ (k:Nat)  (r1:F) (r2:F),L89_51 k =some (r1,r2)→Ends Tryz.prog Tryz.f89.results.toList (at_ Tryz.f89 51) (S89_51 ) (F.tup [r1,r2])
 | 0,_,_,h=>nomatch h
 | k+1,r1,r2,h=>by
  refine Ends.of_cut tyOK envN13_ok (T:=[(7,[0,1,7,8,9],1000),(51,[10,13,28,289,290],1000),(42,[6,10,11,12,13,14,15,20,26,236,237],1000),(38,[6,10,11,12,13,14,15,20],1000),(29,[6,10,11,12,13,14,15,20,21,175,176],1000),(21,[6,10,11,12,13,14,15,16],1000),(15,[6,10,11,12,13,14],1000)]) (n:=200) ?_
  refine gE (Y:=T89_51 (fun r1 r2=>some (.ret (F.tup [r1,r2]))) (fun a b m g c i=>some (.cut (at_ Tryz.f89 7) (S89_7 a b m g c i))) (some (.cut (at_ Tryz.f89 51) (S89_51 ))) (some (.cut (at_ Tryz.f89 42) (S89_42 ))) (some (.cut (at_ Tryz.f89 38) (S89_38 ))) (some (.cut (at_ Tryz.f89 29) (S89_29 ))) (some (.cut (at_ Tryz.f89 21) (S89_21 ))) (some (.cut (at_ Tryz.f89 15) (S89_15 ))) ) (by kernel_rfl) ?_
  exact nomatch h
theorem t89_42:∀ (k:Nat)  (r1:F) (r2:F),L89_42 k =some (r1,r2)→Ends Tryz.prog Tryz.f89.results.toList (at_ Tryz.f89 42) (S89_42 ) (F.tup [r1,r2])
 | 0,_,_,h=>nomatch h
 | k+1,r1,r2,h=>by
  refine Ends.of_cut tyOK envN13_ok (T:=[(7,[0,1,7,8,9],1000),(51,[10,13,28,289,290],1000),(42,[6,10,11,12,13,14,15,20,26,236,237],1000),(38,[6,10,11,12,13,14,15,20],1000),(29,[6,10,11,12,13,14,15,20,21,175,176],1000),(21,[6,10,11,12,13,14,15,16],1000),(15,[6,10,11,12,13,14],1000)]) (n:=200) ?_
  refine gE (Y:=T89_42 (fun r1 r2=>some (.ret (F.tup [r1,r2]))) (fun a b m g c i=>some (.cut (at_ Tryz.f89 7) (S89_7 a b m g c i))) (some (.cut (at_ Tryz.f89 51) (S89_51 ))) (some (.cut (at_ Tryz.f89 42) (S89_42 ))) (some (.cut (at_ Tryz.f89 38) (S89_38 ))) (some (.cut (at_ Tryz.f89 29) (S89_29 ))) (some (.cut (at_ Tryz.f89 21) (S89_21 ))) (some (.cut (at_ Tryz.f89 15) (S89_15 ))) ) (by kernel_rfl) ?_
  exact nomatch h
theorem t89_38:∀ (k:Nat)  (r1:F) (r2:F),L89_38 k =some (r1,r2)→Ends Tryz.prog Tryz.f89.results.toList (at_ Tryz.f89 38) (S89_38 ) (F.tup [r1,r2])
 | 0,_,_,h=>nomatch h
 | k+1,r1,r2,h=>by
  refine Ends.of_cut tyOK envN13_ok (T:=[(7,[0,1,7,8,9],1000),(51,[10,13,28,289,290],1000),(42,[6,10,11,12,13,14,15,20,26,236,237],1000),(38,[6,10,11,12,13,14,15,20],1000),(29,[6,10,11,12,13,14,15,20,21,175,176],1000),(21,[6,10,11,12,13,14,15,16],1000),(15,[6,10,11,12,13,14],1000)]) (n:=200) ?_
  refine gE (Y:=T89_38 (fun r1 r2=>some (.ret (F.tup [r1,r2]))) (fun a b m g c i=>some (.cut (at_ Tryz.f89 7) (S89_7 a b m g c i))) (some (.cut (at_ Tryz.f89 51) (S89_51 ))) (some (.cut (at_ Tryz.f89 42) (S89_42 ))) (some (.cut (at_ Tryz.f89 38) (S89_38 ))) (some (.cut (at_ Tryz.f89 29) (S89_29 ))) (some (.cut (at_ Tryz.f89 21) (S89_21 ))) (some (.cut (at_ Tryz.f89 15) (S89_15 ))) ) (by kernel_rfl) ?_
  exact nomatch h
theorem t89_29:∀ (k:Nat)  (r1:F) (r2:F),L89_29 k =some (r1,r2)→Ends Tryz.prog Tryz.f89.results.toList (at_ Tryz.f89 29) (S89_29 ) (F.tup [r1,r2])
 | 0,_,_,h=>nomatch h
 | k+1,r1,r2,h=>by
  refine Ends.of_cut tyOK envN13_ok (T:=[(7,[0,1,7,8,9],1000),(51,[10,13,28,289,290],1000),(42,[6,10,11,12,13,14,15,20,26,236,237],1000),(38,[6,10,11,12,13,14,15,20],1000),(29,[6,10,11,12,13,14,15,20,21,175,176],1000),(21,[6,10,11,12,13,14,15,16],1000),(15,[6,10,11,12,13,14],1000)]) (n:=200) ?_
  refine gE (Y:=T89_29 (fun r1 r2=>some (.ret (F.tup [r1,r2]))) (fun a b m g c i=>some (.cut (at_ Tryz.f89 7) (S89_7 a b m g c i))) (some (.cut (at_ Tryz.f89 51) (S89_51 ))) (some (.cut (at_ Tryz.f89 42) (S89_42 ))) (some (.cut (at_ Tryz.f89 38) (S89_38 ))) (some (.cut (at_ Tryz.f89 29) (S89_29 ))) (some (.cut (at_ Tryz.f89 21) (S89_21 ))) (some (.cut (at_ Tryz.f89 15) (S89_15 ))) ) (by kernel_rfl) ?_
  exact nomatch h
theorem t89_21:∀ (k:Nat)  (r1:F) (r2:F),L89_21 k =some (r1,r2)→Ends Tryz.prog Tryz.f89.results.toList (at_ Tryz.f89 21) (S89_21 ) (F.tup [r1,r2])
 | 0,_,_,h=>nomatch h
 | k+1,r1,r2,h=>by
  refine Ends.of_cut tyOK envN13_ok (T:=[(7,[0,1,7,8,9],1000),(51,[10,13,28,289,290],1000),(42,[6,10,11,12,13,14,15,20,26,236,237],1000),(38,[6,10,11,12,13,14,15,20],1000),(29,[6,10,11,12,13,14,15,20,21,175,176],1000),(21,[6,10,11,12,13,14,15,16],1000),(15,[6,10,11,12,13,14],1000)]) (n:=200) ?_
  refine gE (Y:=T89_21 (fun r1 r2=>some (.ret (F.tup [r1,r2]))) (fun a b m g c i=>some (.cut (at_ Tryz.f89 7) (S89_7 a b m g c i))) (some (.cut (at_ Tryz.f89 51) (S89_51 ))) (some (.cut (at_ Tryz.f89 42) (S89_42 ))) (some (.cut (at_ Tryz.f89 38) (S89_38 ))) (some (.cut (at_ Tryz.f89 29) (S89_29 ))) (some (.cut (at_ Tryz.f89 21) (S89_21 ))) (some (.cut (at_ Tryz.f89 15) (S89_15 ))) ) (by kernel_rfl) ?_
  exact nomatch h
theorem t89_15:∀ (k:Nat)  (r1:F) (r2:F),L89_15 k =some (r1,r2)→Ends Tryz.prog Tryz.f89.results.toList (at_ Tryz.f89 15) (S89_15 ) (F.tup [r1,r2])
 | 0,_,_,h=>nomatch h
 | k+1,r1,r2,h=>by
  refine Ends.of_cut tyOK envN13_ok (T:=[(7,[0,1,7,8,9],1000),(51,[10,13,28,289,290],1000),(42,[6,10,11,12,13,14,15,20,26,236,237],1000),(38,[6,10,11,12,13,14,15,20],1000),(29,[6,10,11,12,13,14,15,20,21,175,176],1000),(21,[6,10,11,12,13,14,15,16],1000),(15,[6,10,11,12,13,14],1000)]) (n:=200) ?_
  refine gE (Y:=T89_15 (fun r1 r2=>some (.ret (F.tup [r1,r2]))) (fun a b m g c i=>some (.cut (at_ Tryz.f89 7) (S89_7 a b m g c i))) (some (.cut (at_ Tryz.f89 51) (S89_51 ))) (some (.cut (at_ Tryz.f89 42) (S89_42 ))) (some (.cut (at_ Tryz.f89 38) (S89_38 ))) (some (.cut (at_ Tryz.f89 29) (S89_29 ))) (some (.cut (at_ Tryz.f89 21) (S89_21 ))) (some (.cut (at_ Tryz.f89 15) (S89_15 ))) ) (by kernel_rfl) ?_
  exact nomatch h
end
theorem t89 (k:Nat) (a:List Nat) (b:List Nat) (r1:F) (r2:F) (h:G89 k a b=some (r1,r2)):Ends Tryz.prog Tryz.f89.results.toList [.code (bodyOf Tryz.f89)] (start Tryz.f89.ntmps ([wordsF a,wordsF b].map .f)) (F.tup [r1,r2]):=by
 refine Ends.of_run tyOK envN13_ok (T:=[(7,[0,1,7,8,9],1000),(51,[10,13,28,289,290],1000),(42,[6,10,11,12,13,14,15,20,26,236,237],1000),(38,[6,10,11,12,13,14,15,20],1000),(29,[6,10,11,12,13,14,15,20,21,175,176],1000),(21,[6,10,11,12,13,14,15,16],1000),(15,[6,10,11,12,13,14],1000)]) (n:=200) ?_
 refine gE (Y:=T89 (fun r1 r2=>some (.ret (F.tup [r1,r2]))) (fun a b m g c i=>some (.cut (at_ Tryz.f89 7) (S89_7 a b m g c i))) (some (.cut (at_ Tryz.f89 51) (S89_51 ))) (some (.cut (at_ Tryz.f89 42) (S89_42 ))) (some (.cut (at_ Tryz.f89 38) (S89_38 ))) (some (.cut (at_ Tryz.f89 29) (S89_29 ))) (some (.cut (at_ Tryz.f89 21) (S89_21 ))) (some (.cut (at_ Tryz.f89 15) (S89_15 ))) a b) (by kernel_rfl) ?_
 exact (gS h (fun _ h=>(gS h (fun _ h=>gR (by cases h;rfl)) (fun _ h=>(gS h (fun _ h=>(gS h (fun _ h=>(gS h (fun _ h=>gC (t89_7 k _ _ _ _ _ _ r1 r2 h)) gN)) gN)) (fun _ h=>(gS h (fun _ h=>(gS h (fun _ h=>(gS h gN gN)) gN)) gN)))))) gN)
theorem divL_drop {B y:Nat} {a:List Nat} {i:Nat} (hi:i<a.length):divL B y (a.drop i)=(((divL B y (a.drop (i+1))).2*B+a.getD i 0) / y :: (divL B y (a.drop (i+1))).1,((divL B y (a.drop (i+1))).2*B+a.getD i 0) % y):=by
 rw [List.drop_eq_getElem_cons hi]
 simp only [divL,List.getD,List.getElem?_eq_getElem hi,Option.getD_some]
theorem rep_set (i v:Nat) (q:List Nat):(List.replicate (i+1) 0++q).set i v=List.replicate i 0++v :: q:=by
 rw [List.replicate_succ',List.append_assoc]
 simp [List.set_append]
theorem div_end {a b:List Nat} {m k c:Nat} {g:Nat→F} {l:List Nat} (hl:l.length=m) (ol:okD 18446744073709551616 l) (hm:m≤900) (hc:c<18446744073709551616) (hg:∀ j,j<m→g j=u64F (l.getD j 0)) :
  L89_7 (k+1) a b m g c (-1)=some (wordsF (trimL l),wordsF (trimL [c])):=by
 rw [L89_7]
 unfold T89_7
 have e1:unWords (F.sl m (offF 0 g))=l:=unWords_read hl hg
 have e2:unWords (F.sl 1 (lget [F.int .u64 (c:Int)]))=[c]:=rfl
 have e3:isWords (F.sl 1 (lget [F.int .u64 (c:Int)]))=true:=isWords_read (l:=[c]) rfl (fun j hj=>by rw [show j=0 by omega];rfl) (by intro w hw;simp at hw;omega)
 have e4:isWords (F.sl m (offF 0 g))=true:=isWords_read hl hg ol
 rw [e1,e2,e3,e4,decide_eq_false (show ¬ (-1:Int) ≥ 0 by omega),bsel_false,decide_eq_true (show m=m from rfl),decide_eq_true (show l.length≤1000 by omega)]
 rfl
theorem div_loop {a:List Nat} {y:Nat} (oa:okD 18446744073709551616 a) (ha:a.length≤900) (hy0:0<y) (hy:y<18446744073709551616):∀ (n k:Nat) (g:Nat→F),n≤a.length→n<k→(∀ j,j<a.length→g j=u64F ((List.replicate n 0++(divL 18446744073709551616 y (a.drop n)).1).getD j 0)) →
  L89_7 k a [y] a.length g ((divL 18446744073709551616 y (a.drop n)).2:Nat) ((n:Int)-1)=some (wordsF (trimL (divL 18446744073709551616 y a).1),wordsF (trimL [(divL 18446744073709551616 y a).2]))
 | _,0,_,_,hk,_=>by omega
 | 0,k+1,g,_,_,hg=>by
  have h2:=(divL_val 18446744073709551616 hy0 a).2
  simp only [List.drop_zero,List.replicate_zero,List.nil_append] at hg ⊢
  exact div_end (by rw [divL_len]) (divL_ok hy0 a oa) ha (by omega) hg
 | n+1,k+1,g,hn,hk,hg=>by
  have hlt:n<a.length:=by omega
  have hx:=getD_lt oa hlt
  have hr:=(divL_val 18446744073709551616 hy0 (a.drop (n+1))).2
  have hd:=divL_drop (B:=18446744073709551616) (y:=y) hlt
  have hlen:(List.replicate (n+1) 0++(divL 18446744073709551616 y (a.drop (n+1))).1).length=a.length:=by
   rw [List.length_append,List.length_replicate,divL_len,List.length_drop];omega
  have ih:=div_loop oa ha hy0 hy n k (fun j=>if j=0+n then F.int .u64 (((divL 18446744073709551616 y (a.drop n)).1.headD 0:Nat):Int) else g j) (by omega) (by omega) (fun j hj=>by
   have:=words_set (v:=(divL 18446744073709551616 y (a.drop n)).1.headD 0) hlen hlt hg j hj
   rw [rep_set] at this
   refine this.trans ?_
   rw [hd]
   rfl)
  rw [L89_7]
  unfold T89_7
  have ei:((n+1:Nat):Int)-1=(n:Int):=by omega
  rw [ei,Int.toNat_natCast,show Int.toNat 0=0 from rfl]
  have ed:isDiv ((divL 18446744073709551616 y (a.drop (n+1))).2:Nat) (a.getD n 0:Nat) (([y]:List Nat).getD 0 0:Nat)=true:=isDiv_iff.2 (by
   show (0≤_∧_)∧(_∧_)∧(0≤((y:Nat):Int)∧((y:Nat):Int)<_)∧_<((y:Nat):Int)
   omega)
  rw [ed,hg (0+n) (by omega),isAgg_or]
  rw [decide_eq_true (show (n:Int) ≥ 0 by omega),decide_eq_true (show (n:Int)<a.length by omega),decide_eq_true (show (0:Int)<(([y]:List Nat).length:Int) by simp),decide_eq_true (show 0+n<a.length by omega),decide_eq_true (u64_cells _),decide_eq_true (show a.length=a.length from rfl)]
  simp only [bsel_true]
  rw [show ([y]:List Nat).getD 0 0=y from rfl,divQ_nat,divR_nat,wrapI (by omega) (by omega)]
  rw [hd] at ih
  exact ih
theorem digs_one {n:Nat} (h0:n ≠ 0) (h:n<18446744073709551616):digs 18446744073709551616 n=[n]:=by
 rw [digs_pos (by omega) h0,Nat.mod_eq_of_lt h,Nat.div_eq_of_lt h,digs_zero]
theorem divW_law {m n:Nat} (hn:n ≠ 0) (h:n<18446744073709551616 ∨ m<n) (hm:m<18446744073709551616 ^ 400) (hnb:n<18446744073709551616 ^ 400):∃ r1 r2,G89 1000 (digs 18446744073709551616 m) (digs 18446744073709551616 n)=some (r1,r2)∧FLe r1 (wordsF (digs 18446744073709551616 (m / n)))∧FLe r2 (wordsF (digs 18446744073709551616 (m % n))):=by
 have lm:=digs_len hm
 have ln:=digs_len hnb
 clear hm hnb
 unfold G89 T89
 rw [unWords_wordsF,unWords_wordsF,isWords_digs,isWords_digs,decide_eq_true (show (digs 18446744073709551616 m).length≤1000 by omega),decide_eq_true (show (digs 18446744073709551616 n).length≤1000 by omega)]
 simp only [Bool.and_self,bsel_true]
 have hc:=(cmpWV_digs m n).2
 by_cases hlt:m<n
 ·rw [decide_eq_true (hc.2 hlt),bsel_true]
  refine ⟨_,_,rfl,?_,?_⟩
  ·rw [Nat.div_eq_of_lt hlt,digs_zero]
   exact FLe.sl fun j hj=>by omega
  ·rw [Nat.mod_eq_of_lt hlt];exact .refl _
 ·have hB:n<18446744073709551616:=by omega
  rw [decide_eq_false (fun hx=>hlt (hc.1 hx)),bsel_false,digs_one hn hB]
  rw [show ((([n]:List Nat).length:Int)==1)=true from rfl,bsel_true,decide_eq_true (Int.le_refl _),decide_eq_true (limit_ok (show (digs 18446744073709551616 m).length≤1000 by omega)),Int.toNat_natCast]
  simp only [bsel_true]
  have hl:=div_loop (a:=digs 18446744073709551616 m) (y:=n) (okD_digs (by omega) m) (by omega) (by omega) hB (digs 18446744073709551616 m).length 1000 (fun _=>F.int .u64 0) (Nat.le_refl _) (by omega) (fun j hj=>by
   rw [List.drop_length]
   simp only [divL,List.append_nil,List.getD,List.getElem?_replicate,if_pos hj]
   rfl)
  rw [List.drop_length] at hl
  rw [wrapI (by omega) (by omega)]
  obtain ⟨v1,v2⟩:=divL_val 18446744073709551616 (show 0<n by omega) (digs 18446744073709551616 m)
  rw [val_digsB] at v1
  obtain ⟨q1,q2⟩:=div_unique v1 v2
  refine ⟨_,_,hl,?_,?_⟩
  ·rw [digs_trimL (by omega) (divL_ok (by omega) _ (okD_digs (by omega) m)),q1];exact .refl _
  ·have ok1:okD 18446744073709551616 [(divL 18446744073709551616 n (digs 18446744073709551616 m)).2]:=by intro w hw;simp at hw;omega
   have v3:val 18446744073709551616 [(divL 18446744073709551616 n (digs 18446744073709551616 m)).2]=(divL 18446744073709551616 n (digs 18446744073709551616 m)).2:=by simp [val]
   rw [digs_trimL (by omega) ok1,v3,q2];exact .refl _
def divOk (m n:Nat):Bool:=!(Nat.beq n 0)&&(Nat.ble (n+1) 18446744073709551616 || Nat.ble (m+1) n)
theorem divOk_iff {m n:Nat}:divOk m n=true ↔ n ≠ 0∧(n<18446744073709551616 ∨ m<n):=by
 unfold divOk
 rw [Bool.and_eq_true,Bool.or_eq_true,Nat.ble_eq,Nat.ble_eq,Bool.not_eq_true']
 constructor
 ·rintro ⟨h1,h2⟩
  exact ⟨fun e=>(by subst e;cases h1),by omega⟩
 ·rintro ⟨h1,h2⟩
  refine ⟨?_,by omega⟩
  cases hb:Nat.beq n 0 with
  | false=>rfl
  | true=>exact absurd (Nat.eq_of_beq_eq_true hb) h1
def isTrim (n:Nat) (x:F):Bool:=isWords x&&lenOk n x&&trimOk (unWords x)
theorem isTrim_iff {n:Nat} {x:F} (h:isTrim n x=true):isWords x=true∧val 18446744073709551616 (unWords x)<18446744073709551616 ^ n∧digs 18446744073709551616 (val 18446744073709551616 (unWords x))=unWords x:=by
 simp only [isTrim,Bool.and_eq_true] at h
 obtain ⟨⟨h1,h2⟩,h3⟩:=h
 refine ⟨h1,?_,digs_words h1 (trimOk_iff.1 h3)⟩
 exact Nat.lt_of_lt_of_le (val_lt _ (okD_unWords h1)) (Nat.pow_le_pow_right (by omega) (lenOk_iff h1 h2))
theorem isTrim_digs {m n:Nat} (h:m<18446744073709551616 ^ n):isTrim n (wordsF (digs 18446744073709551616 m))=true:=by
 simp only [isTrim,Bool.and_eq_true]
 exact ⟨⟨isWords_digs m,lenOk_digs h (Nat.le_refl _)⟩,by rw [unWords_digs];exact trimOk_iff.2 (trimD_digs (by omega) m)⟩
def preDivW:List F→Bool | [x,y]=>isTrim 400 x&&isTrim 400 y&&divOk (val 18446744073709551616 (unWords x)) (val 18446744073709551616 (unWords y)) | _=>false
def resDivW:List F→F | [x,y]=>.tup [wordsF (digs 18446744073709551616 (val 18446744073709551616 (unWords x) / val 18446744073709551616 (unWords y))),wordsF (digs 18446744073709551616 (val 18446744073709551616 (unWords x) % val 18446744073709551616 (unWords y)))] | _=>.dflt
theorem okDivW:PureOK Tryz.prog 89 preDivW resDivW :=
 fn_pure_at (c:=bodyOf Tryz.f89) Tryz.func89 (by kernel_rfl) (by kernel_rfl) fun xs hp=>match xs,hp with
 | [x,y],hp=>by
  simp only [preDivW,Bool.and_eq_true] at hp
  obtain ⟨⟨hx,hy⟩,hd⟩:=hp
  obtain ⟨x1,x2,x3⟩:=isTrim_iff hx
  obtain ⟨y1,y2,y3⟩:=isTrim_iff hy
  obtain ⟨d1,d2⟩:=divOk_iff.1 hd
  obtain ⟨r1,r2,e,f1,f2⟩:=divW_law d1 d2 x2 y2
  rw [x3,y3] at e
  exact ⟨[wordsF (unWords x),wordsF (unWords y)],_,⟨(words_eqv x1).1,(words_eqv y1).1,trivial⟩,t89 1000 _ _ _ _ e,FLe.tup ⟨f1,f2,trivial⟩⟩
def envN14:Env:=envN13.add 89 (.pure preDivW resDivW)
theorem envN14_ok:EnvOK Tryz.prog envN14:=(Env.add_ok envN13_ok okDivW.sp)
end
noncomputable section
/-! ### function 72 -/
def T72 {ρ:Type} (ret:KJ58 ρ) (x:Int) (y:Int):Option ρ :=
 (bsel (isTrim 400 (wordsF (digs 18446744073709551616 x.natAbs))&&isTrim 400 (wordsF (digs 18446744073709551616 y.natAbs))&&divOk (val 18446744073709551616 (unWords (wordsF (digs 18446744073709551616 x.natAbs)))) (val 18446744073709551616 (unWords (wordsF (digs 18446744073709551616 y.natAbs)))))
 (bsel (isWords (wordsF (digs 18446744073709551616 (val 18446744073709551616 (unWords (wordsF (digs 18446744073709551616 x.natAbs))) / val 18446744073709551616 (unWords (wordsF (digs 18446744073709551616 y.natAbs))))))&&lenOk 1000 (wordsF (digs 18446744073709551616 (val 18446744073709551616 (unWords (wordsF (digs 18446744073709551616 x.natAbs))) / val 18446744073709551616 (unWords (wordsF (digs 18446744073709551616 y.natAbs)))))))
 (bsel (isWords (wordsF (digs 18446744073709551616 (val 18446744073709551616 (unWords (wordsF (digs 18446744073709551616 x.natAbs))) % val 18446744073709551616 (unWords (wordsF (digs 18446744073709551616 y.natAbs))))))&&lenOk 1000 (wordsF (digs 18446744073709551616 (val 18446744073709551616 (unWords (wordsF (digs 18446744073709551616 x.natAbs))) % val 18446744073709551616 (unWords (wordsF (digs 18446744073709551616 y.natAbs)))))))
 (bsel (decide (sgn (decide (x<0)) (val 18446744073709551616 (unWords (wordsF (digs 18446744073709551616 (val 18446744073709551616 (unWords (wordsF (digs 18446744073709551616 x.natAbs))) % val 18446744073709551616 (unWords (wordsF (digs 18446744073709551616 y.natAbs))))))))<0))
 (bsel (isNum 400 (numF y))
 (bsel (isNum 400 (numF (sgn (decide (x<0)) (val 18446744073709551616 (unWords (wordsF (digs 18446744073709551616 (val 18446744073709551616 (unWords (wordsF (digs 18446744073709551616 x.natAbs))) % val 18446744073709551616 (unWords (wordsF (digs 18446744073709551616 y.natAbs))))))))))&&isNum 400 (resAbs [numF y]))
 (bsel (decide (y<0))
 (bsel (isNum 400 (numF (sgn (!decide (x<0)==decide (y<0)) (val 18446744073709551616 (unWords (wordsF (digs 18446744073709551616 (val 18446744073709551616 (unWords (wordsF (digs 18446744073709551616 x.natAbs))) / val 18446744073709551616 (unWords (wordsF (digs 18446744073709551616 y.natAbs))))))))))&&true)
 (ret (numF (unNum (numF (sgn (!decide (x<0)==decide (y<0)) (val 18446744073709551616 (unWords (wordsF (digs 18446744073709551616 (val 18446744073709551616 (unWords (wordsF (digs 18446744073709551616 x.natAbs))) / val 18446744073709551616 (unWords (wordsF (digs 18446744073709551616 y.natAbs))))))))))+unNum (resWhole [F.int .i64 1]))) (numF (unNum (numF (sgn (decide (x<0)) (val 18446744073709551616 (unWords (wordsF (digs 18446744073709551616 (val 18446744073709551616 (unWords (wordsF (digs 18446744073709551616 x.natAbs))) % val 18446744073709551616 (unWords (wordsF (digs 18446744073709551616 y.natAbs))))))))))+unNum (resAbs [numF y]))))
 none)
 (bsel (isNum 400 (numF (sgn (!decide (x<0)==decide (y<0)) (val 18446744073709551616 (unWords (wordsF (digs 18446744073709551616 (val 18446744073709551616 (unWords (wordsF (digs 18446744073709551616 x.natAbs))) / val 18446744073709551616 (unWords (wordsF (digs 18446744073709551616 y.natAbs))))))))))&&true)
 (ret (numF (unNum (numF (sgn (!decide (x<0)==decide (y<0)) (val 18446744073709551616 (unWords (wordsF (digs 18446744073709551616 (val 18446744073709551616 (unWords (wordsF (digs 18446744073709551616 x.natAbs))) / val 18446744073709551616 (unWords (wordsF (digs 18446744073709551616 y.natAbs))))))))))-unNum (resWhole [F.int .i64 1]))) (numF (unNum (numF (sgn (decide (x<0)) (val 18446744073709551616 (unWords (wordsF (digs 18446744073709551616 (val 18446744073709551616 (unWords (wordsF (digs 18446744073709551616 x.natAbs))) % val 18446744073709551616 (unWords (wordsF (digs 18446744073709551616 y.natAbs))))))))))+unNum (resAbs [numF y]))))
 none))
 none)
 none)
 (ret (numF (sgn (!decide (x<0)==decide (y<0)) (val 18446744073709551616 (unWords (wordsF (digs 18446744073709551616 (val 18446744073709551616 (unWords (wordsF (digs 18446744073709551616 x.natAbs))) / val 18446744073709551616 (unWords (wordsF (digs 18446744073709551616 y.natAbs)))))))))) (numF (sgn (decide (x<0)) (val 18446744073709551616 (unWords (wordsF (digs 18446744073709551616 (val 18446744073709551616 (unWords (wordsF (digs 18446744073709551616 x.natAbs))) % val 18446744073709551616 (unWords (wordsF (digs 18446744073709551616 y.natAbs))))))))))))
 none)
 none)
 none)
def G72 (x:Int) (y:Int):Option ((F) × (F)):=T72 (fun a b=>some (a,b)) x y
theorem t72 (x:Int) (y:Int) (a:F) (b:F) (h:G72 x y=some (a,b)):Ends Tryz.prog Tryz.f72.results.toList [.code (bodyOf Tryz.f72)] (start Tryz.f72.ntmps ([numF x,numF y].map .f)) (F.tup [a,b]):=by
 refine Ends.of_run tyOK envN14_ok (T:=[]) (n:=200) ?_
 refine gE (Y:=T72 (fun a b=>some (.ret (F.tup [a,b]))) x y) (by kernel_rfl) ?_
 exact (gS h (fun _ h=>(gS h (fun _ h=>(gS h (fun _ h=>(gS h (fun _ h=>(gS h (fun _ h=>(gS h (fun _ h=>(gS h (fun _ h=>(gS h (fun _ h=>gR (by cases h;rfl)) gN)) (fun _ h=>(gS h (fun _ h=>gR (by cases h;rfl)) gN)))) gN)) gN)) (fun _ h=>gR (by cases h;rfl)))) gN)) gN)) gN)
theorem sgn_div (x y:Int) (hy:y ≠ 0):sgn (!(decide (x<0)==decide (y<0))) (x.natAbs / y.natAbs)=x.tdiv y:=by
 have key:∀ a b:Nat,((a / b:Nat):Int)=(a:Int).tdiv b:=fun a b=>rfl
 rcases Int.natAbs_eq x with hx | hx <;> rcases Int.natAbs_eq y with hy' | hy'
 ·rw [decide_eq_false (show ¬ x<0 by omega),decide_eq_false (show ¬ y<0 by omega)]
  conv=>rhs;rw [hx,hy']
  exact key _ _
 ·rw [decide_eq_false (show ¬ x<0 by omega),decide_eq_true (show y<0 by omega)]
  conv=>rhs;rw [hx,hy',Int.tdiv_neg]
  exact congrArg (- ·) (key _ _)
 ·by_cases h0:x=0
  ·subst h0;simp [sgn]
  rw [decide_eq_true (show x<0 by omega),decide_eq_false (show ¬ y<0 by omega)]
  conv=>rhs;rw [hx,hy',Int.neg_tdiv]
  exact congrArg (- ·) (key _ _)
 ·by_cases h0:x=0
  ·subst h0;simp [sgn]
  rw [decide_eq_true (show x<0 by omega),decide_eq_true (show y<0 by omega)]
  conv=>rhs;rw [hx,hy',Int.neg_tdiv,Int.tdiv_neg,Int.neg_neg]
  exact key _ _
theorem sgn_mod (x y:Int):sgn (decide (x<0)) (x.natAbs % y.natAbs)=x.tmod y:=by
 have key:∀ a b:Nat,((a % b:Nat):Int)=(a:Int).tmod b:=fun a b=>rfl
 have hy:x.tmod y=x.tmod (y.natAbs:Int):=by
  rcases Int.natAbs_eq y with hy | hy
  ·rw [← hy]
  ·conv=>lhs;rw [hy,Int.tmod_neg]
 rw [hy]
 rcases Int.natAbs_eq x with hx | hx
 ·rw [decide_eq_false (show ¬ x<0 by omega)]
  conv=>rhs;rw [hx]
  exact key _ _
 ·by_cases h0:x=0
  ·subst h0;simp [sgn]
  rw [decide_eq_true (show x<0 by omega)]
  conv=>rhs;rw [hx,Int.neg_tmod]
  exact congrArg (- ·) (key _ _)
theorem ediv_unique {x y q r:Int} (h:q*y+r=x) (h0:0≤r) (hr:r<y.natAbs):q=x / y∧r=x % y:=by
 have hy:y ≠ 0:=by omega
 have h1:(r+q*y) / y=r / y+q:=Int.add_mul_ediv_right _ _ hy
 have h2:(r+q*y) % y=r % y:=by rw [Int.add_mul_emod_self_right]
 have e:r+q*y=x:=by omega
 rw [e] at h1 h2
 have h3:r % y=r:=by
  rcases Int.lt_or_lt_of_ne hy with hy | hy
  ·rw [← Int.emod_neg];exact Int.emod_eq_of_lt h0 (by omega)
  ·exact Int.emod_eq_of_lt h0 (by omega)
 have h4:r / y=0:=by
  have:=Int.emod_add_mul_ediv r y
  rw [h3] at this
  have h5:y*(r / y)=0:=by omega
  rcases Int.mul_eq_zero.1 h5 with h6 | h6
  ·exact absurd h6 hy
  ·exact h6
 exact ⟨by omega,by rw [h2,h3]⟩
theorem over_fix {x y:Int} (hy:y ≠ 0) :
  (x.tmod y<0→y<0→x.tdiv y+1=x / y∧x.tmod y+y.natAbs=x % y) ∧
  (x.tmod y<0→¬ y<0→x.tdiv y-1=x / y∧x.tmod y+y.natAbs=x % y) ∧
  (¬ x.tmod y<0→x.tdiv y=x / y∧x.tmod y=x % y):=by
 have h1:=Int.tmod_add_mul_tdiv x y
 have h2:(x.tmod y).natAbs<y.natAbs:=by
  rw [Int.natAbs_tmod]
  exact Nat.mod_lt _ (by omega)
 rw [Int.mul_comm] at h1
 refine ⟨fun hr hn=>ediv_unique ?_ (by omega) (by omega),fun hr hn=>ediv_unique ?_ (by omega) (by omega),fun hr=>ediv_unique (by omega) (by omega) (by omega)⟩
 ·rw [Int.add_mul,Int.one_mul];omega
 ·rw [Int.sub_mul,Int.one_mul];omega
theorem over_law {x y:Int} (hy:y ≠ 0) (h:y.natAbs<18446744073709551616 ∨ x.natAbs<y.natAbs) (hx:x.natAbs<18446744073709551616 ^ 399) (hyb:y.natAbs<18446744073709551616 ^ 399):∃ a b,G72 x y=some (a,b)∧a=numF (x / y)∧b=numF (x % y):=by
 have p:18446744073709551616 ^ 399≤18446744073709551616 ^ 400:=Nat.pow_le_pow_right (by omega) (by omega)
 have p1:18446744073709551616 ^ 399+18446744073709551616 ^ 399≤18446744073709551616 ^ 400:=by rw [Nat.pow_succ 18446744073709551616 399];generalize 18446744073709551616 ^ 399=t;omega
 have p2:1≤18446744073709551616 ^ 399:=Nat.pow_pos (by omega)
 have q1:x.natAbs / y.natAbs<18446744073709551616 ^ 400:=Nat.lt_of_le_of_lt (Nat.div_le_self _ _) (Nat.lt_of_lt_of_le hx p)
 have q2:x.natAbs % y.natAbs<18446744073709551616 ^ 400:=Nat.lt_of_le_of_lt (Nat.mod_le _ _) (Nat.lt_of_lt_of_le hx p)
 have q1':(x.tdiv y).natAbs<18446744073709551616 ^ 400:=by rw [Int.natAbs_tdiv];exact q1
 have q2':(x.tmod y).natAbs<18446744073709551616 ^ 400:=by rw [Int.natAbs_tmod];exact q2
 have hx':=Nat.lt_of_lt_of_le hx p
 have hy':=Nat.lt_of_lt_of_le hyb p
 have d:divOk x.natAbs y.natAbs=true:=divOk_iff.2 ⟨by omega,h⟩
 unfold G72 T72
 simp only [unWords_digs,val_digsB,isTrim_digs hx',isTrim_digs hy',d,isWords_digs,lenOk_digs q1 (show 400≤1000 by omega),lenOk_digs q2 (show 400≤1000 by omega),Bool.and_self,Bool.and_true,bsel_true,sgn_div x y hy,sgn_mod,isNum_numF hy',isNum_numF q1',isNum_numF q2',resAbs,resWhole,unNum_numF]
 have ha:isNum 400 (numF ((y.natAbs:Nat):Int))=true:=isNum_numF (by rw [Int.natAbs_natCast];exact hy')
 obtain ⟨f1,f2,f3⟩:=over_fix (x:=x) hy
 rw [ha]
 by_cases hr:x.tmod y<0
 ·rw [decide_eq_true hr,bsel_true,Bool.true_and,bsel_true]
  by_cases hn:y<0
  ·obtain ⟨g1,g2⟩:=f1 hr hn
   rw [decide_eq_true hn,bsel_true]
   exact ⟨_,_,rfl,by rw [g1],by rw [g2]⟩
  ·obtain ⟨g1,g2⟩:=f2 hr hn
   rw [decide_eq_false hn,bsel_false]
   exact ⟨_,_,rfl,by rw [g1],by rw [g2]⟩
 ·obtain ⟨g1,g2⟩:=f3 hr
  rw [decide_eq_false hr,bsel_false]
  exact ⟨_,_,rfl,by rw [g1],by rw [g2]⟩
def overOk (x y:Int):Bool:=divOk x.natAbs y.natAbs
def preOver:List F→Bool | [x,y]=>isNum 399 x&&isNum 399 y&&overOk (unNum x) (unNum y) | _=>false
def resOver:List F→F | [x,y]=>.tup [numF (unNum x / unNum y),numF (unNum x % unNum y)] | _=>.dflt
theorem okOver:PureOK Tryz.prog 72 preOver resOver :=
 fn_pure_at (c:=bodyOf Tryz.f72) Tryz.func72 (by kernel_rfl) (by kernel_rfl) fun xs hp=>match xs,hp with
 | [x,y],hp=>by
  simp only [preOver,Bool.and_eq_true] at hp
  obtain ⟨⟨hx,hy⟩,hd⟩:=hp
  obtain ⟨d1,d2⟩:=divOk_iff.1 hd
  obtain ⟨a,b,e,rfl,rfl⟩:=over_law (by omega) d2 (natAbs_of_isNum hx) (natAbs_of_isNum hy)
  exact ⟨[numF (unNum x),numF (unNum y)],_,⟨(num_eqv hx).1,(num_eqv hy).1,trivial⟩,t72 _ _ _ _ e,.refl _⟩
/-! ### function 70 -/
def S70_3z (l:List Int) (n:Int) (i:Int):St:=⟨bads 2 ((U.hp 0 0) :: (U.hp 1 0) :: bads 7 ((U.f (slF numF 0 l)) :: (U.f (F.int .i64 n)) :: (U.f (F.int .i64 i)) :: bads 23 [])),[HO.box [(U.f (F.bool false)),U.nils],HO.box [(U.f (F.bool false)),U.nils]]⟩
def S70_3 (l:List Int) (o:List Nat) (n:Int) (i:Int):St:=⟨bads 2 ((U.hp 0 0) :: (U.hp 1 0) :: bads 7 ((U.f (slF numF 0 l)) :: (U.f (F.int .i64 n)) :: (U.f (F.int .i64 i)) :: bads 23 [])),[HO.box [(U.f (F.bool false)),U.nils],HO.box [(U.f (F.bool false)),(U.f (wordsF o))]]⟩
def S70_6z (l:List Int) (y:List Nat) (n:Int) (i:Int):St:=⟨bads 2 ((U.hp 0 0) :: (U.hp 1 0) :: bads 2 (U.nils :: (U.f (wordsF y)) :: bads 3 ((U.f (slF numF 0 l)) :: (U.f (F.int .i64 n)) :: (U.f (F.int .i64 i)) :: bads 23 []))),[HO.box [(U.f (F.bool false)),U.nils],HO.box [(U.f (F.bool false)),U.nils]]⟩
def S70_6y (l:List Int) (x:List Nat) (y:List Nat) (n:Int) (i:Int):St:=⟨bads 2 ((U.hp 0 0) :: (U.hp 1 0) :: bads 2 ((U.f (wordsF x)) :: (U.f (wordsF y)) :: bads 3 ((U.f (slF numF 0 l)) :: (U.f (F.int .i64 n)) :: (U.f (F.int .i64 i)) :: bads 23 []))),[HO.box [(U.f (F.bool false)),U.nils],HO.box [(U.f (F.bool false)),U.nils]]⟩
def S70_6 (l:List Int) (o:List Nat) (x:List Nat) (y:List Nat) (n:Int) (i:Int):St:=⟨bads 2 ((U.hp 0 0) :: (U.hp 1 0) :: bads 2 ((U.f (wordsF x)) :: (U.f (wordsF y)) :: bads 3 ((U.f (slF numF 0 l)) :: (U.f (F.int .i64 n)) :: (U.f (F.int .i64 i)) :: bads 23 []))),[HO.box [(U.f (F.bool false)),U.nils],HO.box [(U.f (F.bool false)),(U.f (wordsF o))]]⟩
abbrev KJ52 (ρ:Type):=(List Int)→(List Nat)→(Int)→(Int)→Option ρ
abbrev KJ53 (ρ:Type):=(List Int)→(List Nat)→(List Nat)→(List Nat)→(Int)→(Int)→Option ρ
abbrev KJ54 (ρ:Type):=(List Int)→(List Nat)→(List Nat)→(Int)→(Int)→Option ρ
abbrev KJ55 (ρ:Type):=(F)→Option ρ
abbrev KJ56 (ρ:Type):=(List Int)→(Int)→(Int)→Option ρ
def T70_3z {ρ:Type} (ret:KJ55 ρ) (c3z:KJ56 ρ) (c3:KJ52 ρ) (c6z:KJ52 ρ) (c6y:KJ54 ρ) (c6:KJ53 ρ) (l:List Int) (n:Int) (i:Int):Option ρ :=
 (bsel (decide (i<n))
 (bsel (decide (0≤i))
 (bsel (decide (i<(↑l.length:Int)))
 (c6z (l) (digs 18446744073709551616 (l.getD i.toNat 0).natAbs) (n) (i))
 none)
 none)
 (ret (F.agg [F.bool false,F.sl 0 fun x ↦ F.bool false])))
def T70_3 {ρ:Type} (ret:KJ55 ρ) (c3z:KJ56 ρ) (c3:KJ52 ρ) (c6z:KJ52 ρ) (c6y:KJ54 ρ) (c6:KJ53 ρ) (l:List Int) (o:List Nat) (n:Int) (i:Int):Option ρ :=
 (bsel (decide (i<n))
 (bsel (decide (0≤i))
 (bsel (decide (i<(↑l.length:Int)))
 (c6 (l) (o) (o) (digs 18446744073709551616 (l.getD i.toNat 0).natAbs) (n) (i))
 none)
 none)
 (ret (F.agg [F.bool false,wordsF o])))
def T70_6z {ρ:Type} (ret:KJ55 ρ) (c3z:KJ56 ρ) (c3:KJ52 ρ) (c6z:KJ52 ρ) (c6y:KJ54 ρ) (c6:KJ53 ρ) (l:List Int) (y:List Nat) (n:Int) (i:Int):Option ρ :=
 (bsel (decide ((↑y.length:Int) > 0))
 (bsel (isTrim 400 (wordsF y)&&divOk (val 18446744073709551616 (unWords (F.sl 0 fun x ↦ F.bool false))) (val 18446744073709551616 (unWords (wordsF y))))
 (c6y (l) (y) (unWords (wordsF (digs 18446744073709551616 (val 18446744073709551616 (unWords (F.sl 0 fun x ↦ F.bool false)) % val 18446744073709551616 (unWords (wordsF y)))))) (n) (i))
 none)
 (c3z (l) (n) (IntKind.i64.wrap (i+1))))
def T70_6y {ρ:Type} (ret:KJ55 ρ) (c3z:KJ56 ρ) (c3:KJ52 ρ) (c6z:KJ52 ρ) (c6y:KJ54 ρ) (c6:KJ53 ρ) (l:List Int) (x:List Nat) (y:List Nat) (n:Int) (i:Int):Option ρ :=
 (bsel (decide ((↑y.length:Int) > 0))
 (bsel (isTrim 400 (wordsF x)&&isTrim 400 (wordsF y)&&divOk (val 18446744073709551616 (unWords (wordsF x))) (val 18446744073709551616 (unWords (wordsF y))))
 (bsel (isWords (F.sl (digs 18446744073709551616 (val 18446744073709551616 (unWords (wordsF x)) % val 18446744073709551616 (unWords (wordsF y)))).length fun i ↦ u64F ((digs 18446744073709551616 (val 18446744073709551616 (unWords (wordsF x)) % val 18446744073709551616 (unWords (wordsF y)))).getD i 0))&&lenOk 1000 (F.sl (digs 18446744073709551616 (val 18446744073709551616 (unWords (wordsF x)) % val 18446744073709551616 (unWords (wordsF y)))).length fun i ↦ u64F ((digs 18446744073709551616 (val 18446744073709551616 (unWords (wordsF x)) % val 18446744073709551616 (unWords (wordsF y)))).getD i 0)))
 (c6y (l) (y) (unWords (wordsF (digs 18446744073709551616 (val 18446744073709551616 (unWords (wordsF x)) % val 18446744073709551616 (unWords (wordsF y)))))) (n) (i))
 none)
 none)
 (c3 (l) (x) (n) (IntKind.i64.wrap (i+1))))
def T70_6 {ρ:Type} (ret:KJ55 ρ) (c3z:KJ56 ρ) (c3:KJ52 ρ) (c6z:KJ52 ρ) (c6y:KJ54 ρ) (c6:KJ53 ρ) (l:List Int) (o:List Nat) (x:List Nat) (y:List Nat) (n:Int) (i:Int):Option ρ :=
 (bsel (decide ((↑y.length:Int) > 0))
 (bsel (isTrim 400 (wordsF x)&&isTrim 400 (wordsF y)&&divOk (val 18446744073709551616 (unWords (wordsF x))) (val 18446744073709551616 (unWords (wordsF y))))
 (bsel (isWords (F.sl (digs 18446744073709551616 (val 18446744073709551616 (unWords (wordsF x)) % val 18446744073709551616 (unWords (wordsF y)))).length fun i ↦ u64F ((digs 18446744073709551616 (val 18446744073709551616 (unWords (wordsF x)) % val 18446744073709551616 (unWords (wordsF y)))).getD i 0))&&lenOk 1000 (F.sl (digs 18446744073709551616 (val 18446744073709551616 (unWords (wordsF x)) % val 18446744073709551616 (unWords (wordsF y)))).length fun i ↦ u64F ((digs 18446744073709551616 (val 18446744073709551616 (unWords (wordsF x)) % val 18446744073709551616 (unWords (wordsF y)))).getD i 0)))
 (c6 (l) (o) (y) (unWords (wordsF (digs 18446744073709551616 (val 18446744073709551616 (unWords (wordsF x)) % val 18446744073709551616 (unWords (wordsF y)))))) (n) (i))
 none)
 none)
 (c3 (l) (x) (n) (IntKind.i64.wrap (i+1))))
mutual
def L70_3z:Nat→(List Int)→(Int)→(Int)→Option (F)
 | 0,_,_,_=>none
 | k+1,l,n,i=>T70_3z some (L70_3z k) (L70_3 k) (L70_6z k) (L70_6y k) (L70_6 k) l n i
 termination_by structural k=>k
def L70_3:Nat→(List Int)→(List Nat)→(Int)→(Int)→Option (F)
 | 0,_,_,_,_=>none
 | k+1,l,o,n,i=>T70_3 some (L70_3z k) (L70_3 k) (L70_6z k) (L70_6y k) (L70_6 k) l o n i
 termination_by structural k=>k
def L70_6z:Nat→(List Int)→(List Nat)→(Int)→(Int)→Option (F)
 | 0,_,_,_,_=>none
 | k+1,l,y,n,i=>T70_6z some (L70_3z k) (L70_3 k) (L70_6z k) (L70_6y k) (L70_6 k) l y n i
 termination_by structural k=>k
def L70_6y:Nat→(List Int)→(List Nat)→(List Nat)→(Int)→(Int)→Option (F)
 | 0,_,_,_,_,_=>none
 | k+1,l,x,y,n,i=>T70_6y some (L70_3z k) (L70_3 k) (L70_6z k) (L70_6y k) (L70_6 k) l x y n i
 termination_by structural k=>k
def L70_6:Nat→(List Int)→(List Nat)→(List Nat)→(List Nat)→(Int)→(Int)→Option (F)
 | 0,_,_,_,_,_,_=>none
 | k+1,l,o,x,y,n,i=>T70_6 some (L70_3z k) (L70_3 k) (L70_6z k) (L70_6y k) (L70_6 k) l o x y n i
 termination_by structural k=>k
end
def T70 {ρ:Type} (ret:KJ55 ρ) (c3z:KJ56 ρ) (c3:KJ52 ρ) (c6z:KJ52 ρ) (c6y:KJ54 ρ) (c6:KJ53 ρ) (l:List Int):Option ρ :=
 (c3z (l) ((↑l.length:Int)) (0))
def G70 (k:Nat) (l:List Int):Option (F):=T70 some (L70_3z k) (L70_3 k) (L70_6z k) (L70_6y k) (L70_6 k) l
mutual
theorem t70_3z:∀ (k:Nat) (l:List Int) (n:Int) (i:Int) (r:F),L70_3z k l n i=some r→Ends Tryz.prog Tryz.f70.results.toList (at_ Tryz.f70 3) (S70_3z l n i) (r)
 | 0,_,_,_,_,h=>nomatch h
 | k+1,l,n,i,r,h=>by
  refine Ends.of_cut tyOK envN14_ok (T:=[(3,[2,3,11,12,13],1000),(6,[2,3,6,7,11,12,13],1000)]) (n:=200) ?_
  refine gE (Y:=T70_3z (fun r=>some (.ret (r))) (fun l n i=>some (.cut (at_ Tryz.f70 3) (S70_3z l n i))) (fun l o n i=>some (.cut (at_ Tryz.f70 3) (S70_3 l o n i))) (fun l y n i=>some (.cut (at_ Tryz.f70 6) (S70_6z l y n i))) (fun l x y n i=>some (.cut (at_ Tryz.f70 6) (S70_6y l x y n i))) (fun l o x y n i=>some (.cut (at_ Tryz.f70 6) (S70_6 l o x y n i))) l n i) (by kernel_rfl) ?_
  exact (gS h (fun _ h=>(gS h (fun _ h=>(gS h (fun _ h=>gC (t70_6z k _ _ _ _ r h)) gN)) gN)) (fun _ h=>gR (by cases h;rfl)))
theorem t70_3:∀ (k:Nat) (l:List Int) (o:List Nat) (n:Int) (i:Int) (r:F),L70_3 k l o n i=some r→Ends Tryz.prog Tryz.f70.results.toList (at_ Tryz.f70 3) (S70_3 l o n i) (r)
 | 0,_,_,_,_,_,h=>nomatch h
 | k+1,l,o,n,i,r,h=>by
  refine Ends.of_cut tyOK envN14_ok (T:=[(3,[2,3,11,12,13],1000),(6,[2,3,6,7,11,12,13],1000)]) (n:=200) ?_
  refine gE (Y:=T70_3 (fun r=>some (.ret (r))) (fun l n i=>some (.cut (at_ Tryz.f70 3) (S70_3z l n i))) (fun l o n i=>some (.cut (at_ Tryz.f70 3) (S70_3 l o n i))) (fun l y n i=>some (.cut (at_ Tryz.f70 6) (S70_6z l y n i))) (fun l x y n i=>some (.cut (at_ Tryz.f70 6) (S70_6y l x y n i))) (fun l o x y n i=>some (.cut (at_ Tryz.f70 6) (S70_6 l o x y n i))) l o n i) (by kernel_rfl) ?_
  exact (gS h (fun _ h=>(gS h (fun _ h=>(gS h (fun _ h=>gC (t70_6 k _ _ _ _ _ _ r h)) gN)) gN)) (fun _ h=>gR (by cases h;rfl)))
theorem t70_6z:∀ (k:Nat) (l:List Int) (y:List Nat) (n:Int) (i:Int) (r:F),L70_6z k l y n i=some r→Ends Tryz.prog Tryz.f70.results.toList (at_ Tryz.f70 6) (S70_6z l y n i) (r)
 | 0,_,_,_,_,_,h=>nomatch h
 | k+1,l,y,n,i,r,h=>by
  refine Ends.of_cut tyOK envN14_ok (T:=[(3,[2,3,11,12,13],1000),(6,[2,3,6,7,11,12,13],1000)]) (n:=200) ?_
  refine gE (Y:=T70_6z (fun r=>some (.ret (r))) (fun l n i=>some (.cut (at_ Tryz.f70 3) (S70_3z l n i))) (fun l o n i=>some (.cut (at_ Tryz.f70 3) (S70_3 l o n i))) (fun l y n i=>some (.cut (at_ Tryz.f70 6) (S70_6z l y n i))) (fun l x y n i=>some (.cut (at_ Tryz.f70 6) (S70_6y l x y n i))) (fun l o x y n i=>some (.cut (at_ Tryz.f70 6) (S70_6 l o x y n i))) l y n i) (by kernel_rfl) ?_
  exact (gS h (fun _ h=>(gS h (fun _ h=>gC (t70_6y k _ _ _ _ _ r h)) gN)) (fun _ h=>gC (t70_3z k _ _ _ r h)))
theorem t70_6y:∀ (k:Nat) (l:List Int) (x:List Nat) (y:List Nat) (n:Int) (i:Int) (r:F),L70_6y k l x y n i=some r→Ends Tryz.prog Tryz.f70.results.toList (at_ Tryz.f70 6) (S70_6y l x y n i) (r)
 | 0,_,_,_,_,_,_,h=>nomatch h
 | k+1,l,x,y,n,i,r,h=>by
  refine Ends.of_cut tyOK envN14_ok (T:=[(3,[2,3,11,12,13],1000),(6,[2,3,6,7,11,12,13],1000)]) (n:=200) ?_
  refine gE (Y:=T70_6y (fun r=>some (.ret (r))) (fun l n i=>some (.cut (at_ Tryz.f70 3) (S70_3z l n i))) (fun l o n i=>some (.cut (at_ Tryz.f70 3) (S70_3 l o n i))) (fun l y n i=>some (.cut (at_ Tryz.f70 6) (S70_6z l y n i))) (fun l x y n i=>some (.cut (at_ Tryz.f70 6) (S70_6y l x y n i))) (fun l o x y n i=>some (.cut (at_ Tryz.f70 6) (S70_6 l o x y n i))) l x y n i) (by kernel_rfl) ?_
  exact (gS h (fun _ h=>(gS h (fun _ h=>(gS h (fun _ h=>gC (t70_6y k _ _ _ _ _ r h)) gN)) gN)) (fun _ h=>gC (t70_3 k _ _ _ _ r h)))
theorem t70_6:∀ (k:Nat) (l:List Int) (o:List Nat) (x:List Nat) (y:List Nat) (n:Int) (i:Int) (r:F),L70_6 k l o x y n i=some r→Ends Tryz.prog Tryz.f70.results.toList (at_ Tryz.f70 6) (S70_6 l o x y n i) (r)
 | 0,_,_,_,_,_,_,_,h=>nomatch h
 | k+1,l,o,x,y,n,i,r,h=>by
  refine Ends.of_cut tyOK envN14_ok (T:=[(3,[2,3,11,12,13],1000),(6,[2,3,6,7,11,12,13],1000)]) (n:=200) ?_
  refine gE (Y:=T70_6 (fun r=>some (.ret (r))) (fun l n i=>some (.cut (at_ Tryz.f70 3) (S70_3z l n i))) (fun l o n i=>some (.cut (at_ Tryz.f70 3) (S70_3 l o n i))) (fun l y n i=>some (.cut (at_ Tryz.f70 6) (S70_6z l y n i))) (fun l x y n i=>some (.cut (at_ Tryz.f70 6) (S70_6y l x y n i))) (fun l o x y n i=>some (.cut (at_ Tryz.f70 6) (S70_6 l o x y n i))) l o x y n i) (by kernel_rfl) ?_
  exact (gS h (fun _ h=>(gS h (fun _ h=>(gS h (fun _ h=>gC (t70_6 k _ _ _ _ _ _ r h)) gN)) gN)) (fun _ h=>gC (t70_3 k _ _ _ _ r h)))
end
theorem t70 (k:Nat) (l:List Int) (r:F) (h:G70 k l=some r):Ends Tryz.prog Tryz.f70.results.toList [.code (bodyOf Tryz.f70)] (start Tryz.f70.ntmps ([slF numF 0 l].map .f)) (r):=by
 refine Ends.of_run tyOK envN14_ok (T:=[(3,[2,3,11,12,13],1000),(6,[2,3,6,7,11,12,13],1000)]) (n:=200) ?_
 refine gE (Y:=T70 (fun r=>some (.ret (r))) (fun l n i=>some (.cut (at_ Tryz.f70 3) (S70_3z l n i))) (fun l o n i=>some (.cut (at_ Tryz.f70 3) (S70_3 l o n i))) (fun l y n i=>some (.cut (at_ Tryz.f70 6) (S70_6z l y n i))) (fun l x y n i=>some (.cut (at_ Tryz.f70 6) (S70_6y l x y n i))) (fun l o x y n i=>some (.cut (at_ Tryz.f70 6) (S70_6 l o x y n i))) l) (by kernel_rfl) ?_
 exact gC (t70_3z k _ _ _ r h)
def numsF (l:List Int):F:=slF numF 0 l
def isNums (n:Nat) (x:F):Bool:=isSl (isNum n) x
def unNums (x:F):List Int:=unSl unNum x
theorem gcd_loop {l:List Int} {n i:Int} {o:List Nat}:∀ (y x k:Nat),y<18446744073709551616→x<18446744073709551616 ^ 400→y+1≤k →
  ∃ k',k≤k'+(y+1)∧L70_6 k l o (digs 18446744073709551616 x) (digs 18446744073709551616 y) n i=L70_3 k' l (digs 18446744073709551616 (Nat.gcd x y)) n (IntKind.i64.wrap (i+1)):=by
 intro y
 induction y using Nat.strongRecOn with
 | _ y ih =>
  intro x k hy hx hk
  obtain ⟨k,rfl⟩:∃ j,k=j+1:=⟨k-1,by omega⟩
  rw [L70_6]
  unfold T70_6
  by_cases h0:y=0
  ·subst h0
   rw [digs_zero,show decide (((([]:List Nat).length:Nat):Int) > 0)=false from rfl,bsel_false,Nat.gcd_zero_right]
   exact ⟨k,by omega,rfl⟩
  ·have hyb:y<18446744073709551616 ^ 400:=Nat.lt_of_lt_of_le hy (by rw [← Nat.pow_one 18446744073709551616];exact Nat.pow_le_pow_right (by omega) (by omega))
   have d:divOk x y=true:=divOk_iff.2 ⟨h0,.inl hy⟩
   have hm:x % y<y:=Nat.mod_lt _ (by omega)
   have hl:=digs_len (show x % y<18446744073709551616 ^ 400 by omega)
   have e1:∀ l:List Nat,(F.sl l.length fun i=>u64F (l.getD i 0))=wordsF l:=fun _=>rfl
   rw [decide_eq_true (digs_len_pos.2 h0),bsel_true,isTrim_digs hx,isTrim_digs hyb]
   simp only [unWords_digs,val_digsB,d,Bool.and_self,bsel_true,e1,isWords_digs,lenOk_digs (show x % y<18446744073709551616 ^ 400 by omega) (show 400≤1000 by omega)]
   obtain ⟨k',h1,h2⟩:=ih (x % y) hm y k (by omega) hyb (by omega)
   refine ⟨k',by omega,?_⟩
   rw [h2,← gcd_step]
theorem gcd_bound {x y b:Nat} (hx:x<b) (hy:y<b):Nat.gcd x y<b:=by
 rcases Nat.eq_zero_or_pos y with h | h
 ·subst h;rwa [Nat.gcd_zero_right]
 ·exact Nat.lt_of_le_of_lt (Nat.gcd_le_right x h) hy
def gcdFrom (g:Nat) (l:List Int):Nat:=l.foldl (fun g z=>Nat.gcd g z.natAbs) g
def gcdNeed:List Int→Nat
 | []=>2
 | z :: l=>z.natAbs+5+gcdNeed l
theorem drop_consZ {a:List Int} {x:Int} {rest:List Int} {i:Nat} (h:a.drop i=x :: rest):a.getD i 0=x∧a.drop (i+1)=rest∧i<a.length:=by
 have hi:i<a.length:=by
  rcases Nat.lt_or_ge i a.length with h1 | h1
  ·exact h1
  ·rw [List.drop_eq_nil_of_le h1] at h;cases h
 rw [List.drop_eq_getElem_cons hi] at h
 injection h with h1 h2
 exact ⟨by simp [List.getD,List.getElem?_eq_getElem hi,h1],h2,hi⟩
theorem gcd_tail {l:List Int} (hl:l.length≤1000):∀ (rest:List Int) (i g k:Nat),l.drop i=rest→i+rest.length=l.length→g<18446744073709551616 ^ 400→(∀ z ∈ rest,z.natAbs<18446744073709551616)→gcdNeed rest≤k →
  L70_3 k l (digs 18446744073709551616 g) l.length i=some (.agg [.bool false,wordsF (digs 18446744073709551616 (gcdFrom g rest))])
 | [],i,g,k,hr,hi,hg,hz,hk=>by
  obtain ⟨k,rfl⟩:∃ j,k=j+1:=⟨k-1,by simp [gcdNeed] at hk;omega⟩
  simp only [List.length_nil,Nat.add_zero] at hi
  subst hi
  rw [L70_3]
  unfold T70_3
  rw [decide_eq_false (by omega),bsel_false]
  rfl
 | z :: rest,i,g,k,hr,hi,hg,hz,hk=>by
  simp only [gcdNeed] at hk
  obtain ⟨k,rfl⟩:∃ j,k=j+1:=⟨k-1,by omega⟩
  obtain ⟨hx,hr',hlt⟩:=drop_consZ hr
  have hzB:=hz z (by simp)
  obtain ⟨k',h1,h2⟩:=gcd_loop (l:=l) (n:=l.length) (i:=i) (o:=digs 18446744073709551616 g) z.natAbs g k hzB hg (by omega)
  rw [L70_3]
  unfold T70_3
  rw [decide_eq_true (show (i:Int)<l.length by omega),decide_eq_true (show (0:Int)≤i by omega),Int.toNat_natCast,hx]
  simp only [bsel_true]
  rw [h2,wrapI (by omega) (by omega),show (i:Int)+1=((i+1:Nat):Int) by omega]
  have hzb:z.natAbs<18446744073709551616 ^ 400:=Nat.lt_of_lt_of_le hzB (by rw [← Nat.pow_one 18446744073709551616];exact Nat.pow_le_pow_right (by omega) (by omega))
  exact gcd_tail hl rest (i+1) (Nat.gcd g z.natAbs) k' hr' (by simp only [List.length_cons] at hi;omega) (gcd_bound hg hzb) (fun z hz'=>hz z (by simp [hz'])) (by omega)
theorem gcd_head {l:List Int} (hl:l.length≤1000):∀ (rest:List Int) (i k:Nat),l.drop i=rest→i+rest.length=l.length→(∀ z ∈ rest,z.natAbs<18446744073709551616 ^ 400)→(∀ z ∈ rest.tail,z.natAbs<18446744073709551616)→gcdNeed rest≤k →
  ∃ r,L70_3z k l l.length i=some r∧FLe r (.agg [.bool false,wordsF (digs 18446744073709551616 (gcdFrom 0 rest))])
 | [],i,k,hr,hi,hb,hz,hk=>by
  obtain ⟨k,rfl⟩:∃ j,k=j+1:=⟨k-1,by simp [gcdNeed] at hk;omega⟩
  simp only [List.length_nil,Nat.add_zero] at hi
  subst hi
  rw [L70_3z]
  unfold T70_3z
  rw [decide_eq_false (by omega),bsel_false]
  refine ⟨_,rfl,?_⟩
  rw [show gcdFrom 0 []=0 from rfl,digs_zero]
  exact FLe.agg ⟨.refl _,FLe.sl fun j hj=>by omega,trivial⟩
 | z :: rest,i,k,hr,hi,hb,hz,hk=>by
  simp only [gcdNeed] at hk
  obtain ⟨k,rfl⟩:∃ j,k=j+3:=⟨k-3,by omega⟩
  obtain ⟨hx,hr',hlt⟩:=drop_consZ hr
  have hzb:=hb z (by simp)
  have hle:i+1+rest.length=l.length:=by simp only [List.length_cons] at hi;omega
  have eg:gcdFrom 0 (z :: rest)=gcdFrom z.natAbs rest:=by
   show gcdFrom (Nat.gcd 0 z.natAbs) rest=_
   rw [Nat.gcd_zero_left]
  rw [eg,L70_3z]
  unfold T70_3z
  rw [decide_eq_true (show (i:Int)<l.length by omega),decide_eq_true (show (0:Int)≤i by omega),Int.toNat_natCast,hx]
  simp only [bsel_true]
  rw [L70_6z]
  unfold T70_6z
  have ew:IntKind.i64.wrap ((i:Int)+1)=((i+1:Nat):Int):=by rw [wrapI (by omega) (by omega)];omega
  by_cases h0:z.natAbs=0
  ·rw [h0,digs_zero,show decide (((([]:List Nat).length:Nat):Int) > 0)=false from rfl,bsel_false,ew]
   exact gcd_head hl rest (i+1) (k+1) hr' hle (fun z hz'=>hb z (by simp [hz'])) (fun z hz'=>hz z (List.mem_of_mem_tail hz')) (by omega)
  ·have d:divOk 0 z.natAbs=true:=divOk_iff.2 ⟨h0,.inr (by omega)⟩
   have e0:val 18446744073709551616 (unWords (F.sl 0 fun x=>F.bool false))=0:=rfl
   rw [decide_eq_true (digs_len_pos.2 h0),bsel_true,isTrim_digs hzb]
   simp only [e0,unWords_digs,val_digsB,d,Bool.and_self,bsel_true,Nat.zero_mod,digs_zero]
   rw [L70_6y]
   unfold T70_6y
   rw [show unWords (wordsF [])=[] from rfl,show decide (((([]:List Nat).length:Nat):Int) > 0)=false from rfl,bsel_false,ew]
   exact ⟨_,gcd_tail hl rest (i+1) z.natAbs k hr' hle hzb (fun z hz'=>hz z hz') (by omega),.refl _⟩
def gcdOk (l:List Int):Bool:=decide (l.length≤1000)&&l.tail.all fun z=>Nat.ble (z.natAbs+1) 18446744073709551616
theorem gcdOk_iff {l:List Int}:gcdOk l=true ↔ l.length≤1000∧∀ z ∈ l.tail,z.natAbs<18446744073709551616:=by
 simp only [gcdOk,Bool.and_eq_true,decide_eq_true_eq,List.all_eq_true,Nat.ble_eq]
 rfl
theorem nums_eqv {n:Nat} {x:F} (h:isNums n x=true):FLe x (numsF (unNums x))∧FLe (numsF (unNums x)) x:=slF_eqv' (fun _ h=>num_el h) h
theorem nums_bound {n:Nat} {x:F} (h:isNums n x=true):∀ z ∈ unNums x,z.natAbs<18446744073709551616 ^ n:=by
 cases x with
 | sl m g =>
  simp only [isNums,isSl,List.all_eq_true,List.mem_range] at h
  intro z hz
  simp only [unNums,unSl,List.mem_map,List.mem_range] at hz
  obtain ⟨i,hi,rfl⟩:=hz
  exact natAbs_of_isNum (h i hi)
 | _=>simp [isNums,isSl] at h
theorem numF_nat (n:Nat):numF (n:Int)=.agg [.bool false,wordsF (digs 18446744073709551616 n)]:=by
 unfold numF
 rw [decide_eq_false (by omega),Int.natAbs_natCast]
def preGcd:List F→Bool | [x]=>isNums 400 x&&gcdOk (unNums x) | _=>false
def resGcd:List F→F | [x]=>numF (gcdFrom 0 (unNums x):Nat) | _=>.dflt
theorem okGcd:PureOK Tryz.prog 70 preGcd resGcd :=
 fn_pure_at (c:=bodyOf Tryz.f70) Tryz.func70 (by kernel_rfl) (by kernel_rfl) fun xs hp=>match xs,hp with
 | [x],hp=>by
  simp only [preGcd,Bool.and_eq_true] at hp
  obtain ⟨h1,h2⟩:=gcdOk_iff.1 hp.2
  obtain ⟨r,e,hr⟩:=gcd_head h1 (unNums x) 0 (gcdNeed (unNums x)) rfl (by omega) (nums_bound hp.1) h2 (Nat.le_refl _)
  rw [← numF_nat] at hr
  exact ⟨[numsF (unNums x)],_,⟨(nums_eqv hp.1).1,trivial⟩,t70 (gcdNeed (unNums x)) _ _ e,hr⟩
def envN15:Env:=(envN14.add 72 (.pure preOver resOver)).add 70 (.pure preGcd resGcd)
theorem envN15_ok:EnvOK Tryz.prog envN15:=(Env.add_ok (Env.add_ok envN14_ok okOver.sp) okGcd.sp)
end
noncomputable section
def envN16:Env:=envN15.add 90 (.own preClone posSl ownClone (fun _=>.tup [.tup []]))
theorem envN16_ok:EnvOK Tryz.prog envN16:=(Env.add_ok envN15_ok okCloneO)
end
noncomputable section
/-! ### function 74 -/
def S74_4 (z:Int) (n:Int):St:=⟨bads 1 ((U.hp 0 0) :: (U.hp 1 0) :: bads 1 ((U.hp 2 0) :: bads 45 [])),[HO.box [(U.f (F.bool (decide (z<0)))),(U.f (wordsF (digs 18446744073709551616 z.natAbs)))],HO.box [(U.f (F.int .u64 0)),(U.f (F.int .u64 0)),(U.f (F.int .u64 0)),(U.f (F.int .u64 0))],HO.box [(U.f (F.bool (decide (n<0)))),(U.f (wordsF (digs 18446744073709551616 n.natAbs)))]]⟩
def S74_7 (z:Int) (m:Nat) (g:Nat→F):St:=⟨bads 1 ((U.hp 0 0) :: (U.hp 1 0) :: bads 2 ((U.hs 2 m 0 m) :: bads 44 [])),[HO.box [(U.f (F.bool (decide (z<0)))),(U.f (wordsF (digs 18446744073709551616 z.natAbs)))],HO.box [(U.f (F.int .u64 0)),(U.f (F.int .u64 0)),(U.f (F.int .u64 0)),(U.f (F.int .u64 0))],HO.arr 1 m g]⟩
def S74_9 (m:Nat) (g:Nat→F) (n:Int) (i:Int):St:=⟨bads 2 ((U.hp 0 0) :: bads 2 ((U.hs 1 m 0 m) :: bads 18 ((U.f (F.int .i64 n)) :: (U.f (F.int .i64 i)) :: bads 24 []))),[HO.box [(U.f (F.int .u64 0)),(U.f (F.int .u64 0)),(U.f (F.int .u64 0)),(U.f (F.int .u64 0))],HO.arr 1 m g]⟩
def S74_13 (m:Nat) (g:Nat→F):St:=⟨bads 2 ((U.hp 0 0) :: bads 2 ((U.hs 1 m 0 m) :: bads 44 [])),[HO.box [(U.f (F.int .u64 0)),(U.f (F.int .u64 0)),(U.f (F.int .u64 0)),(U.f (F.int .u64 0))],HO.arr 1 m g]⟩
abbrev KJ57 (ρ:Type):=(Nat)→(Nat→F)→(Int)→(Int)→Option ρ
abbrev KJ59 (ρ:Type):=(Int)→(Nat)→(Nat→F)→Option ρ
abbrev KJ510 (ρ:Type):=(Int)→(Int)→Option ρ
abbrev KJ511 (ρ:Type):=(Nat)→(Nat→F)→Option ρ
def T74_4 {ρ:Type} (ret:(F)→(Bool)→Option ρ) (c4:KJ510 ρ) (c7:KJ59 ρ) (c9:KJ57 ρ) (c13:KJ511 ρ) (z:Int) (n:Int):Option ρ :=
 (bsel (isNum 400 (numF n))
 (bsel (decide ((↑(Go.Proofs.YtkjjmmgddehbhaaGreat.R.bitLen (unNum (numF n)).natAbs):Int) > 255))
 (ret (F.agg [F.int .u64 0,F.int .u64 0,F.int .u64 0,F.int .u64 0]) (false))
 (bsel (isWords (F.sl (digs 18446744073709551616 n.natAbs).length fun i ↦ u64F ((digs 18446744073709551616 n.natAbs).getD i 0))&&lenOk 1000 (F.sl (digs 18446744073709551616 n.natAbs).length fun i ↦ u64F ((digs 18446744073709551616 n.natAbs).getD i 0)))
 (bsel (decide (0<(digs 18446744073709551616 n.natAbs).length))
 (bsel (decide ((unWords (wordsF (digs 18446744073709551616 n.natAbs))).length=(unWords (wordsF (digs 18446744073709551616 n.natAbs))).length))
 (bsel (decide ((unWords (wordsF (digs 18446744073709551616 n.natAbs))).length=(unWords (wordsF (digs 18446744073709551616 n.natAbs))).length))
 (bsel (decide ((↑((unWords (wordsF (digs 18446744073709551616 n.natAbs))).length+4):Int)*(((8:Nat):Int)+1)≤(↑limit:Int)))
 (c7 (z) ((unWords (wordsF (digs 18446744073709551616 n.natAbs))).length+4) (fun j ↦ if j<(unWords (wordsF (digs 18446744073709551616 n.natAbs))).length then F.int .u64 (↑((unWords (wordsF (digs 18446744073709551616 n.natAbs))).getD j 0):Int) else F.int .u64 0))
 none)
 none)
 none)
 (bsel (decide (((4:Nat):Int)*(((8:Nat):Int)+1)≤(↑limit:Int)))
 (c7 (z) (4) (fun x ↦ F.int .u64 0))
 none))
 none))
 none)
def T74_7 {ρ:Type} (ret:(F)→(Bool)→Option ρ) (c4:KJ510 ρ) (c7:KJ59 ρ) (c9:KJ57 ρ) (c13:KJ511 ρ) (z:Int) (m:Nat) (g:Nat→F):Option ρ :=
 (bsel (decide (z<0))
 (bsel (decide (m=m))
 (c9 (m) (g) ((↑m:Int)) (0))
 none)
 (c13 (m) (g)))
def T74_9 {ρ:Type} (ret:(F)→(Bool)→Option ρ) (c4:KJ510 ρ) (c7:KJ59 ρ) (c9:KJ57 ρ) (c13:KJ511 ρ) (m:Nat) (g:Nat→F) (n:Int) (i:Int):Option ρ :=
 (bsel (decide (i<n))
 (bsel (decide (m=m))
 (bsel (decide (0≤i))
 (bsel (decide (i<(↑m:Int)))
 (bsel (decide (m=m))
 (bsel (decide (0+i.toNat<m))
 (bsel (decide ((g (0+i.toNat)).cells.length=1))
 (bsel (okV (Value.int IntKind.u64 0) ((List.drop 0 (g (0+i.toNat)).cells).headD F.dflt)&&true)
 (bsel (decide (m=m))
 (bsel (decide (0≤i))
 (bsel (decide (i<(↑m:Int)))
 (bsel (decide (m=m))
 (bsel (decide (0+i.toNat<m))
 (bsel (decide ((g (0+i.toNat)).cells.length=1))
 (bsel ((isAggF (g (0+i.toNat)) || true)&&true)
 (c9 (m) (fun j ↦ if j=0+i.toNat then F.int .u64 (bitsOp BinOp.xor IntKind.u64 (if IntKind.u64.signed=true then -1 else IntKind.u64.max) (intOf ((List.drop 0 (g (0+i.toNat)).cells).headD F.dflt))) else g j) (n) (IntKind.i64.wrap (i+1)))
 none)
 none)
 none)
 none)
 none)
 none)
 none)
 none)
 none)
 none)
 none)
 none)
 none)
 none)
 (c13 (m) (g)))
def T74_13 {ρ:Type} (ret:(F)→(Bool)→Option ρ) (c4:KJ510 ρ) (c7:KJ59 ρ) (c9:KJ57 ρ) (c13:KJ511 ρ) (m:Nat) (g:Nat→F):Option ρ :=
 (bsel (decide (m=m))
 (bsel (decide (3<(↑m:Int)))
 (bsel (decide (m=m))
 (bsel (decide (0+3<m))
 (bsel (decide ((g (0+3)).cells.length=1))
 (bsel (okV (Value.int IntKind.u64 0) ((List.drop 0 (g (0+Int.toNat 3)).cells).headD F.dflt)&&true)
 (bsel (decide (m=m))
 (bsel (decide (2<(↑m:Int)))
 (bsel (decide (m=m))
 (bsel (decide (0+2<m))
 (bsel (decide ((g (0+2)).cells.length=1))
 (bsel (okV (Value.int IntKind.u64 0) ((List.drop 0 (g (0+Int.toNat 2)).cells).headD F.dflt)&&true)
 (bsel (decide (m=m))
 (bsel (decide (1<(↑m:Int)))
 (bsel (decide (m=m))
 (bsel (decide (0+1<m))
 (bsel (decide ((g (0+1)).cells.length=1))
 (bsel (okV (Value.int IntKind.u64 0) ((List.drop 0 (g (0+Int.toNat 1)).cells).headD F.dflt)&&true)
 (bsel (decide (m=m))
 (bsel (decide (0<(↑m:Int)))
 (bsel (decide (m=m))
 (bsel (decide (0+0<m))
 (bsel (decide ((g (0+0)).cells.length=1))
 (bsel (okV (Value.int IntKind.u64 0) ((List.drop 0 (g (0+Int.toNat 0)).cells).headD F.dflt)&&true)
 (ret (F.agg [F.int .u64 (intOf ((List.drop 0 (g (0+Int.toNat 3)).cells).headD F.dflt)),F.int .u64 (intOf ((List.drop 0 (g (0+Int.toNat 2)).cells).headD F.dflt)),F.int .u64 (intOf ((List.drop 0 (g (0+Int.toNat 1)).cells).headD F.dflt)),F.int .u64 (intOf ((List.drop 0 (g (0+Int.toNat 0)).cells).headD F.dflt))]) (true))
 none)
 none)
 none)
 none)
 none)
 none)
 none)
 none)
 none)
 none)
 none)
 none)
 none)
 none)
 none)
 none)
 none)
 none)
 none)
 none)
 none)
 none)
 none)
 none)
mutual
def L74_4:Nat→(Int)→(Int)→Option ((F) × (Bool))
 | 0,_,_=>none
 | k+1,z,n=>T74_4 (fun w b=>some (w,b)) (L74_4 k) (L74_7 k) (L74_9 k) (L74_13 k) z n
 termination_by structural k=>k
def L74_7:Nat→(Int)→(Nat)→(Nat→F)→Option ((F) × (Bool))
 | 0,_,_,_=>none
 | k+1,z,m,g=>T74_7 (fun w b=>some (w,b)) (L74_4 k) (L74_7 k) (L74_9 k) (L74_13 k) z m g
 termination_by structural k=>k
def L74_9:Nat→(Nat)→(Nat→F)→(Int)→(Int)→Option ((F) × (Bool))
 | 0,_,_,_,_=>none
 | k+1,m,g,n,i=>T74_9 (fun w b=>some (w,b)) (L74_4 k) (L74_7 k) (L74_9 k) (L74_13 k) m g n i
 termination_by structural k=>k
def L74_13:Nat→(Nat)→(Nat→F)→Option ((F) × (Bool))
 | 0,_,_=>none
 | k+1,m,g=>T74_13 (fun w b=>some (w,b)) (L74_4 k) (L74_7 k) (L74_9 k) (L74_13 k) m g
 termination_by structural k=>k
end
def T74 {ρ:Type} (ret:(F)→(Bool)→Option ρ) (c4:KJ510 ρ) (c7:KJ59 ρ) (c9:KJ57 ρ) (c13:KJ511 ρ) (z:Int):Option ρ :=
 (bsel (decide (z<0))
 (bsel (isNum 400 (numF z)&&true)
 (c4 (z) (unNum (numF z)+unNum (resWhole [F.int .i64 1])))
 none)
 (c4 (z) (z)))
def G74 (k:Nat) (z:Int):Option ((F) × (Bool)):=T74 (fun w b=>some (w,b)) (L74_4 k) (L74_7 k) (L74_9 k) (L74_13 k) z
mutual
theorem t74_4:∀ (k:Nat) (z:Int) (n:Int) (w:F) (b:Bool),L74_4 k z n=some (w,b)→Ends Tryz.prog Tryz.f74.results.toList (at_ Tryz.f74 4) (S74_4 z n) (F.tup [w,F.bool b])
 | 0,_,_,_,_,h=>nomatch h
 | k+1,z,n,w,b,h=>by
  refine Ends.of_cut tyOK envN16_ok (T:=[(4,[1,2,4],1000),(7,[1,2,5],1000),(9,[2,5,24,25],1000),(13,[2,5],1000)]) (n:=200) ?_
  refine gE (Y:=T74_4 (fun w b=>some (.ret (F.tup [w,F.bool b]))) (fun z n=>some (.cut (at_ Tryz.f74 4) (S74_4 z n))) (fun z m g=>some (.cut (at_ Tryz.f74 7) (S74_7 z m g))) (fun m g n i=>some (.cut (at_ Tryz.f74 9) (S74_9 m g n i))) (fun m g=>some (.cut (at_ Tryz.f74 13) (S74_13 m g))) z n) (by kernel_rfl) ?_
  exact (gS h (fun _ h=>(gS h (fun _ h=>gR (by cases h;rfl)) (fun _ h=>(gS h (fun _ h=>(gS h (fun _ h=>(gS h (fun _ h=>(gS h (fun _ h=>(gS h (fun _ h=>gC (t74_7 k _ _ _ w b h)) gN)) gN)) gN)) (fun _ h=>(gS h (fun _ h=>gC (t74_7 k _ _ _ w b h)) gN)))) gN)))) gN)
theorem t74_7:∀ (k:Nat) (z:Int) (m:Nat) (g:Nat→F) (w:F) (b:Bool),L74_7 k z m g=some (w,b)→Ends Tryz.prog Tryz.f74.results.toList (at_ Tryz.f74 7) (S74_7 z m g) (F.tup [w,F.bool b])
 | 0,_,_,_,_,_,h=>nomatch h
 | k+1,z,m,g,w,b,h=>by
  refine Ends.of_cut tyOK envN16_ok (T:=[(4,[1,2,4],1000),(7,[1,2,5],1000),(9,[2,5,24,25],1000),(13,[2,5],1000)]) (n:=200) ?_
  refine gE (Y:=T74_7 (fun w b=>some (.ret (F.tup [w,F.bool b]))) (fun z n=>some (.cut (at_ Tryz.f74 4) (S74_4 z n))) (fun z m g=>some (.cut (at_ Tryz.f74 7) (S74_7 z m g))) (fun m g n i=>some (.cut (at_ Tryz.f74 9) (S74_9 m g n i))) (fun m g=>some (.cut (at_ Tryz.f74 13) (S74_13 m g))) z m g) (by kernel_rfl) ?_
  exact (gS h (fun _ h=>(gS h (fun _ h=>gC (t74_9 k _ _ _ _ w b h)) gN)) (fun _ h=>gC (t74_13 k _ _ w b h)))
theorem t74_9:∀ (k:Nat) (m:Nat) (g:Nat→F) (n:Int) (i:Int) (w:F) (b:Bool),L74_9 k m g n i=some (w,b)→Ends Tryz.prog Tryz.f74.results.toList (at_ Tryz.f74 9) (S74_9 m g n i) (F.tup [w,F.bool b])
 | 0,_,_,_,_,_,_,h=>nomatch h
 | k+1,m,g,n,i,w,b,h=>by
  refine Ends.of_cut tyOK envN16_ok (T:=[(4,[1,2,4],1000),(7,[1,2,5],1000),(9,[2,5,24,25],1000),(13,[2,5],1000)]) (n:=200) ?_
  refine gE (Y:=T74_9 (fun w b=>some (.ret (F.tup [w,F.bool b]))) (fun z n=>some (.cut (at_ Tryz.f74 4) (S74_4 z n))) (fun z m g=>some (.cut (at_ Tryz.f74 7) (S74_7 z m g))) (fun m g n i=>some (.cut (at_ Tryz.f74 9) (S74_9 m g n i))) (fun m g=>some (.cut (at_ Tryz.f74 13) (S74_13 m g))) m g n i) (by kernel_rfl) ?_
  exact (gS h (fun _ h=>(gS h (fun _ h=>(gS h (fun _ h=>(gS h (fun _ h=>(gS h (fun _ h=>(gS h (fun _ h=>(gS h (fun _ h=>(gS h (fun _ h=>(gS h (fun _ h=>(gS h (fun _ h=>(gS h (fun _ h=>(gS h (fun _ h=>(gS h (fun _ h=>(gS h (fun _ h=>(gS h (fun _ h=>gC (t74_9 k _ _ _ _ w b h)) gN)) gN)) gN)) gN)) gN)) gN)) gN)) gN)) gN)) gN)) gN)) gN)) gN)) gN)) (fun _ h=>gC (t74_13 k _ _ w b h)))
theorem t74_13:∀ (k:Nat) (m:Nat) (g:Nat→F) (w:F) (b:Bool),L74_13 k m g=some (w,b)→Ends Tryz.prog Tryz.f74.results.toList (at_ Tryz.f74 13) (S74_13 m g) (F.tup [w,F.bool b])
 | 0,_,_,_,_,h=>nomatch h
 | k+1,m,g,w,b,h=>by
  refine Ends.of_cut tyOK envN16_ok (T:=[(4,[1,2,4],1000),(7,[1,2,5],1000),(9,[2,5,24,25],1000),(13,[2,5],1000)]) (n:=200) ?_
  refine gE (Y:=T74_13 (fun w b=>some (.ret (F.tup [w,F.bool b]))) (fun z n=>some (.cut (at_ Tryz.f74 4) (S74_4 z n))) (fun z m g=>some (.cut (at_ Tryz.f74 7) (S74_7 z m g))) (fun m g n i=>some (.cut (at_ Tryz.f74 9) (S74_9 m g n i))) (fun m g=>some (.cut (at_ Tryz.f74 13) (S74_13 m g))) m g) (by kernel_rfl) ?_
  exact (gS h (fun _ h=>(gS h (fun _ h=>(gS h (fun _ h=>(gS h (fun _ h=>(gS h (fun _ h=>(gS h (fun _ h=>(gS h (fun _ h=>(gS h (fun _ h=>(gS h (fun _ h=>(gS h (fun _ h=>(gS h (fun _ h=>(gS h (fun _ h=>(gS h (fun _ h=>(gS h (fun _ h=>(gS h (fun _ h=>(gS h (fun _ h=>(gS h (fun _ h=>(gS h (fun _ h=>(gS h (fun _ h=>(gS h (fun _ h=>(gS h (fun _ h=>(gS h (fun _ h=>(gS h (fun _ h=>(gS h (fun _ h=>gR (by cases h;rfl)) gN)) gN)) gN)) gN)) gN)) gN)) gN)) gN)) gN)) gN)) gN)) gN)) gN)) gN)) gN)) gN)) gN)) gN)) gN)) gN)) gN)) gN)) gN)) gN)
end
theorem t74 (k:Nat) (z:Int) (w:F) (b:Bool) (h:G74 k z=some (w,b)):Ends Tryz.prog Tryz.f74.results.toList [.code (bodyOf Tryz.f74)] (start Tryz.f74.ntmps ([numF z].map .f)) (F.tup [w,F.bool b]):=by
 refine Ends.of_run tyOK envN16_ok (T:=[(4,[1,2,4],1000),(7,[1,2,5],1000),(9,[2,5,24,25],1000),(13,[2,5],1000)]) (n:=200) ?_
 refine gE (Y:=T74 (fun w b=>some (.ret (F.tup [w,F.bool b]))) (fun z n=>some (.cut (at_ Tryz.f74 4) (S74_4 z n))) (fun z m g=>some (.cut (at_ Tryz.f74 7) (S74_7 z m g))) (fun m g n i=>some (.cut (at_ Tryz.f74 9) (S74_9 m g n i))) (fun m g=>some (.cut (at_ Tryz.f74 13) (S74_13 m g))) z) (by kernel_rfl) ?_
 exact (gS h (fun _ h=>(gS h (fun _ h=>gC (t74_4 k _ _ w b h)) gN)) (fun _ h=>gC (t74_4 k _ _ w b h)))
def isWide (z:Int):Bool:=decide (-57896044618658097711785492504343953926634992332820282019728792003956564819968≤z)&&decide (z<57896044618658097711785492504343953926634992332820282019728792003956564819968)
theorem isWide_iff {z:Int}:isWide z=true ↔ -57896044618658097711785492504343953926634992332820282019728792003956564819968≤z∧z<57896044618658097711785492504343953926634992332820282019728792003956564819968:=by simp only [isWide,Bool.and_eq_true,decide_eq_true_eq]
def wd3 (z:Int):Int:=bif isWide z then z / 6277101735386680763835789423207666416102355444464034512896 % 18446744073709551616 else 0
def wd2 (z:Int):Int:=bif isWide z then z / 340282366920938463463374607431768211456 % 18446744073709551616 else 0
def wd1 (z:Int):Int:=bif isWide z then z / 18446744073709551616 % 18446744073709551616 else 0
def wd0 (z:Int):Int:=bif isWide z then z % 18446744073709551616 else 0
def wideF (z:Int):F:=.agg [.int .u64 (wd3 z),.int .u64 (wd2 z),.int .u64 (wd1 z),.int .u64 (wd0 z)]
theorem wide_none {z:Int} (h:isWide z=false):wideF z=.agg [.int .u64 0,.int .u64 0,.int .u64 0,.int .u64 0]:=by
 simp only [wideF,wd3,wd2,wd1,wd0,h,cond_false]
theorem not64 {v:Nat} (h:v<18446744073709551616):bitsOp .xor .u64 (if IntKind.u64.signed=true then -1 else IntKind.u64.max) (v:Int)=((18446744073709551616-1-v:Nat):Int):=by
 rw [show (if IntKind.u64.signed=true then (-1:Int) else IntKind.u64.max)=((18446744073709551615:Nat):Int) from rfl,bXor,ofInt_nat,ofInt_nat,wrapu]
 rw [show BitVec.ofNat 64 18446744073709551615=BitVec.allOnes 64 from rfl,BitVec.allOnes_xor,BitVec.toNat_not,BitVec.toNat_ofNat]
 omega
theorem wide_end {m k:Nat} {g:Nat→F} {v:Nat→Nat} (hm:4≤m) (hg:∀ j,j<m→g j=u64F (v j)) :
  L74_13 (k+1) m g=some (.agg [u64F (v 3),u64F (v 2),u64F (v 1),u64F (v 0)],true):=by
 rw [L74_13]
 unfold T74_13
 simp only [Int.toNat_zero,show Int.toNat 3=3 from rfl,show Int.toNat 2=2 from rfl,show Int.toNat 1=1 from rfl,Nat.zero_add,hg 0 (by omega),hg 1 (by omega),hg 2 (by omega),hg 3 (by omega),decide_true]
 rw [decide_eq_true (show (3:Int)<m by omega),decide_eq_true (show (2:Int)<m by omega),decide_eq_true (show (1:Int)<m by omega),decide_eq_true (show (0:Int)<m by omega),
  decide_eq_true (show 3<m by omega),decide_eq_true (show 2<m by omega),decide_eq_true (show 1<m by omega),decide_eq_true (show 0<m by omega),decide_eq_true (u64_cells _),decide_eq_true (u64_cells _),decide_eq_true (u64_cells _),decide_eq_true (u64_cells _)]
 rfl
theorem wide_loop {m:Nat} {v:Nat→Nat} (hv:∀ j,v j<18446744073709551616) (hm:4≤m) (hm2:m≤1000):∀ (d i k:Nat) (g:Nat→F),i+d=m→d+1<k→(∀ j,j<m→g j=u64F (if j<i then 18446744073709551616-1-v j else v j)) →
  L74_9 k m g m i=some (.agg [u64F (18446744073709551616-1-v 3),u64F (18446744073709551616-1-v 2),u64F (18446744073709551616-1-v 1),u64F (18446744073709551616-1-v 0)],true)
 | 0,i,k,g,hi,hk,hg=>by
  obtain ⟨k,rfl⟩:∃ j,k=j+2:=⟨k-2,by omega⟩
  rw [L74_9]
  unfold T74_9
  rw [decide_eq_false (show ¬ (i:Int)<m by omega),bsel_false]
  exact wide_end (v:=fun j=>18446744073709551616-1-v j) hm fun j hj=>by rw [hg j hj,if_pos (by omega)]
 | d+1,i,k,g,hi,hk,hg=>by
  obtain ⟨k,rfl⟩:∃ j,k=j+1:=⟨k-1,by omega⟩
  have e:g i=u64F (v i):=by rw [hg i (by omega),if_neg (by omega)]
  rw [L74_9]
  unfold T74_9
  rw [Int.toNat_natCast,Nat.zero_add,e,decide_eq_true (show (i:Int)<m by omega),decide_eq_true (show m=m from rfl),decide_eq_true (show (0:Int)≤i by omega),decide_eq_true (show i<m by omega),decide_eq_true (u64_cells _),isAgg_or,cell_of,okV_u64,intOf_u64,not64 (hv i),wrapI (by omega) (by omega)]
  simp only [bsel_true]
  rw [show (i:Int)+1=((i+1:Nat):Int) by omega]
  refine wide_loop hv hm hm2 d (i+1) k _ (by omega) (by omega) fun j hj=>?_
  by_cases hji:j=i
  ·subst hji
   rw [if_pos rfl,if_pos (by omega)]
   rfl
  ·rw [if_neg hji,hg j hj]
   by_cases hlt:j<i
   ·rw [if_pos hlt,if_pos (by omega)]
   ·rw [if_neg hlt,if_neg (by omega)]
theorem pad_get {l:List Nat} {j:Nat} (h:j<l.length+4):(if j<l.length then F.int .u64 ((l.getD j 0:Nat):Int) else F.int .u64 0)=u64F (l.getD j 0):=by
 by_cases hj:j<l.length
 ·rw [if_pos hj];rfl
 ·rw [if_neg hj,getD_beyond (by omega)];rfl
theorem wide_seven {z:Int} {m k:Nat} {g:Nat→F} {v:Nat→Nat} (hv:∀ j,v j<18446744073709551616) (hm:4≤m) (hm2:m≤1000) (hk:2000≤k) (hg:∀ j,j<m→g j=u64F (v j)) :
  L74_7 k z m g=some (if z<0 then .agg [u64F (18446744073709551616-1-v 3),u64F (18446744073709551616-1-v 2),u64F (18446744073709551616-1-v 1),u64F (18446744073709551616-1-v 0)] else .agg [u64F (v 3),u64F (v 2),u64F (v 1),u64F (v 0)],true):=by
 obtain ⟨k,rfl⟩:∃ j,k=j+2:=⟨k-2,by omega⟩
 rw [L74_7]
 unfold T74_7
 by_cases hz:z<0
 ·rw [decide_eq_true hz,if_pos hz,decide_eq_true (show m=m from rfl)]
  exact wide_loop hv hm hm2 m 0 (k+1) g (by omega) (by omega) fun j hj=>by rw [hg j hj,if_neg (by omega)]
 ·rw [decide_eq_false hz,if_neg hz]
  exact wide_end (k:=k) hm hg
theorem wide_four {z n:Int} {k:Nat} (hn:n.natAbs<18446744073709551616 ^ 400) (hk:2001≤k) :
  L74_4 k z n=some (if 255<bitLen n.natAbs then (.agg [.int .u64 0,.int .u64 0,.int .u64 0,.int .u64 0],false) else
   (if z<0 then .agg [u64F (18446744073709551616-1-(digs 18446744073709551616 n.natAbs).getD 3 0),u64F (18446744073709551616-1-(digs 18446744073709551616 n.natAbs).getD 2 0),u64F (18446744073709551616-1-(digs 18446744073709551616 n.natAbs).getD 1 0),u64F (18446744073709551616-1-(digs 18446744073709551616 n.natAbs).getD 0 0)] else .agg [u64F ((digs 18446744073709551616 n.natAbs).getD 3 0),u64F ((digs 18446744073709551616 n.natAbs).getD 2 0),u64F ((digs 18446744073709551616 n.natAbs).getD 1 0),u64F ((digs 18446744073709551616 n.natAbs).getD 0 0)],true)):=by
 obtain ⟨k,rfl⟩:∃ j,k=j+1:=⟨k-1,by omega⟩
 have hl:=digs_len hn
 have e1:∀ l:List Nat,(F.sl l.length fun i=>u64F (l.getD i 0))=wordsF l:=fun _=>rfl
 have hd:=fun j=>getD_lt' (show 0<18446744073709551616 by omega) (okD_digs (B:=18446744073709551616) (by omega) n.natAbs) j
 rw [L74_4]
 unfold T74_4
 simp only [isNum_numF hn,unNum_numF,bsel_true,e1,isWords_digs,lenOk_digs hn (show 400≤1000 by omega),Bool.and_self,unWords_digs,decide_true]
 clear hn
 by_cases hb:255<bitLen n.natAbs
 ·rw [if_pos hb,decide_eq_true (show ((bitLen n.natAbs:Nat):Int) > 255 by omega),bsel_true]
 ·rw [if_neg hb,decide_eq_false (show ¬ ((bitLen n.natAbs:Nat):Int) > 255 by omega),bsel_false]
  by_cases h0:0<(digs 18446744073709551616 n.natAbs).length
  ·rw [decide_eq_true h0]
   simp only [bsel_true]
   rw [decide_eq_true (limit_ok (show (digs 18446744073709551616 n.natAbs).length+4≤1000 by omega)),bsel_true]
   exact wide_seven hd (by omega) (by omega) (by omega) fun j hj=>pad_get hj
  ·have hnil:digs 18446744073709551616 n.natAbs=[]:=List.eq_nil_of_length_eq_zero (by omega)
   rw [decide_eq_false h0,bsel_false,decide_eq_true (limit_ok (show 4≤1000 by omega)),bsel_true,hnil]
   exact wide_seven (v:=fun j=>([]:List Nat).getD j 0) (fun j=>by simp) (by omega) (by omega) (by omega) fun j hj=>by rfl
theorem words_of {n:Nat}:(digs 18446744073709551616 n).getD 0 0=n % 18446744073709551616∧(digs 18446744073709551616 n).getD 1 0=n / 18446744073709551616 % 18446744073709551616∧(digs 18446744073709551616 n).getD 2 0=n / 340282366920938463463374607431768211456 % 18446744073709551616∧(digs 18446744073709551616 n).getD 3 0=n / 6277101735386680763835789423207666416102355444464034512896 % 18446744073709551616:=by
 have h:=fun p=>digit_at (B:=18446744073709551616) (by omega) (digs 18446744073709551616 n) p (okD_digs (by omega) n)
 rw [val_digsB] at h
 exact ⟨(h 0).trans (by simp),(h 1).trans (by simp),h 2,h 3⟩
theorem wide_law {z:Int} (hz:z.natAbs<18446744073709551616 ^ 399):G74 3000 z=some (wideF z,isWide z):=by
 have p:18446744073709551616 ^ 399≤18446744073709551616 ^ 400:=Nat.pow_le_pow_right (by omega) (by omega)
 have p1:18446744073709551616 ^ 399+18446744073709551616 ^ 399≤18446744073709551616 ^ 400:=by rw [Nat.pow_succ 18446744073709551616 399];generalize 18446744073709551616 ^ 399=t;omega
 have p2:1≤18446744073709551616 ^ 399:=Nat.pow_pos (by omega)
 have hz':=Nat.lt_of_lt_of_le hz p
 have hz1:(z+1).natAbs<18446744073709551616 ^ 400:=by
  have:(z+1).natAbs≤z.natAbs+1:=by omega
  generalize 18446744073709551616 ^ 399=t at *
  generalize 18446744073709551616 ^ 400=u at *
  omega
 have e255:(2:Nat) ^ 255=57896044618658097711785492504343953926634992332820282019728792003956564819968:=rfl
 unfold G74 T74
 simp only [isNum_numF hz',unNum_numF,resWhole,Bool.and_true,bsel_true]
 rw [wide_four hz1 (by omega),wide_four hz' (by omega)]
 have b1:=bitLen_le (n:=(z+1).natAbs) (j:=255)
 have b0:=bitLen_le (n:=z.natAbs) (j:=255)
 rw [e255] at b1 b0
 obtain ⟨x0,x1,x2,x3⟩:=words_of (n:=(z+1).natAbs)
 obtain ⟨y0,y1,y2,y3⟩:=words_of (n:=z.natAbs)
 clear hz hz' hz1 p p1 p2 e255
 by_cases hn:z<0
 ·rw [decide_eq_true hn,bsel_true]
  by_cases hw:255<bitLen (z+1).natAbs
  ·have hf:isWide z=false:=by
    cases h:isWide z with
    | false=>rfl
    | true=>have:=isWide_iff.1 h;exfalso;omega
   rw [if_pos hw,hf,wide_none hf]
  ·have ht:isWide z=true:=isWide_iff.2 (by omega)
   have e3:u64F (18446744073709551616-1-(z+1).natAbs / 6277101735386680763835789423207666416102355444464034512896 % 18446744073709551616)=.int .u64 (z / 6277101735386680763835789423207666416102355444464034512896 % 18446744073709551616):=congrArg (F.int .u64) (by omega)
   have e2:u64F (18446744073709551616-1-(z+1).natAbs / 340282366920938463463374607431768211456 % 18446744073709551616)=.int .u64 (z / 340282366920938463463374607431768211456 % 18446744073709551616):=congrArg (F.int .u64) (by omega)
   have e1:u64F (18446744073709551616-1-(z+1).natAbs / 18446744073709551616 % 18446744073709551616)=.int .u64 (z / 18446744073709551616 % 18446744073709551616):=congrArg (F.int .u64) (by omega)
   have e0:u64F (18446744073709551616-1-(z+1).natAbs % 18446744073709551616)=.int .u64 (z % 18446744073709551616):=congrArg (F.int .u64) (by omega)
   rw [if_neg hw,if_pos hn,ht,x0,x1,x2,x3,e0,e1,e2,e3]
   simp only [wideF,wd3,wd2,wd1,wd0,ht,cond_true]
 ·rw [decide_eq_false hn,bsel_false]
  by_cases hw:255<bitLen z.natAbs
  ·have hf:isWide z=false:=by
    cases h:isWide z with
    | false=>rfl
    | true=>have:=isWide_iff.1 h;exfalso;omega
   rw [if_pos hw,hf,wide_none hf]
  ·have ht:isWide z=true:=isWide_iff.2 (by omega)
   have e3:u64F (z.natAbs / 6277101735386680763835789423207666416102355444464034512896 % 18446744073709551616)=.int .u64 (z / 6277101735386680763835789423207666416102355444464034512896 % 18446744073709551616):=congrArg (F.int .u64) (by omega)
   have e2:u64F (z.natAbs / 340282366920938463463374607431768211456 % 18446744073709551616)=.int .u64 (z / 340282366920938463463374607431768211456 % 18446744073709551616):=congrArg (F.int .u64) (by omega)
   have e1:u64F (z.natAbs / 18446744073709551616 % 18446744073709551616)=.int .u64 (z / 18446744073709551616 % 18446744073709551616):=congrArg (F.int .u64) (by omega)
   have e0:u64F (z.natAbs % 18446744073709551616)=.int .u64 (z % 18446744073709551616):=congrArg (F.int .u64) (by omega)
   rw [if_neg hw,if_neg hn,ht,y0,y1,y2,y3,e0,e1,e2,e3]
   simp only [wideF,wd3,wd2,wd1,wd0,ht,cond_true]
def resWideN:List F→F | [x]=>.tup [wideF (unNum x),.bool (isWide (unNum x))] | _=>.dflt
theorem okWideN:PureOK Tryz.prog 74 (preN1 399) resWideN :=
 fn_pure_at (c:=bodyOf Tryz.f74) Tryz.func74 (by kernel_rfl) (by kernel_rfl) fun xs hp=>match xs,hp with
 | [x],hp=>⟨[numF (unNum x)],_,⟨(num_eqv hp).1,trivial⟩,t74 3000 _ _ _ (wide_law (natAbs_of_isNum hp)),.refl _⟩
def envN17:Env:=envN15.add 74 (.pure (preN1 399) resWideN)
theorem envN17_ok:EnvOK Tryz.prog envN17:=(Env.add_ok envN15_ok okWideN.sp)
end
noncomputable section
def Env.or (C D:Env):Env:=fun f=>match C f with
 | .none=>D f
 | s=>s
theorem Env.or_ok {P:Program} {C D:Env} (h:EnvOK P C) (k:EnvOK P D):EnvOK P (C.or D):=by
 intro f
 have h1:=h f
 have k1:=k f
 unfold Env.or
 cases hc:C f <;> rw [hc] at h1 <;> first | exact k1 | exact h1
def envN17a:Env:=envN17.or envW5
theorem envN17a_ok:EnvOK Tryz.prog envN17a:=Env.or_ok envN17_ok envW5_ok
end
noncomputable section
def l3pF (x y w:Int):F:=.agg [.bool (decide (x<0)),halvesF (digs 4294967296 x.natAbs),.bool (decide (y<0)),halvesF (digs 4294967296 y.natAbs),.bool (decide (w<0)),halvesF (digs 4294967296 w.natAbs)]
end
noncomputable section
theorem wrap32 {x:Int}:IntKind.u32.wrap x=x % 4294967296:=by
 unfold IntKind.wrap
 simp [IntKind.bits,IntKind.signed]
theorem dec_rfl (n:Nat):decide (n=n)=true:=decide_eq_true rfl
theorem val_noughts {B:Nat}:∀ l:List Nat,(∀ w ∈ l,w=0)→val B l=0
 | [],_=>rfl
 | x :: l,h=>by
  rw [val,val_noughts l fun w hw=>h w (by simp [hw]),h x (by simp)]
  simp
theorem take_digs {d:List Nat} {n:Nat} (od:okD 4294967296 d) (hn:n≤d.length) (hz:∀ j,n≤j→j<d.length→d.getD j 0=0) (hl:n=0 ∨ d.getD (n-1) 0 ≠ 0):digs 4294967296 (val 4294967296 d)=d.take n:=by
 have h1:val 4294967296 d=val 4294967296 (d.take n):=by
  conv=>lhs;rw [← List.take_append_drop n d]
  rw [val_append,val_noughts (d.drop n) fun w hw=>by
   obtain ⟨j,hj,rfl⟩:=List.getElem_of_mem hw
   rw [List.length_drop] at hj
   have:=hz (n+j) (by omega) (by omega)
   simpa [List.getD,List.getElem?_eq_getElem (show n+j<d.length by omega)] using this]
  omega
 rw [h1]
 refine digs_val (by omega) (fun w hw=>od w (List.mem_of_mem_take hw)) ?_
 rcases hl with hl | hl
 ·subst hl;simp [trimD]
 ·unfold trimD
  rw [List.getLast?_eq_getElem?,List.length_take,Nat.min_eq_left hn]
  rcases Nat.eq_zero_or_pos n with h0 | h0
  ·subst h0;simp
  ·rw [List.getElem?_take,if_pos (by omega),List.getElem?_eq_getElem (by omega)]
   simp only [List.getD,List.getElem?_eq_getElem (show n-1<d.length by omega),Option.getD_some] at hl
   intro e
   exact hl (Option.some.inj e)
/-! ### function 75 -/
def S75_2 (s:Bool) (d:List Nat) (n:Int):St:=⟨(U.f (F.bool s)) :: (U.f (halvesF d)) :: bads 2 ((U.hp 0 0) :: (U.f (F.int .i64 n)) :: bads 22 []),[HO.box [(U.f (F.bool false)),U.nils]]⟩
def T75_2 {ρ:Type} (ret:KJ55 ρ) (c2:(Bool)→(List Nat)→(Int)→Option ρ) (s:Bool) (d:List Nat) (n:Int):Option ρ :=
 (bsel (decide (n > 0)==true)
 (bsel (decide (0≤IntKind.i64.wrap (n-1)))
 (bsel (decide (IntKind.i64.wrap (n-1)<(↑d.length:Int)))
 (bsel ((↑(d.getD (IntKind.i64.wrap (n-1)).toNat 0):Int)==0)
 (c2 (s) (d) (IntKind.i64.wrap (n-1)))
 (bsel (n==0)
 (ret (F.agg [F.bool false,F.sl 0 fun x ↦ F.bool false]))
 (bsel (decide (0≤n))
 (bsel (decide (n≤(↑d.length:Int)))
 (ret (F.agg [F.bool s,F.sl (n.toNat-0) fun j ↦ F.int .u32 (↑(d.getD (Int.toNat 0+j) 0):Int)]))
 none)
 none)))
 none)
 none)
 (bsel (n==0)
 (ret (F.agg [F.bool false,F.sl 0 fun x ↦ F.bool false]))
 (bsel (decide (0≤n))
 (bsel (decide (n≤(↑d.length:Int)))
 (ret (F.agg [F.bool s,F.sl (n.toNat-0) fun j ↦ F.int .u32 (↑(d.getD (Int.toNat 0+j) 0):Int)]))
 none)
 none)))
def L75_2:Nat→(Bool)→(List Nat)→(Int)→Option (F)
 | 0,_,_,_=>none
 | k+1,s,d,n=>T75_2 some (L75_2 k) s d n
def T75 {ρ:Type} (ret:KJ55 ρ) (c2:(Bool)→(List Nat)→(Int)→Option ρ) (s:Bool) (d:List Nat):Option ρ :=
 (c2 (s) (d) ((↑d.length:Int)))
def G75 (k:Nat) (s:Bool) (d:List Nat):Option (F):=T75 some (L75_2 k) s d
theorem t75_2:∀ (k:Nat) (s:Bool) (d:List Nat) (n:Int) (r:F),L75_2 k s d n=some r→Ends Tryz.prog Tryz.f75.results.toList (at_ Tryz.f75 2) (S75_2 s d n) (r)
 | 0,_,_,_,_,h=>nomatch h
 | k+1,s,d,n,r,h=>by
  refine Ends.of_cut tyOK envW5_ok (T:=[(2,[0,1,4,5],1000)]) (n:=200) ?_
  refine gE (Y:=T75_2 (fun r=>some (.ret (r))) (fun s d n=>some (.cut (at_ Tryz.f75 2) (S75_2 s d n))) s d n) (by kernel_rfl) ?_
  exact (gS h (fun _ h=>(gS h (fun _ h=>(gS h (fun _ h=>(gS h (fun _ h=>gC (t75_2 k _ _ _ r h)) (fun _ h=>(gS h (fun _ h=>gR (by cases h;rfl)) (fun _ h=>(gS h (fun _ h=>(gS h (fun _ h=>gR (by cases h;rfl)) gN)) gN)))))) gN)) gN)) (fun _ h=>(gS h (fun _ h=>gR (by cases h;rfl)) (fun _ h=>(gS h (fun _ h=>(gS h (fun _ h=>gR (by cases h;rfl)) gN)) gN)))))
theorem t75 (k:Nat) (s:Bool) (d:List Nat) (r:F) (h:G75 k s d=some r):Ends Tryz.prog Tryz.f75.results.toList [.code (bodyOf Tryz.f75)] (start Tryz.f75.ntmps ([F.bool s,halvesF d].map .f)) (r):=by
 refine Ends.of_run tyOK envW5_ok (T:=[(2,[0,1,4,5],1000)]) (n:=200) ?_
 refine gE (Y:=T75 (fun r=>some (.ret (r))) (fun s d n=>some (.cut (at_ Tryz.f75 2) (S75_2 s d n))) s d) (by kernel_rfl) ?_
 exact gC (t75_2 k _ _ _ r h)
theorem trim3_end {s:Bool} {d:List Nat} {n:Nat} (od:okD 4294967296 d) (hn:n≤d.length) (hz:∀ j,n≤j→j<d.length→d.getD j 0=0) (hl:n=0 ∨ d.getD (n-1) 0 ≠ 0) :
  ∃ r,(bsel ((n:Int)==0) (some (F.agg [F.bool false,F.sl 0 fun x=>F.bool false])) (bsel (decide ((0:Int)≤n)) (bsel (decide ((n:Int)≤(d.length:Int))) (some (F.agg [F.bool s,F.sl ((n:Int).toNat-0) fun j=>F.int .u32 ((d.getD (Int.toNat 0+j) 0:Nat):Int)])) none) none))=some r∧FLe r (l1nF (sgn s (val 4294967296 d))):=by
 have hd:=take_digs od hn hz hl
 rcases Nat.eq_zero_or_pos n with h0 | h0
 ·subst h0
  have hv:val 4294967296 d=0:=by
   have:=congrArg (val 4294967296) hd
   rw [val_digsH] at this
   simpa [val] using this
  rw [show (((0:Nat):Int)==0)=true from rfl,bsel_true,hv,sgn_zero]
  refine ⟨_,rfl,?_⟩
  unfold l1nF
  rw [show digs 4294967296 (Int.natAbs 0)=[] from digs_zero _]
  exact FLe.agg ⟨.refl _,FLe.sl fun j hj=>by omega,trivial⟩
 ·have hv:val 4294967296 d ≠ 0:=by
   intro e
   rw [e,digs_zero] at hd
   have:=congrArg List.length hd
   simp at this
   omega
  rw [show ((n:Int)==0)=false by simp only [beq_eq_false_iff_ne,ne_eq];omega,bsel_false,decide_eq_true (show (0:Int)≤n by omega),decide_eq_true (show (n:Int)≤d.length by omega),bsel_true,bsel_true]
  refine ⟨_,rfl,?_⟩
  rw [l1nF_sgn,hd,decide_eq_true hv,Bool.and_true]
  refine FLe.agg ⟨.refl _,?_,trivial⟩
  have e:halvesF (d.take n)=F.sl n fun j=>u32F ((d.take n).getD j 0):=by
   unfold halvesF slF
   rw [List.length_take,Nat.min_eq_left hn]
  rw [e,Int.toNat_natCast,Nat.sub_zero]
  exact FLe.sl fun j hj=>by
   rw [show Int.toNat 0+j=j by omega]
   simp [List.getD,List.getElem?_take,hj,u32F]
theorem trim3_loop {s:Bool} {d:List Nat} (od:okD 4294967296 d) (hd:d.length≤100000):∀ (n k:Nat),n≤d.length→(∀ j,n≤j→j<d.length→d.getD j 0=0)→n<k→∃ r,L75_2 k s d n=some r∧FLe r (l1nF (sgn s (val 4294967296 d)))
 | _,0,_,_,hk=>by omega
 | 0,k+1,hn,hz,hk=>by
  rw [L75_2]
  unfold T75_2
  rw [show (decide (((0:Nat):Int) > 0)==true)=false from rfl,bsel_false]
  exact trim3_end od hn hz (.inl rfl)
 | n+1,k+1,hn,hz,hk=>by
  rw [L75_2]
  unfold T75_2
  have ei:IntKind.i64.wrap (((n+1:Nat):Int)-1)=(n:Int):=by rw [wrapI (by omega) (by omega)];omega
  rw [ei,decide_eq_true (show ((n+1:Nat):Int) > 0 by omega),show (true==true)=true from rfl,decide_eq_true (show (0:Int)≤n by omega),decide_eq_true (show (n:Int)<d.length by omega),Int.toNat_natCast (n:=n)]
  simp only [bsel_true]
  by_cases h0:d.getD n 0=0
  ·rw [h0,show (((0:Nat):Int)==0)=true from rfl,bsel_true]
   refine trim3_loop od hd n k (by omega) (fun j h1 h2=>?_) (by omega)
   rcases Nat.eq_or_lt_of_le h1 with rfl | h
   ·exact h0
   ·exact hz j h h2
  ·rw [show ((d.getD n 0:Int)==0)=false by simp only [beq_eq_false_iff_ne,ne_eq];omega,bsel_false]
   exact trim3_end od hn hz (.inr h0)
def preTrim3:List F→Bool | [.bool _,x]=>isHalves x&&lenOk 2000 x | _=>false
def resTrim3:List F→F | [.bool s,x]=>l1nF (sgn s (val 4294967296 (unHalves x))) | _=>.dflt
theorem okTrim3:PureOK Tryz.prog 75 preTrim3 resTrim3 :=
 fn_pure_at (c:=bodyOf Tryz.f75) Tryz.func75 (by kernel_rfl) (by kernel_rfl) fun xs hp=>match xs,hp with
 | [.bool s,x],hp=>by
  simp only [preTrim3,Bool.and_eq_true] at hp
  have hl:=lenOkH_iff hp.1 hp.2
  obtain ⟨r,e,hr⟩:=trim3_loop (s:=s) (okD_unHalves hp.1) (by omega) (unHalves x).length 3000 (Nat.le_refl _) (fun j h1 h2=>by omega) (by omega)
  exact ⟨[.bool s,halvesF (unHalves x)],_,⟨.refl _,(halves_eqv hp.1).1,trivial⟩,t75 3000 _ _ _ e,hr⟩
/-! ### function 77 -/
def S77_6 (a:List Nat) (b:List Nat) (i:Int):St:=⟨(U.f (halvesF a)) :: (U.f (halvesF b)) :: bads 3 ((U.f (F.int .i64 i)) :: bads 35 []),[]⟩
def T77_6 {ρ:Type} (ret:(Int)→Option ρ) (c6:(List Nat)→(List Nat)→(Int)→Option ρ) (a:List Nat) (b:List Nat) (i:Int):Option ρ :=
 (bsel (decide (i ≥ 0))
 (bsel (decide (0≤i))
 (bsel (decide (i<(↑a.length:Int)))
 (bsel (decide (0≤i))
 (bsel (decide (i<(↑b.length:Int)))
 (bsel (decide ((↑(a.getD i.toNat 0):Int)<(↑(b.getD i.toNat 0):Int)))
 (ret (-1))
 (bsel (decide (0≤i))
 (bsel (decide (i<(↑a.length:Int)))
 (bsel (decide (0≤i))
 (bsel (decide (i<(↑b.length:Int)))
 (bsel (decide ((↑(a.getD i.toNat 0):Int) > (↑(b.getD i.toNat 0):Int)))
 (ret (1))
 (c6 (a) (b) (IntKind.i64.wrap (i-1))))
 none)
 none)
 none)
 none))
 none)
 none)
 none)
 none)
 (ret (0)))
def L77_6:Nat→(List Nat)→(List Nat)→(Int)→Option (Int)
 | 0,_,_,_=>none
 | k+1,a,b,i=>T77_6 some (L77_6 k) a b i
def T77 {ρ:Type} (ret:(Int)→Option ρ) (c6:(List Nat)→(List Nat)→(Int)→Option ρ) (a:List Nat) (b:List Nat):Option ρ :=
 (bsel ((↑a.length:Int) != (↑b.length:Int))
 (bsel (decide ((↑a.length:Int)<(↑b.length:Int)))
 (ret (-1))
 (ret (1)))
 (c6 (a) (b) (IntKind.i64.wrap ((↑a.length:Int)-1))))
def G77 (k:Nat) (a:List Nat) (b:List Nat):Option (Int):=T77 some (L77_6 k) a b
theorem t77_6:∀ (k:Nat) (a:List Nat) (b:List Nat) (i:Int) (r:Int),L77_6 k a b i=some r→Ends Tryz.prog Tryz.f77.results.toList (at_ Tryz.f77 6) (S77_6 a b i) (F.int .i64 r)
 | 0,_,_,_,_,h=>nomatch h
 | k+1,a,b,i,r,h=>by
  refine Ends.of_cut tyOK envW5_ok (T:=[(6,[0,1,5],1000)]) (n:=200) ?_
  refine gE (Y:=T77_6 (fun r=>some (.ret (F.int .i64 r))) (fun a b i=>some (.cut (at_ Tryz.f77 6) (S77_6 a b i))) a b i) (by kernel_rfl) ?_
  exact (gS h (fun _ h=>(gS h (fun _ h=>(gS h (fun _ h=>(gS h (fun _ h=>(gS h (fun _ h=>(gS h (fun _ h=>gR (by cases h;rfl)) (fun _ h=>(gS h (fun _ h=>(gS h (fun _ h=>(gS h (fun _ h=>(gS h (fun _ h=>(gS h (fun _ h=>gR (by cases h;rfl)) (fun _ h=>gC (t77_6 k _ _ _ r h)))) gN)) gN)) gN)) gN)))) gN)) gN)) gN)) gN)) (fun _ h=>gR (by cases h;rfl)))
theorem t77 (k:Nat) (a:List Nat) (b:List Nat) (r:Int) (h:G77 k a b=some r):Ends Tryz.prog Tryz.f77.results.toList [.code (bodyOf Tryz.f77)] (start Tryz.f77.ntmps ([halvesF a,halvesF b].map .f)) (F.int .i64 r):=by
 refine Ends.of_run tyOK envW5_ok (T:=[(6,[0,1,5],1000)]) (n:=200) ?_
 refine gE (Y:=T77 (fun r=>some (.ret (F.int .i64 r))) (fun a b i=>some (.cut (at_ Tryz.f77 6) (S77_6 a b i))) a b) (by kernel_rfl) ?_
 exact (gS h (fun _ h=>(gS h (fun _ h=>gR (by cases h;rfl)) (fun _ h=>gR (by cases h;rfl)))) (fun _ h=>gC (t77_6 k _ _ _ r h)))
theorem cmp3_loop {a b:List Nat} (oa:okD 4294967296 a) (ob:okD 4294967296 b) (hl:a.length=b.length) (hn:a.length≤100000) :
  ∀ (n k:Nat) (i:Int),i=(n:Int)-1→n≤a.length→(∀ j,n≤j→j<a.length→a.getD j 0=b.getD j 0)→n<k→L77_6 k a b i=some ((val 4294967296 a:Int)-val 4294967296 b).sign
 | _,0,_,_,_,_,hk=>by omega
 | 0,k+1,i,hi,_,he,_=>by
  subst hi
  have hab:a=b:=List.ext_getElem hl fun j h1 h2=>by
   have:=he j (Nat.zero_le _) h1
   simpa [List.getD,List.getElem?_eq_getElem h1,List.getElem?_eq_getElem h2] using this
  subst hab
  rw [L77_6]
  unfold T77_6
  rw [decide_eq_false (by omega),bsel_false,Int.sub_self]
  rfl
 | n+1,k+1,i,hi,hna,he,hk=>by
  obtain rfl:i=(n:Int):=by omega
  rw [L77_6]
  unfold T77_6
  rw [decide_eq_true (show (n:Int) ≥ 0 by omega),decide_eq_true (show (n:Int)<a.length by omega),decide_eq_true (show (n:Int)<b.length by omega),Int.toNat_natCast]
  simp only [bsel_true]
  by_cases hlt:a.getD n 0<b.getD n 0
  ·have hv:=val_cmp (by omega) n a b oa ob hl (by omega) (fun j h1 h2=>he j h1 h2) hlt
   rw [decide_eq_true (show (a.getD n 0:Int)<b.getD n 0 by omega),bsel_true,Int.sign_eq_neg_one_of_neg (by omega)]
  ·rw [decide_eq_false (show ¬ (a.getD n 0:Int)<b.getD n 0 by omega),bsel_false]
   by_cases hgt:b.getD n 0<a.getD n 0
   ·have hv:=val_cmp (B:=4294967296) (by omega) n b a ob oa hl.symm (by omega) (fun j h1 h2=>(he j h1 (by omega)).symm) hgt
    rw [decide_eq_true (show (a.getD n 0:Int) > b.getD n 0 by omega),bsel_true,Int.sign_eq_one_of_pos (by omega)]
   ·rw [decide_eq_false (show ¬ (a.getD n 0:Int) > b.getD n 0 by omega),bsel_false]
    refine cmp3_loop oa ob hl hn n k _ (by rw [wrapI (by omega) (by omega)]) (by omega) (fun j h1 h2=>?_) (by omega)
    rcases Nat.eq_or_lt_of_le h1 with rfl | h
    ·omega
    ·exact he j h h2
theorem cmp3_law {m n:Nat} (hm:m<4294967296 ^ 800) (hn:n<4294967296 ^ 800):G77 1000 (digs 4294967296 m) (digs 4294967296 n)=some ((m:Int)-n).sign:=by
 have lm:=digsH_len hm
 have ln:=digsH_len hn
 have em:=val_digsH m
 have en:=val_digsH n
 clear hm hn
 unfold G77 T77
 by_cases hl:(digs 4294967296 m).length=(digs 4294967296 n).length
 ·rw [show (((digs 4294967296 m).length:Int) != ((digs 4294967296 n).length:Int))=false by simp [hl],bsel_false]
  have:=cmp3_loop (okD_digs (B:=4294967296) (by omega) m) (okD_digs (B:=4294967296) (by omega) n) hl (by omega) (digs 4294967296 m).length 1000 _ rfl (Nat.le_refl _) (fun j h1 h2=>by omega) (by omega)
  rw [em,en] at this
  rw [wrapI (by omega) (by omega)]
  exact this
 ·rw [show (((digs 4294967296 m).length:Int) != ((digs 4294967296 n).length:Int))=true by simp only [bne_iff_ne,ne_eq];omega,bsel_true]
  rcases Nat.lt_or_gt_of_ne hl with h | h
  ·have hv:=val_longer (B:=4294967296) (by omega) (okD_digs (by omega) m) (trimD_digs (by omega) n) h
   rw [em,en] at hv
   rw [decide_eq_true (show ((digs 4294967296 m).length:Int)<(digs 4294967296 n).length by omega),bsel_true,Int.sign_eq_neg_one_of_neg (by omega)]
  ·have hv:=val_longer (B:=4294967296) (by omega) (okD_digs (by omega) n) (trimD_digs (by omega) m) h
   rw [em,en] at hv
   rw [decide_eq_false (show ¬ ((digs 4294967296 m).length:Int)<(digs 4294967296 n).length by omega),bsel_false,Int.sign_eq_one_of_pos (by omega)]
def isTrimH (n:Nat) (x:F):Bool:=isHalves x&&lenOk n x&&trimOk (unHalves x)
theorem isTrimH_iff {n:Nat} {x:F} (h:isTrimH n x=true):isHalves x=true∧val 4294967296 (unHalves x)<4294967296 ^ n∧digs 4294967296 (val 4294967296 (unHalves x))=unHalves x:=by
 simp only [isTrimH,Bool.and_eq_true] at h
 obtain ⟨⟨h1,h2⟩,h3⟩:=h
 refine ⟨h1,?_,digs_halves h1 (trimOk_iff.1 h3)⟩
 exact Nat.lt_of_lt_of_le (val_lt _ (okD_unHalves h1)) (Nat.pow_le_pow_right (by omega) (lenOkH_iff h1 h2))
theorem isTrimH_digs {m n:Nat} (h:m<4294967296 ^ n):isTrimH n (halvesF (digs 4294967296 m))=true:=by
 simp only [isTrimH,Bool.and_eq_true]
 exact ⟨⟨isHalves_digs m,lenOkH_digs h (Nat.le_refl _)⟩,by rw [unHalves_digs];exact trimOk_iff.2 (trimD_digs (by omega) m)⟩
def preCmp3:List F→Bool | [x,y]=>isTrimH 800 x&&isTrimH 800 y | _=>false
def resCmp3:List F→F | [x,y]=>.int .i64 ((val 4294967296 (unHalves x):Int)-val 4294967296 (unHalves y)).sign | _=>.dflt
theorem okCmp3:PureOK Tryz.prog 77 preCmp3 resCmp3 :=
 fn_pure_at (c:=bodyOf Tryz.f77) Tryz.func77 (by kernel_rfl) (by kernel_rfl) fun xs hp=>match xs,hp with
 | [x,y],hp=>by
  simp only [preCmp3,Bool.and_eq_true] at hp
  obtain ⟨x1,x2,x3⟩:=isTrimH_iff hp.1
  obtain ⟨y1,y2,y3⟩:=isTrimH_iff hp.2
  have e:=cmp3_law x2 y2
  rw [x3,y3] at e
  exact ⟨[halvesF (unHalves x),halvesF (unHalves y)],_,⟨(halves_eqv x1).1,(halves_eqv y1).1,trivial⟩,t77 1000 _ _ _ e,.refl _⟩
/-! ### function 76 -/
def S76_6 (a:List Nat) (b:List Nat) (m:Nat) (g:Nat→F) (c:Int) (i:Int):St:=⟨(U.f (halvesF a)) :: (U.f (halvesF b)) :: bads 3 ((U.hs 0 m 0 m) :: (U.f (F.int .u64 c)) :: (U.f (F.int .i64 i)) :: bads 50 []),[HO.arr 1 m g]⟩
def T76_6 {ρ:Type} (ret:KJ55 ρ) (c6:KJ51 ρ) (a:List Nat) (b:List Nat) (m:Nat) (g:Nat→F) (c:Int) (i:Int):Option ρ :=
 (bsel (decide (i<(↑a.length:Int)))
 (bsel (decide (0≤i))
 (bsel (decide (i<(↑a.length:Int)))
 (bsel (decide (i<(↑b.length:Int)))
 (bsel (decide (0≤i))
 (bsel (decide (i<(↑b.length:Int)))
 (bsel (decide (m=m))
 (bsel (decide (m=m))
 (bsel (decide ((↑(m+1):Int)*(((4:Nat):Int)+1)≤(↑limit:Int)))
 (c6 (a) (b) (m+1) (fun j ↦ if j<m then g j else F.int .u32 (IntKind.u32.wrap (IntKind.u64.wrap (IntKind.u64.wrap (c+IntKind.u64.wrap (↑(a.getD i.toNat 0):Int))+IntKind.u64.wrap (↑(b.getD i.toNat 0):Int))))) ((IntKind.u64.wrap (IntKind.u64.wrap (c+IntKind.u64.wrap (↑(a.getD i.toNat 0):Int))+IntKind.u64.wrap (↑(b.getD i.toNat 0):Int))).fdiv (2 ^ min (Int.toNat 32) IntKind.u64.bits)) (IntKind.i64.wrap (i+1)))
 none)
 none)
 none)
 none)
 none)
 (bsel (decide (m=m))
 (bsel (decide (m=m))
 (bsel (decide ((↑(m+1):Int)*(((4:Nat):Int)+1)≤(↑limit:Int)))
 (c6 (a) (b) (m+1) (fun j ↦ if j<m then g j else F.int .u32 (IntKind.u32.wrap (IntKind.u64.wrap (c+IntKind.u64.wrap (↑(a.getD i.toNat 0):Int))))) ((IntKind.u64.wrap (c+IntKind.u64.wrap (↑(a.getD i.toNat 0):Int))).fdiv (2 ^ min (Int.toNat 32) IntKind.u64.bits)) (IntKind.i64.wrap (i+1)))
 none)
 none)
 none))
 none)
 none)
 (bsel (decide (c > 0))
 (bsel (decide (m=m))
 (bsel (decide (m=m))
 (bsel (decide ((↑(m+1):Int)*(((4:Nat):Int)+1)≤(↑limit:Int)))
 (bsel (decide (m+1=m+1))
 (ret (F.sl (m+1) fun j ↦ if j<m then g j else F.int .u32 (IntKind.u32.wrap c)))
 none)
 none)
 none)
 none)
 (bsel (decide (m=m))
 (ret (F.sl m g))
 none)))
def L76_6:Nat→(List Nat)→(List Nat)→(Nat)→(Nat→F)→(Int)→(Int)→Option (F)
 | 0,_,_,_,_,_,_=>none
 | k+1,a,b,m,g,c,i=>T76_6 some (L76_6 k) a b m g c i
def T76 {ρ:Type} (ret:KJ55 ρ) (c6:KJ51 ρ) (a:List Nat) (b:List Nat):Option ρ :=
 (bsel (decide ((↑a.length:Int)<(↑b.length:Int)))
 (bsel (decide (0≤IntKind.i64.wrap ((↑b.length:Int)+1)))
 (bsel (decide (IntKind.i64.wrap ((↑b.length:Int)+1)*(((4:Nat):Int)+1)≤(↑limit:Int)))
 (c6 (b) (a) (0) (fun x ↦ F.int .u32 0) (0) (0))
 none)
 none)
 (bsel (decide (0≤IntKind.i64.wrap ((↑a.length:Int)+1)))
 (bsel (decide (IntKind.i64.wrap ((↑a.length:Int)+1)*(((4:Nat):Int)+1)≤(↑limit:Int)))
 (c6 (a) (b) (0) (fun x ↦ F.int .u32 0) (0) (0))
 none)
 none))
def G76 (k:Nat) (a:List Nat) (b:List Nat):Option (F):=T76 some (L76_6 k) a b
theorem t76_6:∀ (k:Nat) (a:List Nat) (b:List Nat) (m:Nat) (g:Nat→F) (c:Int) (i:Int) (r:F),L76_6 k a b m g c i=some r→Ends Tryz.prog Tryz.f76.results.toList (at_ Tryz.f76 6) (S76_6 a b m g c i) (r)
 | 0,_,_,_,_,_,_,_,h=>nomatch h
 | k+1,a,b,m,g,c,i,r,h=>by
  refine Ends.of_cut tyOK envW5_ok (T:=[(6,[0,1,5,6,7],1000)]) (n:=200) ?_
  refine gE (Y:=T76_6 (fun r=>some (.ret (r))) (fun a b m g c i=>some (.cut (at_ Tryz.f76 6) (S76_6 a b m g c i))) a b m g c i) (by kernel_rfl) ?_
  exact (gS h (fun _ h=>(gS h (fun _ h=>(gS h (fun _ h=>(gS h (fun _ h=>(gS h (fun _ h=>(gS h (fun _ h=>(gS h (fun _ h=>(gS h (fun _ h=>(gS h (fun _ h=>gC (t76_6 k _ _ _ _ _ _ r h)) gN)) gN)) gN)) gN)) gN)) (fun _ h=>(gS h (fun _ h=>(gS h (fun _ h=>(gS h (fun _ h=>gC (t76_6 k _ _ _ _ _ _ r h)) gN)) gN)) gN)))) gN)) gN)) (fun _ h=>(gS h (fun _ h=>(gS h (fun _ h=>(gS h (fun _ h=>(gS h (fun _ h=>(gS h (fun _ h=>gR (by cases h;rfl)) gN)) gN)) gN)) gN)) (fun _ h=>(gS h (fun _ h=>gR (by cases h;rfl)) gN)))))
theorem t76 (k:Nat) (a:List Nat) (b:List Nat) (r:F) (h:G76 k a b=some r):Ends Tryz.prog Tryz.f76.results.toList [.code (bodyOf Tryz.f76)] (start Tryz.f76.ntmps ([halvesF a,halvesF b].map .f)) (r):=by
 refine Ends.of_run tyOK envW5_ok (T:=[(6,[0,1,5,6,7],1000)]) (n:=200) ?_
 refine gE (Y:=T76 (fun r=>some (.ret (r))) (fun a b m g c i=>some (.cut (at_ Tryz.f76 6) (S76_6 a b m g c i))) a b) (by kernel_rfl) ?_
 exact (gS h (fun _ h=>(gS h (fun _ h=>(gS h (fun _ h=>gC (t76_6 k _ _ _ _ _ _ r h)) gN)) gN)) (fun _ h=>(gS h (fun _ h=>(gS h (fun _ h=>gC (t76_6 k _ _ _ _ _ _ r h)) gN)) gN)))
theorem limit_ok4 {n:Nat} (h:n≤3000):(n:Int)*(((4:Nat):Int)+1)≤((limit:Nat):Int):=by
 rw [limit_eq]
 omega
theorem add3_loop {a b:List Nat} (oa:okD 4294967296 a) (ob:okD 4294967296 b) (hn:a.length≤2000):∀ (rest:List Nat) (i c k m:Nat) (o:List Nat) (g:Nat→F),a.drop i=rest→o.length=i→i+rest.length=a.length→c≤1 →
  Lists u32F 0 m g o→rest.length<k→∃ rn rg,L76_6 k a b m g c i=some (F.sl rn rg)∧Lists u32F 0 rn rg (o++addR 4294967296 rest (b.drop i) c)
 | _,_,_,0,_,_,_,_,_,_,_,_,h=>by omega
 | [],i,c,k+1,m,o,g,hr,ho,hi,hc,hg,_=>by
  simp only [List.length_nil,Nat.add_zero] at hi
  subst hi
  obtain ⟨rfl,hg'⟩:=hg
  rw [L76_6]
  unfold T76_6
  rw [decide_eq_false (show ¬ (a.length:Int)<a.length by omega),bsel_false]
  by_cases h0:c=0
  ·subst h0
   rw [decide_eq_false (show ¬ ((0:Nat):Int) > 0 by omega),bsel_false,dec_rfl,bsel_true]
   exact ⟨_,_,rfl,by simp only [addR,if_true,List.append_nil];exact ⟨rfl,hg'⟩⟩
  ·rw [decide_eq_true (show (c:Int) > 0 by omega),bsel_true,dec_rfl,bsel_true,bsel_true,decide_eq_true (limit_ok4 (show o.length+1≤3000 by omega)),bsel_true,dec_rfl,bsel_true]
   refine ⟨_,_,rfl,?_⟩
   simp only [addR,if_neg h0]
   have:=Lists.push (enc:=u32F) (d:=0) ⟨rfl,hg'⟩ c
   have e:IntKind.u32.wrap (c:Int)=(c:Int):=by rw [wrap32];omega
   rw [e]
   exact this
 | x :: rest,i,c,k+1,m,o,g,hr,ho,hi,hc,hg,hk=>by
  obtain ⟨hx,hr',hia⟩:=drop_cons hr
  have hxb:=getD_lt oa hia
  have hyb:=getD_lt' (by omega) ob i
  have hm:m=o.length:=hg.1
  obtain ⟨rn,rg,e1,e2⟩:=add3_loop oa ob hn rest (i+1) ((x+b.getD i 0+c) / 4294967296) k (m+1) (o++[(x+b.getD i 0+c) % 4294967296]) _ hr' (by simp [ho]) (by simp only [List.length_cons] at hi;omega) (by omega) (hg.push _) (by simp at hk;omega)
  have ei:IntKind.i64.wrap ((i:Int)+1)=((i+1:Nat):Int):=by rw [wrapI (by omega) (by omega)];omega
  have w0:IntKind.u64.wrap ((a.getD i 0:Nat):Int)=(a.getD i 0:Nat):=wrapu_lt (by omega)
  have w1:IntKind.u64.wrap ((b.getD i 0:Nat):Int)=(b.getD i 0:Nat):=wrapu_lt (by omega)
  have w2:IntKind.u64.wrap ((c:Int)+(a.getD i 0:Nat))=((c+a.getD i 0:Nat):Int):=by rw [wrapN];omega
  have w3:IntKind.u64.wrap (((c+a.getD i 0:Nat):Int)+(b.getD i 0:Nat))=((c+a.getD i 0+b.getD i 0:Nat):Int):=by rw [wrapN];omega
  have w4:∀ t:Nat,F.int .u32 (IntKind.u32.wrap (t:Int))=u32F (t % 4294967296):=fun t=>congrArg (F.int .u32) (by rw [wrap32];omega)
  have goal:L76_6 k a b (m+1) (fun j=>if j<m then g j else F.int .u32 (IntKind.u32.wrap ((c+a.getD i 0+b.getD i 0:Nat):Int))) (((c+a.getD i 0+b.getD i 0:Nat):Int).fdiv (2 ^ min (Int.toNat 32) IntKind.u64.bits)) ((i+1:Nat):Int)=some (F.sl rn rg):=by
   rw [w4,shr32,hx,show c+x+b.getD i 0=x+b.getD i 0+c by omega]
   exact e1
  have fin:Lists u32F 0 rn rg (o++addR 4294967296 (x :: rest) (b.drop i) c):=by
   simp only [addR,headD_drop,tail_drop]
   rw [List.append_cons]
   exact e2
  refine ⟨rn,rg,?_,fin⟩
  rw [L76_6]
  unfold T76_6
  rw [Int.toNat_natCast,w0,w1,w2,w3,ei,decide_eq_true (show (i:Int)<a.length by omega),decide_eq_true (show (0:Int)≤i by omega),decide_eq_true (limit_ok4 (show m+1≤3000 by omega))]
  simp only [bsel_true,decide_true]
  rcases Nat.lt_or_ge i b.length with hib | hib
  ·rw [decide_eq_true (show (i:Int)<b.length by omega)]
   exact goal
  ·rw [decide_eq_false (show ¬ (i:Int)<b.length by omega)]
   rw [getD_beyond hib,Nat.add_zero] at goal
   exact goal
theorem add3_law {a b:List Nat} (oa:okD 4294967296 a) (ob:okD 4294967296 b) (ha:a.length≤1900) (hb:b.length≤1900):∃ rn rg,G76 3000 a b=some (F.sl rn rg)∧Lists u32F 0 rn rg (sumL a b):=by
 have e:∀ l:List Nat,l.length≤1900→IntKind.i64.wrap ((l.length:Int)+1)=((l.length+1:Nat):Int):=fun l hl=>by rw [wrapI (by omega) (by omega)];omega
 unfold G76 T76 sumL
 rw [e a ha,e b hb,decide_eq_true (limit_ok4 (show a.length+1≤3000 by omega)),decide_eq_true (limit_ok4 (show b.length+1≤3000 by omega))]
 rw [decide_eq_true (show (0:Int)≤((a.length+1:Nat):Int) by omega),decide_eq_true (show (0:Int)≤((b.length+1:Nat):Int) by omega)]
 simp only [bsel_true]
 by_cases h:a.length<b.length
 ·rw [decide_eq_true (show (a.length:Int)<b.length by omega),bsel_true,if_pos h]
  exact add3_loop ob oa (by omega) b 0 0 3000 0 [] _ rfl rfl (by simp) (by omega) Lists.nil (by omega)
 ·rw [decide_eq_false (show ¬ (a.length:Int)<b.length by omega),bsel_false,if_neg h]
  exact add3_loop oa ob (by omega) a 0 0 3000 0 [] _ rfl rfl (by simp) (by omega) Lists.nil (by omega)
def preAdd3:List F→Bool | [x,y]=>isHalves x&&lenOk 1900 x&&(isHalves y&&lenOk 1900 y) | _=>false
def resAdd3:List F→F | [x,y]=>halvesF (sumL (unHalves x) (unHalves y)) | _=>.dflt
def resSub3:List F→F | [x,y]=>halvesF (subL 4294967296 (unHalves x) (unHalves y) 0) | _=>.dflt
theorem okAdd3:PureOK Tryz.prog 76 preAdd3 resAdd3 :=
 fn_pure_at (c:=bodyOf Tryz.f76) Tryz.func76 (by kernel_rfl) (by kernel_rfl) fun xs hp=>match xs,hp with
 | [x,y],hp=>by
  simp only [preAdd3,Bool.and_eq_true] at hp
  obtain ⟨⟨hx,hxl⟩,hy,hyl⟩:=hp
  obtain ⟨rn,rg,e,h⟩:=add3_law (okD_unHalves hx) (okD_unHalves hy) (lenOkH_iff hx hxl) (lenOkH_iff hy hyl)
  exact ⟨[halvesF (unHalves x),halvesF (unHalves y)],_,⟨(halves_eqv hx).1,(halves_eqv hy).1,trivial⟩,t76 3000 _ _ _ e,h.le⟩
/-! ### function 78 -/
def S78_4 (a:List Nat) (b:List Nat) (m:Nat) (g:Nat→F) (c:Int) (i:Int):St:=⟨(U.f (halvesF a)) :: (U.f (halvesF b)) :: bads 3 ((U.hs 0 m 0 m) :: (U.f (F.int .u64 c)) :: (U.f (F.int .i64 i)) :: bads 41 []),[HO.arr 1 m g]⟩
def T78_4 {ρ:Type} (ret:KJ55 ρ) (c4:KJ51 ρ) (a:List Nat) (b:List Nat) (m:Nat) (g:Nat→F) (c:Int) (i:Int):Option ρ :=
 (bsel (decide (i<(↑a.length:Int)))
 (bsel (decide (0≤i))
 (bsel (decide (i<(↑a.length:Int)))
 (bsel (decide (i<(↑b.length:Int)))
 (bsel (decide (0≤i))
 (bsel (decide (i<(↑b.length:Int)))
 (bsel (decide (IntKind.u64.wrap (↑(a.getD i.toNat 0):Int)<IntKind.u64.wrap (c+IntKind.u64.wrap (↑(b.getD i.toNat 0):Int))))
 (bsel (decide (m=m))
 (bsel (decide (m=m))
 (bsel (decide ((↑(m+1):Int)*(((4:Nat):Int)+1)≤(↑limit:Int)))
 (c4 (a) (b) (m+1) (fun j ↦ if j<m then g j else F.int .u32 (IntKind.u32.wrap (IntKind.u64.wrap (IntKind.u64.wrap (IntKind.u64.wrap (↑(a.getD i.toNat 0):Int)+4294967296)-IntKind.u64.wrap (c+IntKind.u64.wrap (↑(b.getD i.toNat 0):Int)))))) (1) (IntKind.i64.wrap (i+1)))
 none)
 none)
 none)
 (bsel (decide (m=m))
 (bsel (decide (m=m))
 (bsel (decide ((↑(m+1):Int)*(((4:Nat):Int)+1)≤(↑limit:Int)))
 (c4 (a) (b) (m+1) (fun j ↦ if j<m then g j else F.int .u32 (IntKind.u32.wrap (IntKind.u64.wrap (IntKind.u64.wrap (↑(a.getD i.toNat 0):Int)-IntKind.u64.wrap (c+IntKind.u64.wrap (↑(b.getD i.toNat 0):Int)))))) (0) (IntKind.i64.wrap (i+1)))
 none)
 none)
 none))
 none)
 none)
 (bsel (decide (IntKind.u64.wrap (↑(a.getD i.toNat 0):Int)<c))
 (bsel (decide (m=m))
 (bsel (decide (m=m))
 (bsel (decide ((↑(m+1):Int)*(((4:Nat):Int)+1)≤(↑limit:Int)))
 (c4 (a) (b) (m+1) (fun j ↦ if j<m then g j else F.int .u32 (IntKind.u32.wrap (IntKind.u64.wrap (IntKind.u64.wrap (IntKind.u64.wrap (↑(a.getD i.toNat 0):Int)+4294967296)-c)))) (1) (IntKind.i64.wrap (i+1)))
 none)
 none)
 none)
 (bsel (decide (m=m))
 (bsel (decide (m=m))
 (bsel (decide ((↑(m+1):Int)*(((4:Nat):Int)+1)≤(↑limit:Int)))
 (c4 (a) (b) (m+1) (fun j ↦ if j<m then g j else F.int .u32 (IntKind.u32.wrap (IntKind.u64.wrap (IntKind.u64.wrap (↑(a.getD i.toNat 0):Int)-c)))) (0) (IntKind.i64.wrap (i+1)))
 none)
 none)
 none)))
 none)
 none)
 (bsel (decide (m=m))
 (ret (F.sl m g))
 none))
def L78_4:Nat→(List Nat)→(List Nat)→(Nat)→(Nat→F)→(Int)→(Int)→Option (F)
 | 0,_,_,_,_,_,_=>none
 | k+1,a,b,m,g,c,i=>T78_4 some (L78_4 k) a b m g c i
def T78 {ρ:Type} (ret:KJ55 ρ) (c4:KJ51 ρ) (a:List Nat) (b:List Nat):Option ρ :=
 (bsel (decide ((↑a.length:Int)*(((4:Nat):Int)+1)≤(↑limit:Int)))
 (c4 (a) (b) (0) (fun x ↦ F.int .u32 0) (0) (0))
 none)
def G78 (k:Nat) (a:List Nat) (b:List Nat):Option (F):=T78 some (L78_4 k) a b
theorem t78_4:∀ (k:Nat) (a:List Nat) (b:List Nat) (m:Nat) (g:Nat→F) (c:Int) (i:Int) (r:F),L78_4 k a b m g c i=some r→Ends Tryz.prog Tryz.f78.results.toList (at_ Tryz.f78 4) (S78_4 a b m g c i) (r)
 | 0,_,_,_,_,_,_,_,h=>nomatch h
 | k+1,a,b,m,g,c,i,r,h=>by
  refine Ends.of_cut tyOK envW5_ok (T:=[(4,[0,1,5,6,7],1000)]) (n:=200) ?_
  refine gE (Y:=T78_4 (fun r=>some (.ret (r))) (fun a b m g c i=>some (.cut (at_ Tryz.f78 4) (S78_4 a b m g c i))) a b m g c i) (by kernel_rfl) ?_
  exact (gS h (fun _ h=>(gS h (fun _ h=>(gS h (fun _ h=>(gS h (fun _ h=>(gS h (fun _ h=>(gS h (fun _ h=>(gS h (fun _ h=>(gS h (fun _ h=>(gS h (fun _ h=>(gS h (fun _ h=>gC (t78_4 k _ _ _ _ _ _ r h)) gN)) gN)) gN)) (fun _ h=>(gS h (fun _ h=>(gS h (fun _ h=>(gS h (fun _ h=>gC (t78_4 k _ _ _ _ _ _ r h)) gN)) gN)) gN)))) gN)) gN)) (fun _ h=>(gS h (fun _ h=>(gS h (fun _ h=>(gS h (fun _ h=>(gS h (fun _ h=>gC (t78_4 k _ _ _ _ _ _ r h)) gN)) gN)) gN)) (fun _ h=>(gS h (fun _ h=>(gS h (fun _ h=>(gS h (fun _ h=>gC (t78_4 k _ _ _ _ _ _ r h)) gN)) gN)) gN)))))) gN)) gN)) (fun _ h=>(gS h (fun _ h=>gR (by cases h;rfl)) gN)))
theorem t78 (k:Nat) (a:List Nat) (b:List Nat) (r:F) (h:G78 k a b=some r):Ends Tryz.prog Tryz.f78.results.toList [.code (bodyOf Tryz.f78)] (start Tryz.f78.ntmps ([halvesF a,halvesF b].map .f)) (r):=by
 refine Ends.of_run tyOK envW5_ok (T:=[(4,[0,1,5,6,7],1000)]) (n:=200) ?_
 refine gE (Y:=T78 (fun r=>some (.ret (r))) (fun a b m g c i=>some (.cut (at_ Tryz.f78 4) (S78_4 a b m g c i))) a b) (by kernel_rfl) ?_
 exact (gS h (fun _ h=>gC (t78_4 k _ _ _ _ _ _ r h)) gN)
theorem sub3_loop {a b:List Nat} (oa:okD 4294967296 a) (ob:okD 4294967296 b) (hn:a.length≤2000):∀ (rest:List Nat) (i c k m:Nat) (o:List Nat) (g:Nat→F),a.drop i=rest→o.length=i→i+rest.length=a.length→c≤1 →
  Lists u32F 0 m g o→rest.length<k→∃ rn rg,L78_4 k a b m g c i=some (F.sl rn rg)∧Lists u32F 0 rn rg (o++subL 4294967296 rest (b.drop i) c)
 | _,_,_,0,_,_,_,_,_,_,_,_,h=>by omega
 | [],i,c,k+1,m,o,g,hr,ho,hi,hc,hg,_=>by
  simp only [List.length_nil,Nat.add_zero] at hi
  subst hi
  rw [L78_4]
  unfold T78_4
  rw [decide_eq_false (show ¬ (a.length:Int)<a.length by omega),bsel_false,dec_rfl,bsel_true]
  exact ⟨_,_,rfl,by simp only [subL,List.append_nil];exact hg⟩
 | x :: rest,i,c,k+1,m,o,g,hr,ho,hi,hc,hg,hk=>by
  obtain ⟨hx,hr',hia⟩:=drop_cons hr
  have hxb:=getD_lt oa hia
  have hyb:=getD_lt' (by omega) ob i
  have hm:m=o.length:=hg.1
  obtain ⟨rn,rg,e1,e2⟩:=sub3_loop oa ob hn rest (i+1) (if x<b.getD i 0+c then 1 else 0) k (m+1) (o++[(x+4294967296-b.getD i 0-c) % 4294967296]) _ hr' (by simp [ho]) (by simp only [List.length_cons] at hi;omega) (by split <;> omega) (hg.push _) (by simp at hk;omega)
  have ei:IntKind.i64.wrap ((i:Int)+1)=((i+1:Nat):Int):=by rw [wrapI (by omega) (by omega)];omega
  have w0:IntKind.u64.wrap ((a.getD i 0:Nat):Int)=(a.getD i 0:Nat):=wrapu_lt (by omega)
  have w1:IntKind.u64.wrap ((b.getD i 0:Nat):Int)=(b.getD i 0:Nat):=wrapu_lt (by omega)
  have w2:IntKind.u64.wrap ((c:Int)+(b.getD i 0:Nat))=((c+b.getD i 0:Nat):Int):=by rw [wrapN];omega
  have w3:IntKind.u64.wrap ((a.getD i 0:Nat)+4294967296)=((a.getD i 0+4294967296:Nat):Int):=by rw [wrapN];omega
  have fin:Lists u32F 0 rn rg (o++subL 4294967296 (x :: rest) (b.drop i) c):=by
   simp only [subL,headD_drop,tail_drop]
   rw [List.append_cons]
   exact e2
  have val32:∀ y:Nat,y=b.getD i 0→∀ (t:Int),((x<y+c∧t=((x+4294967296:Nat):Int)-((c+y:Nat):Int)) ∨ (¬ x<y+c∧t=(x:Int)-((c+y:Nat):Int)))→F.int .u32 (IntKind.u32.wrap (IntKind.u64.wrap t))=u32F ((x+4294967296-b.getD i 0-c) % 4294967296):=by
   intro y hy t ht
   subst hy
   refine congrArg (F.int .u32) ?_
   rw [wrap32,wrapN]
   rcases ht with ⟨h1,rfl⟩ | ⟨h1,rfl⟩ <;> omega
  refine ⟨rn,rg,?_,fin⟩
  rw [L78_4]
  unfold T78_4
  rw [Int.toNat_natCast,w0,w1,w2,w3,ei,decide_eq_true (show (i:Int)<a.length by omega),decide_eq_true (show (0:Int)≤i by omega),decide_eq_true (limit_ok4 (show m+1≤3000 by omega)),hx]
  simp only [bsel_true,decide_true]
  rcases Nat.lt_or_ge i b.length with hib | hib
  ·rw [decide_eq_true (show (i:Int)<b.length by omega),bsel_true]
   by_cases hlt:x<b.getD i 0+c
   ·rw [decide_eq_true (show (x:Int)<((c+b.getD i 0:Nat):Int) by omega),bsel_true,val32 _ rfl _ (.inl ⟨hlt,rfl⟩)]
    rw [if_pos hlt] at e1
    exact e1
   ·rw [decide_eq_false (show ¬ (x:Int)<((c+b.getD i 0:Nat):Int) by omega),bsel_false,val32 _ rfl _ (.inr ⟨hlt,rfl⟩)]
    rw [if_neg hlt] at e1
    exact e1
  ·rw [decide_eq_false (show ¬ (i:Int)<b.length by omega),bsel_false]
   have hb0:=getD_beyond hib
   by_cases hlt:x<b.getD i 0+c
   ·have:=val32 0 hb0.symm (((x+4294967296:Nat):Int)-(c:Int)) (.inl ⟨by rw [← hb0];exact hlt,by omega⟩)
    rw [decide_eq_true (show (x:Int)<(c:Int) by rw [hb0] at hlt;omega),bsel_true,this]
    rw [if_pos hlt] at e1
    exact e1
   ·have:=val32 0 hb0.symm ((x:Int)-(c:Int)) (.inr ⟨by rw [← hb0];exact hlt,by omega⟩)
    rw [decide_eq_false (show ¬ (x:Int)<(c:Int) by rw [hb0] at hlt;omega),bsel_false,this]
    rw [if_neg hlt] at e1
    exact e1
theorem sub3_law {a b:List Nat} (oa:okD 4294967296 a) (ob:okD 4294967296 b) (ha:a.length≤1900):∃ rn rg,G78 3000 a b=some (F.sl rn rg)∧Lists u32F 0 rn rg (subL 4294967296 a b 0):=by
 unfold G78 T78
 rw [decide_eq_true (limit_ok4 (show a.length≤3000 by omega)),bsel_true]
 exact sub3_loop oa ob (by omega) a 0 0 3000 0 [] _ rfl rfl (by simp) (by omega) Lists.nil (by omega)
theorem okSub3:PureOK Tryz.prog 78 preAdd3 resSub3 :=
 fn_pure_at (c:=bodyOf Tryz.f78) Tryz.func78 (by kernel_rfl) (by kernel_rfl) fun xs hp=>match xs,hp with
 | [x,y],hp=>by
  simp only [preAdd3,Bool.and_eq_true] at hp
  obtain ⟨⟨hx,hxl⟩,hy,hyl⟩:=hp
  obtain ⟨rn,rg,e,h⟩:=sub3_law (okD_unHalves hx) (okD_unHalves hy) (lenOkH_iff hx hxl)
  exact ⟨[halvesF (unHalves x),halvesF (unHalves y)],_,⟨(halves_eqv hx).1,(halves_eqv hy).1,trivial⟩,t78 3000 _ _ _ e,h.le⟩
def envS2:Env:=(((envW5.add 75 (.pure preTrim3 resTrim3)).add 77 (.pure preCmp3 resCmp3)).add 76 (.pure preAdd3 resAdd3)).add 78 (.pure preAdd3 resSub3)
theorem envS2_ok:EnvOK Tryz.prog envS2:=(Env.add_ok (Env.add_ok (Env.add_ok (Env.add_ok envW5_ok okTrim3.sp) okCmp3.sp) okAdd3.sp) okSub3.sp)
end
noncomputable section
/-! ### function 79 -/
def T79 {ρ:Type} (ret:KJ55 ρ) (z:Int):Option ρ :=
 (bsel ((↑(digs 4294967296 z.natAbs).length:Int)==0)
 (ret (l1nF z))
 (ret (F.agg [F.bool !decide (z<0),halvesF (digs 4294967296 z.natAbs)])))
def G79 (z:Int):Option (F):=T79 some z
theorem t79 (z:Int) (r:F) (h:G79 z=some r):Ends Tryz.prog Tryz.f79.results.toList [.code (bodyOf Tryz.f79)] (start Tryz.f79.ntmps ([l1nF z].map .f)) (r):=by
 refine Ends.of_run tyOK envS2_ok (T:=[]) (n:=200) ?_
 refine gE (Y:=T79 (fun r=>some (.ret (r))) z) (by kernel_rfl) ?_
 exact (gS h (fun _ h=>gR (by cases h;rfl)) (fun _ h=>gR (by cases h;rfl)))
theorem neg3_law (z:Int):G79 z=some (l1nF (-z)):=by
 unfold G79 T79
 by_cases h0:z=0
 ·subst h0
  rw [show digs 4294967296 (Int.natAbs 0)=[] from digs_zero _]
  rfl
 ·have:=digsH_len_pos (n:=z.natAbs).2 (by omega)
  rw [show (((digs 4294967296 z.natAbs).length:Int)==0)=false by simp only [beq_eq_false_iff_ne,ne_eq];omega,bsel_false]
  unfold l1nF
  rw [Int.natAbs_neg]
  by_cases hz:z<0
  ·rw [decide_eq_true hz,decide_eq_false (show ¬ -z<0 by omega)];rfl
  ·rw [decide_eq_false hz,decide_eq_true (show -z<0 by omega)];rfl
def resNeg3:List F→F | [x]=>l1nF (-(unL1n x)) | _=>.dflt
theorem okNeg3:PureOK Tryz.prog 79 (preL1 800) resNeg3 :=
 fn_pure_at (c:=bodyOf Tryz.f79) Tryz.func79 (by kernel_rfl) (by kernel_rfl) fun xs hp=>match xs,hp with
 | [x],hp=>⟨[l1nF (unL1n x)],_,⟨(l1n_eqv hp).1,trivial⟩,t79 _ _ (neg3_law _),.refl _⟩
/-! ### function 56 -/
def T56 {ρ:Type} (ret:KJ55 ρ) (n:Int):Option ρ :=
 (bsel (decide (n<0))
 (bsel (isHalves (F.sl 2 (lget [F.int .u32 (IntKind.u32.wrap (IntKind.u64.wrap (0-IntKind.u64.wrap n))),F.int .u32 (IntKind.u32.wrap ((IntKind.u64.wrap (0-IntKind.u64.wrap n)).fdiv (2 ^ min (Int.toNat 32) IntKind.u64.bits)))]))&&true)
 (ret (l1nF (sgn (decide (n<0)) (val 4294967296 (unHalves (F.sl 2 (lget [F.int .u32 (IntKind.u32.wrap (IntKind.u64.wrap (0-IntKind.u64.wrap n))),F.int .u32 (IntKind.u32.wrap ((IntKind.u64.wrap (0-IntKind.u64.wrap n)).fdiv (2 ^ min (Int.toNat 32) IntKind.u64.bits)))])))))))
 none)
 (bsel (isHalves (F.sl 2 (lget [F.int .u32 (IntKind.u32.wrap (IntKind.u64.wrap n)),F.int .u32 (IntKind.u32.wrap ((IntKind.u64.wrap n).fdiv (2 ^ min (Int.toNat 32) IntKind.u64.bits)))]))&&true)
 (ret (l1nF (sgn (decide (n<0)) (val 4294967296 (unHalves (F.sl 2 (lget [F.int .u32 (IntKind.u32.wrap (IntKind.u64.wrap n)),F.int .u32 (IntKind.u32.wrap ((IntKind.u64.wrap n).fdiv (2 ^ min (Int.toNat 32) IntKind.u64.bits)))])))))))
 none))
def G56 (n:Int):Option (F):=T56 some n
theorem t56 (n:Int) (r:F) (h:G56 n=some r):Ends Tryz.prog Tryz.f56.results.toList [.code (bodyOf Tryz.f56)] (start Tryz.f56.ntmps ([F.int .i64 n].map .f)) (r):=by
 refine Ends.of_run tyOK envS2_ok (T:=[]) (n:=200) ?_
 refine gE (Y:=T56 (fun r=>some (.ret (r))) n) (by kernel_rfl) ?_
 exact (gS h (fun _ h=>(gS h (fun _ h=>gR (by cases h;rfl)) gN)) (fun _ h=>(gS h (fun _ h=>gR (by cases h;rfl)) gN)))
theorem two_halves {u:Nat} (hu:u<18446744073709551616):isHalves (F.sl 2 (lget [F.int .u32 (IntKind.u32.wrap (u:Int)),F.int .u32 (IntKind.u32.wrap ((u:Int).fdiv (2 ^ min (Int.toNat 32) IntKind.u64.bits)))]))=true ∧
  val 4294967296 (unHalves (F.sl 2 (lget [F.int .u32 (IntKind.u32.wrap (u:Int)),F.int .u32 (IntKind.u32.wrap ((u:Int).fdiv (2 ^ min (Int.toNat 32) IntKind.u64.bits)))])))=u:=by
 have e1:F.int .u32 (IntKind.u32.wrap (u:Int))=u32F (u % 4294967296):=congrArg (F.int .u32) (by rw [wrap32];omega)
 have e2:F.int .u32 (IntKind.u32.wrap ((u:Int).fdiv (2 ^ min (Int.toNat 32) IntKind.u64.bits)))=u32F (u / 4294967296):=congrArg (F.int .u32) (by rw [shr32,wrap32];omega)
 rw [e1,e2]
 have hg:∀ j,j<2→lget [u32F (u % 4294967296),u32F (u / 4294967296)] j=u32F (([u % 4294967296,u / 4294967296]:List Nat).getD j 0):=fun j hj=>by
  match j,hj with
  | 0,_=>rfl
  | 1,_=>rfl
 have ho:okD 4294967296 [u % 4294967296,u / 4294967296]:=by intro w hw;simp at hw;omega
 refine ⟨isHalves_read (l:=[u % 4294967296,u / 4294967296]) rfl hg ho,?_⟩
 rw [unHalves_read (m:=2) (l:=[u % 4294967296,u / 4294967296]) rfl hg]
 simp only [val]
 omega
theorem int3_law {n:Int} (h:-9223372036854775808≤n∧n≤9223372036854775807):G56 n=some (l1nF n):=by
 unfold G56 T56
 by_cases hn:n<0
 ·have e:IntKind.u64.wrap (0-IntKind.u64.wrap n)=(n.natAbs:Int):=by simp only [wrapN];omega
  obtain ⟨h1,h2⟩:=two_halves (u:=n.natAbs) (by omega)
  rw [e,h1,h2,decide_eq_true hn]
  have:sgn true n.natAbs=n:=by simp only [sgn,if_true];omega
  rw [this]
  rfl
 ·have e:IntKind.u64.wrap n=(n.natAbs:Int):=by simp only [wrapN];omega
  obtain ⟨h1,h2⟩:=two_halves (u:=n.natAbs) (by omega)
  rw [e,h1,h2,decide_eq_false hn]
  have:sgn false n.natAbs=n:=by simp only [sgn,Bool.false_eq_true,if_false];omega
  rw [this]
  rfl
def resInt3:List F→F | [.int .i64 n]=>l1nF n | _=>.dflt
theorem okInt3:PureOK Tryz.prog 56 preI64 resInt3 :=
 fn_pure (c:=bodyOf Tryz.f56) Tryz.func56 (by kernel_rfl) (by kernel_rfl) fun xs hp=>match xs,hp with
 | [.int .i64 n],hp=>t56 n _ (int3_law (isI64_iff.1 hp))
/-! ### function 57 -/
def T57 {ρ:Type} (ret:KJ55 ρ) (x:Int) (y:Int):Option ρ :=
 (bsel (decide (x<0)==decide (y<0))
 (bsel (isHalves (halvesF (digs 4294967296 x.natAbs))&&lenOk 1900 (halvesF (digs 4294967296 x.natAbs))&&(isHalves (halvesF (digs 4294967296 y.natAbs))&&lenOk 1900 (halvesF (digs 4294967296 y.natAbs))))
 (bsel (isHalves (resAdd3 [halvesF (digs 4294967296 x.natAbs),halvesF (digs 4294967296 y.natAbs)])&&lenOk 2000 (resAdd3 [halvesF (digs 4294967296 x.natAbs),halvesF (digs 4294967296 y.natAbs)]))
 (ret (l1nF (sgn (decide (x<0)) (val 4294967296 (unHalves (resAdd3 [halvesF (digs 4294967296 x.natAbs),halvesF (digs 4294967296 y.natAbs)]))))))
 none)
 none)
 (bsel (isTrimH 800 (halvesF (digs 4294967296 x.natAbs))&&isTrimH 800 (halvesF (digs 4294967296 y.natAbs)))
 (bsel (decide (((↑(val 4294967296 (unHalves (halvesF (digs 4294967296 x.natAbs)))):Int)-(↑(val 4294967296 (unHalves (halvesF (digs 4294967296 y.natAbs)))):Int)).sign ≥ 0))
 (bsel (isHalves (halvesF (digs 4294967296 x.natAbs))&&lenOk 1900 (halvesF (digs 4294967296 x.natAbs))&&(isHalves (halvesF (digs 4294967296 y.natAbs))&&lenOk 1900 (halvesF (digs 4294967296 y.natAbs))))
 (bsel (isHalves (resSub3 [halvesF (digs 4294967296 x.natAbs),halvesF (digs 4294967296 y.natAbs)])&&lenOk 2000 (resSub3 [halvesF (digs 4294967296 x.natAbs),halvesF (digs 4294967296 y.natAbs)]))
 (ret (l1nF (sgn (decide (x<0)) (val 4294967296 (unHalves (resSub3 [halvesF (digs 4294967296 x.natAbs),halvesF (digs 4294967296 y.natAbs)]))))))
 none)
 none)
 (bsel (isHalves (halvesF (digs 4294967296 y.natAbs))&&lenOk 1900 (halvesF (digs 4294967296 y.natAbs))&&(isHalves (halvesF (digs 4294967296 x.natAbs))&&lenOk 1900 (halvesF (digs 4294967296 x.natAbs))))
 (bsel (isHalves (resSub3 [halvesF (digs 4294967296 y.natAbs),halvesF (digs 4294967296 x.natAbs)])&&lenOk 2000 (resSub3 [halvesF (digs 4294967296 y.natAbs),halvesF (digs 4294967296 x.natAbs)]))
 (ret (l1nF (sgn (decide (y<0)) (val 4294967296 (unHalves (resSub3 [halvesF (digs 4294967296 y.natAbs),halvesF (digs 4294967296 x.natAbs)]))))))
 none)
 none))
 none))
def G57 (x:Int) (y:Int):Option (F):=T57 some x y
theorem t57 (x:Int) (y:Int) (r:F) (h:G57 x y=some r):Ends Tryz.prog Tryz.f57.results.toList [.code (bodyOf Tryz.f57)] (start Tryz.f57.ntmps ([l1nF x,l1nF y].map .f)) (r):=by
 refine Ends.of_run tyOK envS2_ok (T:=[]) (n:=200) ?_
 refine gE (Y:=T57 (fun r=>some (.ret (r))) x y) (by kernel_rfl) ?_
 exact (gS h (fun _ h=>(gS h (fun _ h=>(gS h (fun _ h=>gR (by cases h;rfl)) gN)) gN)) (fun _ h=>(gS h (fun _ h=>(gS h (fun _ h=>(gS h (fun _ h=>(gS h (fun _ h=>gR (by cases h;rfl)) gN)) gN)) (fun _ h=>(gS h (fun _ h=>(gS h (fun _ h=>gR (by cases h;rfl)) gN)) gN)))) gN)))
theorem add3Z {x y:Int} (hx:x.natAbs<4294967296 ^ 800) (hy:y.natAbs<4294967296 ^ 800):G57 x y=some (l1nF (x+y)):=by
 have lx:=digsH_len hx
 have ly:=digsH_len hy
 have ox:=okD_digs (B:=4294967296) (by omega) x.natAbs
 have oy:=okD_digs (B:=4294967296) (by omega) y.natAbs
 have tx:=isTrimH_digs hx
 have ty:=isTrimH_digs hy
 have bx:lenOk 1900 (halvesF (digs 4294967296 x.natAbs))=true:=lenOkH_digs hx (by omega)
 have bY:lenOk 1900 (halvesF (digs 4294967296 y.natAbs))=true:=lenOkH_digs hy (by omega)
 clear hx hy
 have ble:∀ l:List Nat,l.length≤2000→lenOk 2000 (halvesF l)=true:=fun l hl=>by rw [lenOk_halvesF,Nat.ble_eq];exact hl
 have s1:=isHalves_halvesF (okD_sumL ox oy)
 have s2:=ble _ (show (sumL (digs 4294967296 x.natAbs) (digs 4294967296 y.natAbs)).length≤2000 by have:=len_sumL (digs 4294967296 x.natAbs) (digs 4294967296 y.natAbs);omega)
 have d1:=isHalves_halvesF (okD_subL (B:=4294967296) (by omega) (digs 4294967296 x.natAbs) (digs 4294967296 y.natAbs) 0)
 have d2:=ble _ (show (subL 4294967296 (digs 4294967296 x.natAbs) (digs 4294967296 y.natAbs) 0).length≤2000 by rw [len_subL];omega)
 have e1:=isHalves_halvesF (okD_subL (B:=4294967296) (by omega) (digs 4294967296 y.natAbs) (digs 4294967296 x.natAbs) 0)
 have e2:=ble _ (show (subL 4294967296 (digs 4294967296 y.natAbs) (digs 4294967296 x.natAbs) 0).length≤2000 by rw [len_subL];omega)
 have long:∀ m n:Nat,n≤m→(digs 4294967296 n).length≤(digs 4294967296 m).length:=fun m n h=>by
  rcases Nat.lt_or_ge (digs 4294967296 m).length (digs 4294967296 n).length with h1 | h1
  ·have:=val_longer (B:=4294967296) (by omega) (okD_digs (by omega) m) (trimD_digs (by omega) n) h1
   rw [val_digsH,val_digsH] at this
   omega
  ·exact h1
 have subv:∀ m n:Nat,n≤m→val 4294967296 (subL 4294967296 (digs 4294967296 m) (digs 4294967296 n) 0)=m-n:=fun m n h=>by
  have:=val_subL (B:=4294967296) (by omega) (digs 4294967296 m) (digs 4294967296 n) 0 (okD_digs (by omega) m) (okD_digs (by omega) n) (by omega) (long m n h) (by rw [val_digsH,val_digsH];omega)
  rw [val_digsH,val_digsH] at this
  omega
 unfold G57 T57
 simp only [isHalves_digs,bx,bY,tx,ty,resAdd3,resSub3,unHalves_digs,unHalves_halvesF,val_digsH,val_sumL,s1,s2,d1,d2,e1,e2,Bool.and_self,bsel_true]
 by_cases hs:(decide (x<0)==decide (y<0))=true
 ·rw [hs,bsel_true]
  have:sgn (decide (x<0)) (x.natAbs+y.natAbs)=x+y:=by
   rw [beq_iff_eq,decide_eq_decide] at hs
   by_cases hx:x<0
   ·rw [decide_eq_true hx];simp only [sgn,if_true];omega
   ·rw [decide_eq_false hx];simp only [sgn,Bool.false_eq_true,if_false];omega
  rw [this]
 ·have hs':(decide (x<0)==decide (y<0))=false:=by simpa using hs
  rw [hs',bsel_false]
  have hxy:¬ (x<0 ↔ y<0):=by rw [← decide_eq_decide,← beq_iff_eq];exact hs
  by_cases hc:y.natAbs≤x.natAbs
  ·rw [decide_eq_true (show ((x.natAbs:Int)-y.natAbs).sign ≥ 0 from Int.sign_nonneg_iff.2 (by omega)),bsel_true,subv _ _ hc]
   have:sgn (decide (x<0)) (x.natAbs-y.natAbs)=x+y:=by
    by_cases hx:x<0
    ·rw [decide_eq_true hx];simp only [sgn,if_true];omega
    ·rw [decide_eq_false hx];simp only [sgn,Bool.false_eq_true,if_false];omega
   rw [this]
  ·rw [decide_eq_false (show ¬ ((x.natAbs:Int)-y.natAbs).sign ≥ 0 from fun h=>by have:=Int.sign_nonneg_iff.1 h;omega),bsel_false,subv _ _ (by omega)]
   have:sgn (decide (y<0)) (y.natAbs-x.natAbs)=x+y:=by
    by_cases hy:y<0
    ·rw [decide_eq_true hy];simp only [sgn,if_true];omega
    ·rw [decide_eq_false hy];simp only [sgn,Bool.false_eq_true,if_false];omega
   rw [this]
def resAddZ:List F→F | [x,y]=>l1nF (unL1n x+unL1n y) | _=>.dflt
theorem okAddZ:PureOK Tryz.prog 57 (preL2 800) resAddZ :=
 fn_pure_at (c:=bodyOf Tryz.f57) Tryz.func57 (by kernel_rfl) (by kernel_rfl) fun xs hp=>match xs,hp with
 | [x,y],hp=>by
  obtain ⟨hx,hy⟩:=preL2_iff hp
  exact ⟨[l1nF (unL1n x),l1nF (unL1n y)],_,⟨(l1n_eqv hx).1,(l1n_eqv hy).1,trivial⟩,t57 _ _ _ (add3Z (natAbs_of_isL1n hx) (natAbs_of_isL1n hy)),.refl _⟩
/-! ### function 95 -/
def T95 {ρ:Type} (ret:(Int)→Option ρ) (z:Int):Option ρ :=
 (bsel ((↑(digs 4294967296 z.natAbs).length:Int)==0)
 (ret (0))
 (bsel (decide (z<0))
 (ret (-1))
 (ret (1))))
def G95 (z:Int):Option (Int):=T95 some z
theorem t95 (z:Int) (r:Int) (h:G95 z=some r):Ends Tryz.prog Tryz.f95.results.toList [.code (bodyOf Tryz.f95)] (start Tryz.f95.ntmps ([l1nF z].map .f)) (F.int .i64 r):=by
 refine Ends.of_run tyOK envS2_ok (T:=[]) (n:=200) ?_
 refine gE (Y:=T95 (fun r=>some (.ret (F.int .i64 r))) z) (by kernel_rfl) ?_
 exact (gS h (fun _ h=>gR (by cases h;rfl)) (fun _ h=>(gS h (fun _ h=>gR (by cases h;rfl)) (fun _ h=>gR (by cases h;rfl)))))
theorem sign3_law (z:Int):G95 z=some z.sign:=by
 unfold G95 T95
 by_cases h0:z=0
 ·subst h0
  rw [show digs 4294967296 (Int.natAbs 0)=[] from digs_zero _]
  rfl
 ·have:=digsH_len_pos (n:=z.natAbs).2 (by omega)
  rw [show (((digs 4294967296 z.natAbs).length:Int)==0)=false by simp only [beq_eq_false_iff_ne,ne_eq];omega,bsel_false]
  by_cases hz:z<0
  ·rw [decide_eq_true hz,bsel_true,Int.sign_eq_neg_one_of_neg hz]
  ·rw [decide_eq_false hz,bsel_false,Int.sign_eq_one_of_pos (by omega)]
def resSign3:List F→F | [x]=>.int .i64 (unL1n x).sign | _=>.dflt
theorem okSign3:PureOK Tryz.prog 95 (preL1 900) resSign3 :=
 fn_pure_at (c:=bodyOf Tryz.f95) Tryz.func95 (by kernel_rfl) (by kernel_rfl) fun xs hp=>match xs,hp with
 | [x],hp=>⟨[l1nF (unL1n x)],_,⟨(l1n_eqv hp).1,trivial⟩,t95 _ _ (sign3_law _),.refl _⟩
/-! ### function 101 -/
def S101_5 (n:Int) (x:Int):St:=⟨bads 3 ((U.f (F.int .i64 n)) :: (U.f (F.int .u32 x)) :: bads 20 []),[]⟩
def T101_5 {ρ:Type} (ret:(Int)→Option ρ) (c5:KJ510 ρ) (n:Int) (x:Int):Option ρ :=
 (bsel (decide (x > 0))
 (c5 (IntKind.i64.wrap (n+1)) (x.fdiv (2 ^ min (Int.toNat 1) IntKind.u32.bits)))
 (ret (n)))
def L101_5:Nat→(Int)→(Int)→Option (Int)
 | 0,_,_=>none
 | k+1,n,x=>T101_5 some (L101_5 k) n x
def T101 {ρ:Type} (ret:(Int)→Option ρ) (c5:KJ510 ρ) (d:List Nat):Option ρ :=
 (bsel ((↑d.length:Int)==0)
 (ret (0))
 (bsel (decide (0≤IntKind.i64.wrap ((↑d.length:Int)-1)))
 (bsel (decide (IntKind.i64.wrap ((↑d.length:Int)-1)<(↑d.length:Int)))
 (c5 (IntKind.i64.wrap (IntKind.i64.wrap ((↑d.length:Int)-1)*32)) ((↑(d.getD (IntKind.i64.wrap ((↑d.length:Int)-1)).toNat 0):Int)))
 none)
 none))
def G101 (k:Nat) (d:List Nat):Option (Int):=T101 some (L101_5 k) d
theorem t101_5:∀ (k:Nat) (n:Int) (x:Int) (r:Int),L101_5 k n x=some r→Ends Tryz.prog Tryz.f101.results.toList (at_ Tryz.f101 5) (S101_5 n x) (F.int .i64 r)
 | 0,_,_,_,h=>nomatch h
 | k+1,n,x,r,h=>by
  refine Ends.of_cut tyOK envS2_ok (T:=[(5,[3,4],1000)]) (n:=200) ?_
  refine gE (Y:=T101_5 (fun r=>some (.ret (F.int .i64 r))) (fun n x=>some (.cut (at_ Tryz.f101 5) (S101_5 n x))) n x) (by kernel_rfl) ?_
  exact (gS h (fun _ h=>gC (t101_5 k _ _ r h)) (fun _ h=>gR (by cases h;rfl)))
theorem t101 (k:Nat) (d:List Nat) (r:Int) (h:G101 k d=some r):Ends Tryz.prog Tryz.f101.results.toList [.code (bodyOf Tryz.f101)] (start Tryz.f101.ntmps ([halvesF d].map .f)) (F.int .i64 r):=by
 refine Ends.of_run tyOK envS2_ok (T:=[(5,[3,4],1000)]) (n:=200) ?_
 refine gE (Y:=T101 (fun r=>some (.ret (F.int .i64 r))) (fun n x=>some (.cut (at_ Tryz.f101 5) (S101_5 n x))) d) (by kernel_rfl) ?_
 exact (gS h (fun _ h=>gR (by cases h;rfl)) (fun _ h=>(gS h (fun _ h=>(gS h (fun _ h=>gC (t101_5 k _ _ r h)) gN)) gN)))
theorem bitLen_half {x:Nat} (h:0<x):bitLen x=bitLen (x / 2)+1:=by
 by_cases h1:x=1
 ·subst h1;decide
 ·have:=bitLen_shift (n:=x) (k:=1) (by rw [Nat.pow_one];omega)
  rw [Nat.pow_one] at this
  omega
theorem bits3_loop:∀ (k x n:Nat),x<2 ^ k→n+k≤100000→k≤64→L101_5 (k+1) n x=some ((n+bitLen x:Nat):Int)
 | k,0,n,_,_,_=>by
  rw [L101_5]
  unfold T101_5
  rw [decide_eq_false (by omega),bsel_false]
  rfl
 | 0,x+1,n,h,_,_=>by simp at h
 | k+1,x+1,n,h,hn,hk=>by
  rw [L101_5]
  unfold T101_5
  have e1:(((x+1:Nat):Int)).fdiv (2 ^ min (Int.toNat 1) IntKind.u32.bits)=(((x+1) / 2:Nat):Int):=by
   rw [show min (Int.toNat 1) IntKind.u32.bits=1 from rfl,fdiv_nat]
  have e2:IntKind.i64.wrap ((n:Int)+1)=((n+1:Nat):Int):=by rw [wrapI (by omega) (by omega)];omega
  rw [decide_eq_true (show ((x+1:Nat):Int) > 0 by omega),bsel_true,e1,e2,bits3_loop k ((x+1) / 2) (n+1) (by rw [Nat.pow_succ] at h;omega) (by omega) (by omega),bitLen_half (x:=x+1) (by omega)]
  congr 1
  omega
theorem CC_pow (k:Nat):4294967296 ^ k=2 ^ (32*k):=by rw [show 4294967296=2 ^ 32 from rfl,← Nat.pow_mul]
theorem bits3_law {m:Nat} (h:m<4294967296 ^ 800):G101 33 (digs 4294967296 m)=some ((bitLen m:Nat):Int):=by
 have hl:=digsH_len h
 have hlow:∀ k,k<(digs 4294967296 m).length→4294967296 ^ k≤m:=fun k hk=>by
  rcases Nat.lt_or_ge m (4294967296 ^ k) with h1 | h1
  ·have:=digsH_len h1
   omega
  ·exact h1
 clear h
 unfold G101 T101
 by_cases h0:m=0
 ·subst h0
  rw [digs_zero]
  rfl
 ·have hp:=digsH_len_pos (n:=m).2 h0
  have e1:IntKind.i64.wrap (((digs 4294967296 m).length:Int)-1)=(((digs 4294967296 m).length-1:Nat):Int):=by rw [wrapI (by omega) (by omega)];omega
  have e2:IntKind.i64.wrap ((((digs 4294967296 m).length-1:Nat):Int)*32)=((32*((digs 4294967296 m).length-1):Nat):Int):=by rw [wrapI (by omega) (by omega)];omega
  have hb:=getD_lt' (show 0<4294967296 by omega) (okD_digs (B:=4294967296) (by omega) m) ((digs 4294967296 m).length-1)
  rw [show (((digs 4294967296 m).length:Int)==0)=false by simp only [beq_eq_false_iff_ne,ne_eq];omega,bsel_false,e1,decide_eq_true (show (0:Int)≤(((digs 4294967296 m).length-1:Nat):Int) by omega),decide_eq_true (show (((digs 4294967296 m).length-1:Nat):Int)<(digs 4294967296 m).length by omega),Int.toNat_natCast,bsel_true,bsel_true,e2,bits3_loop 32 _ _ hb (by omega) (by omega)]
  have hlo:=hlow ((digs 4294967296 m).length-1) (by omega)
  have hhi:m<4294967296 ^ (digs 4294967296 m).length:=by
   have:=val_lt (digs 4294967296 m) (okD_digs (by omega) m)
   rwa [val_digsH] at this
  rw [digit_at (by omega) _ _ (okD_digs (by omega) m),val_digsH]
  have hlt:m / 4294967296 ^ ((digs 4294967296 m).length-1)<4294967296:=by
   rw [Nat.div_lt_iff_lt_mul (Nat.pow_pos (by omega)),Nat.mul_comm,← Nat.pow_succ,show ((digs 4294967296 m).length-1).succ=(digs 4294967296 m).length by omega]
   exact hhi
  rw [Nat.mod_eq_of_lt hlt]
  rw [CC_pow] at hlo ⊢
  rw [← bitLen_shift hlo]
def preBits3:List F→Bool | [x]=>isTrimH 800 x | _=>false
def resBits3:List F→F | [x]=>.int .i64 (bitLen (val 4294967296 (unHalves x)):Nat) | _=>.dflt
theorem okBits3:PureOK Tryz.prog 101 preBits3 resBits3 :=
 fn_pure_at (c:=bodyOf Tryz.f101) Tryz.func101 (by kernel_rfl) (by kernel_rfl) fun xs hp=>match xs,hp with
 | [x],hp=>by
  obtain ⟨x1,x2,x3⟩:=isTrimH_iff hp
  have e:=bits3_law x2
  rw [x3] at e
  exact ⟨[halvesF (unHalves x)],_,⟨(halves_eqv x1).1,trivial⟩,t101 33 _ _ e,.refl _⟩
/-! ### function 102 -/
def S102_5 (d:List Nat) (m:Nat) (g:Nat→F) (s:Int) (c:Int) (i:Int):St:=⟨(U.f (halvesF d)) :: bads 4 ((U.hs 0 m 0 m) :: (U.f (F.int .u64 s)) :: (U.f (F.int .u64 c)) :: (U.f (F.int .i64 i)) :: bads 38 []),[HO.arr 1 m g]⟩
def T102_5 {ρ:Type} (ret:KJ55 ρ) (c5:(List Nat)→(Nat)→(Nat→F)→(Int)→(Int)→(Int)→Option ρ) (d:List Nat) (m:Nat) (g:Nat→F) (s:Int) (c:Int) (i:Int):Option ρ :=
 (bsel (decide (i<(↑d.length:Int)))
 (bsel (decide (0≤i))
 (bsel (decide (i<(↑d.length:Int)))
 (bsel (decide (0≤s))
 (bsel (decide (m=m))
 (bsel (decide (m=m))
 (bsel (decide ((↑(m+1):Int)*(((4:Nat):Int)+1)≤(↑limit:Int)))
 (c5 (d) (m+1) (fun j ↦ if j<m then g j else F.int .u32 (IntKind.u32.wrap (bitsOp BinOp.or IntKind.u64 c (IntKind.u64.wrap (IntKind.u64.wrap (↑(d.getD i.toNat 0):Int)*2 ^ min s.toNat IntKind.u64.bits))))) (s) ((bitsOp BinOp.or IntKind.u64 c (IntKind.u64.wrap (IntKind.u64.wrap (↑(d.getD i.toNat 0):Int)*2 ^ min s.toNat IntKind.u64.bits))).fdiv (2 ^ min (Int.toNat 32) IntKind.u64.bits)) (IntKind.i64.wrap (i+1)))
 none)
 none)
 none)
 none)
 none)
 none)
 (bsel (decide (c > 0))
 (bsel (decide (m=m))
 (bsel (decide (m=m))
 (bsel (decide ((↑(m+1):Int)*(((4:Nat):Int)+1)≤(↑limit:Int)))
 (bsel (decide (m+1=m+1))
 (bsel (isHalves (F.sl (m+1) (offF 0 fun j ↦ if j<m then g j else F.int .u32 (IntKind.u32.wrap c)))&&lenOk 2000 (F.sl (m+1) (offF 0 fun j ↦ if j<m then g j else F.int .u32 (IntKind.u32.wrap c))))
 (ret (halvesF (digs 4294967296 (sgn false (val 4294967296 (unHalves (F.sl (m+1) (offF 0 fun j ↦ if j<m then g j else F.int .u32 (IntKind.u32.wrap c)))))).natAbs)))
 none)
 none)
 none)
 none)
 none)
 (bsel (decide (m=m))
 (bsel (isHalves (F.sl m (offF 0 g))&&lenOk 2000 (F.sl m (offF 0 g)))
 (ret (halvesF (digs 4294967296 (sgn false (val 4294967296 (unHalves (F.sl m (offF 0 g))))).natAbs)))
 none)
 none)))
def L102_5:Nat→(List Nat)→(Nat)→(Nat→F)→(Int)→(Int)→(Int)→Option (F)
 | 0,_,_,_,_,_,_=>none
 | k+1,d,m,g,s,c,i=>T102_5 some (L102_5 k) d m g s c i
def T102 {ρ:Type} (ret:KJ55 ρ) (c5:(List Nat)→(Nat)→(Nat→F)→(Int)→(Int)→(Int)→Option ρ) (d:List Nat) (n:Int):Option ρ :=
 (bsel (decide (0≤IntKind.i64.wrap (n.tdiv 32)))
 (bsel (decide (IntKind.i64.wrap (n.tdiv 32)≤IntKind.i64.wrap (n.tdiv 32)))
 (bsel (decide (IntKind.i64.wrap (n.tdiv 32)*(((4:Nat):Int)+1)≤(↑limit:Int)))
 (c5 (d) ((IntKind.i64.wrap (n.tdiv 32)).toNat) (fun x ↦ F.int .u32 0) (IntKind.u64.wrap (n.tmod 32)) (0) (0))
 none)
 none)
 none)
def G102 (k:Nat) (d:List Nat) (n:Int):Option (F):=T102 some (L102_5 k) d n
theorem t102_5:∀ (k:Nat) (d:List Nat) (m:Nat) (g:Nat→F) (s:Int) (c:Int) (i:Int) (r:F),L102_5 k d m g s c i=some r→Ends Tryz.prog Tryz.f102.results.toList (at_ Tryz.f102 5) (S102_5 d m g s c i) (r)
 | 0,_,_,_,_,_,_,_,h=>nomatch h
 | k+1,d,m,g,s,c,i,r,h=>by
  refine Ends.of_cut tyOK envS2_ok (T:=[(5,[0,5,6,7,8],1000)]) (n:=200) ?_
  refine gE (Y:=T102_5 (fun r=>some (.ret (r))) (fun d m g s c i=>some (.cut (at_ Tryz.f102 5) (S102_5 d m g s c i))) d m g s c i) (by kernel_rfl) ?_
  exact (gS h (fun _ h=>(gS h (fun _ h=>(gS h (fun _ h=>(gS h (fun _ h=>(gS h (fun _ h=>(gS h (fun _ h=>(gS h (fun _ h=>gC (t102_5 k _ _ _ _ _ _ r h)) gN)) gN)) gN)) gN)) gN)) gN)) (fun _ h=>(gS h (fun _ h=>(gS h (fun _ h=>(gS h (fun _ h=>(gS h (fun _ h=>(gS h (fun _ h=>(gS h (fun _ h=>gR (by cases h;rfl)) gN)) gN)) gN)) gN)) gN)) (fun _ h=>(gS h (fun _ h=>(gS h (fun _ h=>gR (by cases h;rfl)) gN)) gN)))))
theorem t102 (k:Nat) (d:List Nat) (n:Int) (r:F) (h:G102 k d n=some r):Ends Tryz.prog Tryz.f102.results.toList [.code (bodyOf Tryz.f102)] (start Tryz.f102.ntmps ([halvesF d,F.int .i64 n].map .f)) (r):=by
 refine Ends.of_run tyOK envS2_ok (T:=[(5,[0,5,6,7,8],1000)]) (n:=200) ?_
 refine gE (Y:=T102 (fun r=>some (.ret (r))) (fun d m g s c i=>some (.cut (at_ Tryz.f102 5) (S102_5 d m g s c i))) d n) (by kernel_rfl) ?_
 exact (gS h (fun _ h=>(gS h (fun _ h=>(gS h (fun _ h=>gC (t102_5 k _ _ _ _ _ _ r h)) gN)) gN)) gN)
def shlL (k:Nat):List Nat→Nat→List Nat
 | [],c=>if c=0 then [] else [c]
 | x :: d,c=>((c+x*2 ^ k) % 4294967296) :: shlL k d ((c+x*2 ^ k) / 4294967296)
theorem val_shlL (k:Nat):∀ (d:List Nat) (c:Nat),val 4294967296 (shlL k d c)=val 4294967296 d*2 ^ k+c
 | [],c=>by by_cases h:c=0 <;> simp [shlL,val,h]
 | x :: d,c=>by
  simp only [shlL,val,val_shlL k d]
  have h:=Nat.mod_add_div (c+x*2 ^ k) 4294967296
  rw [Nat.add_mul,Nat.mul_add,Nat.mul_assoc]
  omega
theorem shl_carry {k c x:Nat} (hk:k<32) (hc:c<2 ^ k) (hx:x<4294967296):c+x*2 ^ k<4294967296*2 ^ k∧(c+x*2 ^ k) / 4294967296<2 ^ k:=by
 have h1:c+x*2 ^ k<4294967296*2 ^ k:=by
  have:=Nat.mul_le_mul_right (2 ^ k) (show x+1≤4294967296 from hx)
  rw [Nat.add_mul] at this
  omega
 exact ⟨h1,Nat.div_lt_of_lt_mul h1⟩
theorem or_comm64 (a b:Int):bitsOp .or .u64 a b=bitsOp .or .u64 b a:=by rw [bOr,bOr,BitVec.or_comm]
theorem left_loop {d:List Nat} {s:Nat} (od:okD 4294967296 d) (hs:s<32):∀ (rest:List Nat) (i c k m:Nat) (o:List Nat) (g:Nat→F),d.drop i=rest→i+rest.length=d.length→c<2 ^ s→okD 4294967296 o→o.length+rest.length≤1900 →
  Lists u32F 0 m g o→rest.length<k→d.length≤1900→L102_5 k d m g s c i=some (halvesF (digs 4294967296 (val 4294967296 (o++shlL s rest c))))
 | _,_,_,0,_,_,_,_,_,_,_,_,_,h,_=>by omega
 | [],i,c,k+1,m,o,g,hr,hi,hc,oo,hlen,hg,_,hd=>by
  simp only [List.length_nil,Nat.add_zero] at hi hlen
  subst hi
  have sg:∀ n:Nat,(sgn false n).natAbs=n:=sgn_natAbs false
  rw [L102_5]
  unfold T102_5
  rw [decide_eq_false (show ¬ (d.length:Int)<d.length by omega),bsel_false]
  have hc2:2 ^ s≤2 ^ 31:=Nat.pow_le_pow_right (by omega) (by omega)
  by_cases h0:c=0
  ·subst h0
   have hl:o.length=m:=hg.1.symm
   have ho:offF 0 g=g:=rfl
   rw [decide_eq_false (show ¬ ((0:Nat):Int) > 0 by omega),bsel_false,dec_rfl,bsel_true,ho,isHalves_read hl hg.2 oo,unHalves_read hl hg.2,show lenOk 2000 (F.sl m g)=true by simp only [lenOk,Nat.ble_eq];omega,sg]
   simp only [shlL,if_true,List.append_nil]
   rfl
  ·have hp:=hg.push c
   have e:IntKind.u32.wrap (c:Int)=(c:Int):=by rw [wrap32];omega
   have hl:(o++[c]).length=m+1:=by rw [List.length_append,hg.1];rfl
   have ho:offF 0 (fun j=>if j<m then g j else F.int .u32 (c:Int))=(fun j=>if j<m then g j else u32F c):=rfl
   have oc:okD 4294967296 (o++[c]):=okD_app oo (by intro w hw;simp at hw;omega)
   have hm:=hg.1
   rw [decide_eq_true (show (c:Int) > 0 by omega),bsel_true,dec_rfl,bsel_true,bsel_true,decide_eq_true (limit_ok4 (show m+1≤3000 by omega)),bsel_true,dec_rfl,bsel_true,e,ho,isHalves_read hl hp.2 oc,unHalves_read hl hp.2,show lenOk 2000 (F.sl (m+1) fun j=>if j<m then g j else u32F c)=true by simp only [lenOk,Nat.ble_eq];omega,sg]
   simp only [shlL,if_neg h0]
   rfl
 | x :: rest,i,c,k+1,m,o,g,hr,hi,hc,oo,hlen,hg,hk,hd=>by
  obtain ⟨hx,hr',hia⟩:=drop_cons hr
  have hxb:=getD_lt od hia
  rw [hx] at hxb
  obtain ⟨hc1,hc2⟩:=shl_carry hs hc hxb
  have hsb:2 ^ s≤2 ^ 31:=Nat.pow_le_pow_right (by omega) (by omega)
  have hBB:4294967296*2 ^ s<18446744073709551616:=Nat.lt_of_le_of_lt (Nat.mul_le_mul_left _ hsb) (by omega)
  have ih:=left_loop od hs rest (i+1) ((c+x*2 ^ s) / 4294967296) k (m+1) (o++[(c+x*2 ^ s) % 4294967296]) _ hr' (by simp only [List.length_cons] at hi;omega) hc2 (okD_app oo (by intro w hw;simp at hw;omega)) (by simp only [List.length_cons,List.length_append,List.length_nil] at hlen ⊢;omega) (hg.push _) (by simp at hk;omega) hd
  have ei:IntKind.i64.wrap ((i:Int)+1)=((i+1:Nat):Int):=by rw [wrapI (by omega) (by omega)];omega
  have w0:IntKind.u64.wrap ((x:Nat):Int)=(x:Nat):=wrapu_lt (by omega)
  have ms:min ((s:Nat):Int).toNat IntKind.u64.bits=s:=by rw [Int.toNat_natCast];exact Nat.min_eq_left (by show s≤64;omega)
  have w1:bitsOp .or .u64 (c:Int) (IntKind.u64.wrap ((x:Int)*2 ^ s))=((c+x*2 ^ s:Nat):Int):=by
   have h:=or_disj (i:=s) (a:=x) (b:=c) (by omega) hc (by rw [Nat.mul_comm];omega)
   rw [Nat.mul_comm (2 ^ s) x] at h
   rw [wshl,Nat.mod_eq_of_lt (show x*2 ^ s<18446744073709551616 by omega),or_comm64,h,Nat.add_comm]
  have w4:F.int .u32 (IntKind.u32.wrap ((c+x*2 ^ s:Nat):Int))=u32F ((c+x*2 ^ s) % 4294967296):=congrArg (F.int .u32) (by rw [wrap32];omega)
  have hm:=hg.1
  rw [L102_5]
  unfold T102_5
  rw [Int.toNat_natCast (n:=i),hx,w0,ms,w1,w4,shr32,ei,decide_eq_true (show (i:Int)<d.length by omega),decide_eq_true (show (0:Int)≤i by omega),decide_eq_true (show (0:Int)≤s by omega),decide_eq_true (limit_ok4 (show m+1≤3000 by simp only [List.length_cons] at hlen;omega))]
  simp only [bsel_true,decide_true]
  refine Eq.trans ih ?_
  simp only [shlL]
  rw [List.append_assoc]
  rfl
theorem left_law {d:List Nat} {n:Nat} (od:okD 4294967296 d) (hl:n / 32+d.length≤1900):G102 2000 d n=some (halvesF (digs 4294967296 (val 4294967296 d*2 ^ n))):=by
 unfold G102 T102
 have hn:n / 32≤1900:=by omega
 have e1:IntKind.i64.wrap ((n:Int).tdiv 32)=((n / 32:Nat):Int):=by
  rw [show (n:Int).tdiv 32=((n / 32:Nat):Int) from rfl,wrapI (by omega) (by omega)]
 have e2:IntKind.u64.wrap ((n:Int).tmod 32)=((n % 32:Nat):Int):=by
  rw [show (n:Int).tmod 32=((n % 32:Nat):Int) from rfl,wrapu_lt (by omega)]
 rw [e1,e2,decide_eq_true (show (0:Int)≤((n / 32:Nat):Int) by omega),decide_eq_true (Int.le_refl _),decide_eq_true (limit_ok4 (show n / 32≤3000 by omega)),Int.toNat_natCast]
 simp only [bsel_true]
 have h:=left_loop (d:=d) (s:=n % 32) od (Nat.mod_lt _ (by omega)) d 0 0 2000 (n / 32) (List.replicate (n / 32) 0) (fun _=>F.int .u32 0) rfl (by omega) (Nat.two_pow_pos _) (fun w hw=>by have:=(List.mem_replicate.1 hw).2;omega) (by rw [List.length_replicate];omega)
  ⟨by rw [List.length_replicate],fun j hj=>by simp only [List.getD,List.getElem?_replicate,if_pos hj];rfl⟩ (by omega) (by omega)
 refine Eq.trans h ?_
 rw [val_append,val_zeros,val_shlL,List.length_replicate,Nat.zero_add,Nat.add_zero]
 congr 3
 rw [two_pow_split n,Nat.mul_left_comm]
def isLeft (l:Nat) (n:Int):Bool:=decide (0≤n)&&Nat.ble (n.toNat / 32+l) 1900
def preLeft:List F→Bool | [x,.int .i64 n]=>isHalves x&&isLeft (unHalves x).length n | _=>false
def resLeft:List F→F | [x,.int .i64 n]=>halvesF (digs 4294967296 (val 4294967296 (unHalves x)*2 ^ n.toNat)) | _=>.dflt
theorem okLeft:PureOK Tryz.prog 102 preLeft resLeft :=
 fn_pure_at (c:=bodyOf Tryz.f102) Tryz.func102 (by kernel_rfl) (by kernel_rfl) fun xs hp=>match xs,hp with
 | [x,.int .i64 n],hp=>by
  simp only [preLeft,isLeft,Bool.and_eq_true,decide_eq_true_eq,Nat.ble_eq] at hp
  obtain ⟨hx,h0,hl⟩:=hp
  obtain ⟨n,rfl⟩:=Int.eq_ofNat_of_zero_le h0
  rw [Int.toNat_natCast] at hl
  have e:=left_law (n:=n) (okD_unHalves hx) hl
  exact ⟨[halvesF (unHalves x),.int .i64 n],_,⟨(halves_eqv hx).1,.refl _,trivial⟩,t102 2000 _ _ _ e,.refl _⟩
def envS3:Env:=(((((envS2.add 79 (.pure (preL1 800) resNeg3)).add 56 (.pure preI64 resInt3)).add 57 (.pure (preL2 800) resAddZ)).add 95 (.pure (preL1 900) resSign3)).add 101 (.pure preBits3 resBits3)).add 102 (.pure preLeft resLeft)
theorem envS3_ok:EnvOK Tryz.prog envS3:=(Env.add_ok (Env.add_ok (Env.add_ok (Env.add_ok (Env.add_ok (Env.add_ok envS2_ok okNeg3.sp) okInt3.sp) okAddZ.sp) okSign3.sp) okBits3.sp) okLeft.sp)
end
end Go.Proofs.YtkjjmmgddehbhaaGreat.R
