/-
 The own walk and what it shows,part 5 of 10.
-/
import Derived.Test.YtlefbocihikaoaaGreatJ1
import Derived.Test.YtlefbocihikaoaaGreatJ2
import Derived.Test.YtlefbocihikaoaaGreatJ3
import Derived.Test.YtlefbocihikaoaaGreatJ4
set_option linter.unusedVariables false
set_option linter.unusedSimpArgs false
set_option maxRecDepth 100000
set_option exponentiation.threshold 30000
namespace Go.Proofs.YtlefbocihikaoaaGreat.R
open Go
noncomputable section
/-! ### function 99 -/
def M3 (a:List Nat) (b:List Nat) (m:Nat) (g:Nat→F) (c:Int) (i:Int):St:=⟨(U.f (AO a)) :: (U.f (AO b)) :: Ag 5 ((U.hs 0 m 0 m) :: (U.f (F.int .u64 c)) :: (U.f (F.int .i64 i)) :: Ag 316 []),[HO.arr 1 m g]⟩
def JI :St:=⟨Ag 326 [],[]⟩
def JJ :St:=⟨Ag 326 [],[]⟩
def JK :St:=⟨Ag 326 [],[]⟩
def JL :St:=⟨Ag 326 [],[]⟩
def JM :St:=⟨Ag 326 [],[]⟩
def JN :St:=⟨Ag 326 [],[]⟩
abbrev Ow (ρ:Type):=(List Nat)→(List Nat)→(Nat)→(Nat→F)→(Int)→(Int)→Option ρ
abbrev VM (ρ:Type):=(F)→(F)→Option ρ
def cZ {ρ:Type} (ret:VM ρ) (c7:Ow ρ) (c51:Option ρ) (c42:Option ρ) (c38:Option ρ) (c29:Option ρ) (c21:Option ρ) (c15:Option ρ) (a:List Nat) (b:List Nat) (m:Nat) (g:Nat→F) (c:Int) (i:Int):Option ρ :=
 (AC (decide (i ≥ 0))
 (AC (decide (0≤i))
 (AC (decide (i<(↑a.length:Int)))
 (AC (decide (0<(↑b.length:Int)))
 (AC (W3 c (↑(a.getD i.toNat 0):Int) (↑(b.getD (Int.toNat 0) 0):Int))
 (AC (decide (m=m))
 (AC (decide (0≤i))
 (AC (decide (i<(↑m:Int)))
 (AC (decide (m=m))
 (AC (decide (0+i.toNat<m))
 (AC (decide ((g (0+i.toNat)).cells.length=1))
 (AC ((CO (g (0+i.toNat)) || true)&&true)
 (c7 (a) (b) (m) (fun j ↦ if j=0+i.toNat then F.int .u64 (divQ c (↑(a.getD i.toNat 0):Int) (↑(b.getD (Int.toNat 0) 0):Int)) else g j) (divR c (↑(a.getD i.toNat 0):Int) (↑(b.getD (Int.toNat 0) 0):Int)) (IntKind.i64.wrap (i-1)))
 none)
 none)
 none)
 none)
 none)
 none)
 none)
 none)
 none)
 none)
 none)
 (AC (decide (m=m))
 (AC (Ay (F.sl m (B3 0 g))&&decide ((AP (F.sl m (B3 0 g))).length≤1000))
 (AC (Ay (F.sl 1 (Aj [F.int .u64 c]))&&true)
 (ret (AO (CT (AP (F.sl m (B3 0 g))))) (AO (CT (AP (F.sl 1 (Aj [F.int .u64 c]))))))
 none)
 none)
 none))
def qN {ρ:Type} (ret:VM ρ) (c7:Ow ρ) (c51:Option ρ) (c42:Option ρ) (c38:Option ρ) (c29:Option ρ) (c21:Option ρ) (c15:Option ρ) :Option ρ :=
 none
def qO {ρ:Type} (ret:VM ρ) (c7:Ow ρ) (c51:Option ρ) (c42:Option ρ) (c38:Option ρ) (c29:Option ρ) (c21:Option ρ) (c15:Option ρ) :Option ρ :=
 none
def qP {ρ:Type} (ret:VM ρ) (c7:Ow ρ) (c51:Option ρ) (c42:Option ρ) (c38:Option ρ) (c29:Option ρ) (c21:Option ρ) (c15:Option ρ) :Option ρ :=
 none
def qQ {ρ:Type} (ret:VM ρ) (c7:Ow ρ) (c51:Option ρ) (c42:Option ρ) (c38:Option ρ) (c29:Option ρ) (c21:Option ρ) (c15:Option ρ) :Option ρ :=
 none
def qR {ρ:Type} (ret:VM ρ) (c7:Ow ρ) (c51:Option ρ) (c42:Option ρ) (c38:Option ρ) (c29:Option ρ) (c21:Option ρ) (c15:Option ρ) :Option ρ :=
 none
def qS {ρ:Type} (ret:VM ρ) (c7:Ow ρ) (c51:Option ρ) (c42:Option ρ) (c38:Option ρ) (c29:Option ρ) (c21:Option ρ) (c15:Option ρ) :Option ρ :=
 none
mutual
def Ip:Nat→(List Nat)→(List Nat)→(Nat)→(Nat→F)→(Int)→(Int)→Option ((F) × (F))
 | 0,_,_,_,_,_,_=>none
 | k+1,a,b,m,g,c,i=>cZ (fun r1 r2=>some (r1,r2)) (Ip k) (JP k) (JQ k) (JR k) (JS k) (JT k) (JU k) a b m g c i
 termination_by structural k=>k
def JP:Nat→Option ((F) × (F))
 | 0=>none
 | k+1=>qN (fun r1 r2=>some (r1,r2)) (Ip k) (JP k) (JQ k) (JR k) (JS k) (JT k) (JU k)
 termination_by structural k=>k
def JQ:Nat→Option ((F) × (F))
 | 0=>none
 | k+1=>qO (fun r1 r2=>some (r1,r2)) (Ip k) (JP k) (JQ k) (JR k) (JS k) (JT k) (JU k)
 termination_by structural k=>k
def JR:Nat→Option ((F) × (F))
 | 0=>none
 | k+1=>qP (fun r1 r2=>some (r1,r2)) (Ip k) (JP k) (JQ k) (JR k) (JS k) (JT k) (JU k)
 termination_by structural k=>k
def JS:Nat→Option ((F) × (F))
 | 0=>none
 | k+1=>qQ (fun r1 r2=>some (r1,r2)) (Ip k) (JP k) (JQ k) (JR k) (JS k) (JT k) (JU k)
 termination_by structural k=>k
def JT:Nat→Option ((F) × (F))
 | 0=>none
 | k+1=>qR (fun r1 r2=>some (r1,r2)) (Ip k) (JP k) (JQ k) (JR k) (JS k) (JT k) (JU k)
 termination_by structural k=>k
def JU:Nat→Option ((F) × (F))
 | 0=>none
 | k+1=>qS (fun r1 r2=>some (r1,r2)) (Ip k) (JP k) (JQ k) (JR k) (JS k) (JT k) (JU k)
 termination_by structural k=>k
end
def T99 {ρ:Type} (ret:VM ρ) (c7:Ow ρ) (c51:Option ρ) (c42:Option ρ) (c38:Option ρ) (c29:Option ρ) (c21:Option ρ) (c15:Option ρ) (a:List Nat) (b:List Nat):Option ρ :=
 (AC (Ay (AO a)&&decide ((AP (AO a)).length≤1000)&&(Ay (AO b)&&decide ((AP (AO b)).length≤1000)))
 (AC (decide (Je (AP (AO a)) (AP (AO b))<0))
 (ret (F.sl 0 fun x ↦ F.bool false) (AO a))
 (AC ((↑b.length:Int)==1)
 (AC (decide ((↑a.length:Int)≤(↑a.length:Int)))
 (AC (decide ((↑a.length:Int)*(((8:Nat):Int)+1)≤(↑BC:Int)))
 (c7 (a) (b) ((↑a.length:Int).toNat) (fun x ↦ F.int .u64 0) (0) (IntKind.i64.wrap ((↑a.length:Int)-1)))
 none)
 none)
 (AC (decide (0≤IntKind.i64.wrap ((↑b.length:Int)-1)))
 (AC (decide (IntKind.i64.wrap ((↑b.length:Int)-1)<(↑b.length:Int)))
 (AC (H7 (↑(b.getD (IntKind.i64.wrap ((↑b.length:Int)-1)).toNat 0):Int))
 none
 none)
 none)
 none)))
 none)
def G99 (k:Nat) (a:List Nat) (b:List Nat):Option ((F) × (F)):=T99 (fun r1 r2=>some (r1,r2)) (Ip k) (JP k) (JQ k) (JR k) (JS k) (JT k) (JU k) a b
mutual
theorem t99_7:∀ (k:Nat) (a:List Nat) (b:List Nat) (m:Nat) (g:Nat→F) (c:Int) (i:Int) (r1:F) (r2:F),Ip k a b m g c i=some (r1,r2)→AY Tryz.prog Tryz.f99.results.toList (at_ Tryz.f99 7) (M3 a b m g c i) (F.tup [r1,r2])
 | 0,_,_,_,_,_,_,_,_,h=>nomatch h
 | k+1,a,b,m,g,c,i,r1,r2,h=>by
  refine AY.of_cut Ap D2 (T:=[(7,[0,1,7,8,9],1000),(51,[10,13,28,289,290],1000),(42,[6,10,11,12,13,14,15,20,26,236,237],1000),(38,[6,10,11,12,13,14,15,20],1000),(29,[6,10,11,12,13,14,15,20,21,175,176],1000),(21,[6,10,11,12,13,14,15,16],1000),(15,[6,10,11,12,13,14],1000)]) (n:=200) ?_
  refine gE (Y:=cZ (fun r1 r2=>some (.ret (F.tup [r1,r2]))) (fun a b m g c i=>some (.cut (at_ Tryz.f99 7) (M3 a b m g c i))) (some (.cut (at_ Tryz.f99 51) (JI ))) (some (.cut (at_ Tryz.f99 42) (JJ ))) (some (.cut (at_ Tryz.f99 38) (JK ))) (some (.cut (at_ Tryz.f99 29) (JL ))) (some (.cut (at_ Tryz.f99 21) (JM ))) (some (.cut (at_ Tryz.f99 15) (JN ))) a b m g c i) (by kernel_rfl) ?_
  exact (gS h (fun _ h=>(gS h (fun _ h=>(gS h (fun _ h=>(gS h (fun _ h=>(gS h (fun _ h=>(gS h (fun _ h=>(gS h (fun _ h=>(gS h (fun _ h=>(gS h (fun _ h=>(gS h (fun _ h=>(gS h (fun _ h=>(gS h (fun _ h=>gC (t99_7 k _ _ _ _ _ _ r1 r2 h)) gN)) gN)) gN)) gN)) gN)) gN)) gN)) gN)) gN)) gN)) gN)) (fun _ h=>(gS h (fun _ h=>(gS h (fun _ h=>(gS h (fun _ h=>gR (by cases h;rfl)) gN)) gN)) gN)))
theorem t99_51:∀ (k:Nat)  (r1:F) (r2:F),JP k =some (r1,r2)→AY Tryz.prog Tryz.f99.results.toList (at_ Tryz.f99 51) (JI ) (F.tup [r1,r2])
 | 0,_,_,h=>nomatch h
 | k+1,r1,r2,h=>by
  refine AY.of_cut Ap D2 (T:=[(7,[0,1,7,8,9],1000),(51,[10,13,28,289,290],1000),(42,[6,10,11,12,13,14,15,20,26,236,237],1000),(38,[6,10,11,12,13,14,15,20],1000),(29,[6,10,11,12,13,14,15,20,21,175,176],1000),(21,[6,10,11,12,13,14,15,16],1000),(15,[6,10,11,12,13,14],1000)]) (n:=200) ?_
  refine gE (Y:=qN (fun r1 r2=>some (.ret (F.tup [r1,r2]))) (fun a b m g c i=>some (.cut (at_ Tryz.f99 7) (M3 a b m g c i))) (some (.cut (at_ Tryz.f99 51) (JI ))) (some (.cut (at_ Tryz.f99 42) (JJ ))) (some (.cut (at_ Tryz.f99 38) (JK ))) (some (.cut (at_ Tryz.f99 29) (JL ))) (some (.cut (at_ Tryz.f99 21) (JM ))) (some (.cut (at_ Tryz.f99 15) (JN ))) ) (by kernel_rfl) ?_
  exact nomatch h
theorem t99_42:∀ (k:Nat)  (r1:F) (r2:F),JQ k =some (r1,r2)→AY Tryz.prog Tryz.f99.results.toList (at_ Tryz.f99 42) (JJ ) (F.tup [r1,r2])
 | 0,_,_,h=>nomatch h
 | k+1,r1,r2,h=>by
  refine AY.of_cut Ap D2 (T:=[(7,[0,1,7,8,9],1000),(51,[10,13,28,289,290],1000),(42,[6,10,11,12,13,14,15,20,26,236,237],1000),(38,[6,10,11,12,13,14,15,20],1000),(29,[6,10,11,12,13,14,15,20,21,175,176],1000),(21,[6,10,11,12,13,14,15,16],1000),(15,[6,10,11,12,13,14],1000)]) (n:=200) ?_
  refine gE (Y:=qO (fun r1 r2=>some (.ret (F.tup [r1,r2]))) (fun a b m g c i=>some (.cut (at_ Tryz.f99 7) (M3 a b m g c i))) (some (.cut (at_ Tryz.f99 51) (JI ))) (some (.cut (at_ Tryz.f99 42) (JJ ))) (some (.cut (at_ Tryz.f99 38) (JK ))) (some (.cut (at_ Tryz.f99 29) (JL ))) (some (.cut (at_ Tryz.f99 21) (JM ))) (some (.cut (at_ Tryz.f99 15) (JN ))) ) (by kernel_rfl) ?_
  exact nomatch h
theorem t99_38:∀ (k:Nat)  (r1:F) (r2:F),JR k =some (r1,r2)→AY Tryz.prog Tryz.f99.results.toList (at_ Tryz.f99 38) (JK ) (F.tup [r1,r2])
 | 0,_,_,h=>nomatch h
 | k+1,r1,r2,h=>by
  refine AY.of_cut Ap D2 (T:=[(7,[0,1,7,8,9],1000),(51,[10,13,28,289,290],1000),(42,[6,10,11,12,13,14,15,20,26,236,237],1000),(38,[6,10,11,12,13,14,15,20],1000),(29,[6,10,11,12,13,14,15,20,21,175,176],1000),(21,[6,10,11,12,13,14,15,16],1000),(15,[6,10,11,12,13,14],1000)]) (n:=200) ?_
  refine gE (Y:=qP (fun r1 r2=>some (.ret (F.tup [r1,r2]))) (fun a b m g c i=>some (.cut (at_ Tryz.f99 7) (M3 a b m g c i))) (some (.cut (at_ Tryz.f99 51) (JI ))) (some (.cut (at_ Tryz.f99 42) (JJ ))) (some (.cut (at_ Tryz.f99 38) (JK ))) (some (.cut (at_ Tryz.f99 29) (JL ))) (some (.cut (at_ Tryz.f99 21) (JM ))) (some (.cut (at_ Tryz.f99 15) (JN ))) ) (by kernel_rfl) ?_
  exact nomatch h
theorem t99_29:∀ (k:Nat)  (r1:F) (r2:F),JS k =some (r1,r2)→AY Tryz.prog Tryz.f99.results.toList (at_ Tryz.f99 29) (JL ) (F.tup [r1,r2])
 | 0,_,_,h=>nomatch h
 | k+1,r1,r2,h=>by
  refine AY.of_cut Ap D2 (T:=[(7,[0,1,7,8,9],1000),(51,[10,13,28,289,290],1000),(42,[6,10,11,12,13,14,15,20,26,236,237],1000),(38,[6,10,11,12,13,14,15,20],1000),(29,[6,10,11,12,13,14,15,20,21,175,176],1000),(21,[6,10,11,12,13,14,15,16],1000),(15,[6,10,11,12,13,14],1000)]) (n:=200) ?_
  refine gE (Y:=qQ (fun r1 r2=>some (.ret (F.tup [r1,r2]))) (fun a b m g c i=>some (.cut (at_ Tryz.f99 7) (M3 a b m g c i))) (some (.cut (at_ Tryz.f99 51) (JI ))) (some (.cut (at_ Tryz.f99 42) (JJ ))) (some (.cut (at_ Tryz.f99 38) (JK ))) (some (.cut (at_ Tryz.f99 29) (JL ))) (some (.cut (at_ Tryz.f99 21) (JM ))) (some (.cut (at_ Tryz.f99 15) (JN ))) ) (by kernel_rfl) ?_
  exact nomatch h
theorem t99_21:∀ (k:Nat)  (r1:F) (r2:F),JT k =some (r1,r2)→AY Tryz.prog Tryz.f99.results.toList (at_ Tryz.f99 21) (JM ) (F.tup [r1,r2])
 | 0,_,_,h=>nomatch h
 | k+1,r1,r2,h=>by
  refine AY.of_cut Ap D2 (T:=[(7,[0,1,7,8,9],1000),(51,[10,13,28,289,290],1000),(42,[6,10,11,12,13,14,15,20,26,236,237],1000),(38,[6,10,11,12,13,14,15,20],1000),(29,[6,10,11,12,13,14,15,20,21,175,176],1000),(21,[6,10,11,12,13,14,15,16],1000),(15,[6,10,11,12,13,14],1000)]) (n:=200) ?_
  refine gE (Y:=qR (fun r1 r2=>some (.ret (F.tup [r1,r2]))) (fun a b m g c i=>some (.cut (at_ Tryz.f99 7) (M3 a b m g c i))) (some (.cut (at_ Tryz.f99 51) (JI ))) (some (.cut (at_ Tryz.f99 42) (JJ ))) (some (.cut (at_ Tryz.f99 38) (JK ))) (some (.cut (at_ Tryz.f99 29) (JL ))) (some (.cut (at_ Tryz.f99 21) (JM ))) (some (.cut (at_ Tryz.f99 15) (JN ))) ) (by kernel_rfl) ?_
  exact nomatch h
theorem t99_15:∀ (k:Nat)  (r1:F) (r2:F),JU k =some (r1,r2)→AY Tryz.prog Tryz.f99.results.toList (at_ Tryz.f99 15) (JN ) (F.tup [r1,r2])
 | 0,_,_,h=>nomatch h
 | k+1,r1,r2,h=>by
  refine AY.of_cut Ap D2 (T:=[(7,[0,1,7,8,9],1000),(51,[10,13,28,289,290],1000),(42,[6,10,11,12,13,14,15,20,26,236,237],1000),(38,[6,10,11,12,13,14,15,20],1000),(29,[6,10,11,12,13,14,15,20,21,175,176],1000),(21,[6,10,11,12,13,14,15,16],1000),(15,[6,10,11,12,13,14],1000)]) (n:=200) ?_
  refine gE (Y:=qS (fun r1 r2=>some (.ret (F.tup [r1,r2]))) (fun a b m g c i=>some (.cut (at_ Tryz.f99 7) (M3 a b m g c i))) (some (.cut (at_ Tryz.f99 51) (JI ))) (some (.cut (at_ Tryz.f99 42) (JJ ))) (some (.cut (at_ Tryz.f99 38) (JK ))) (some (.cut (at_ Tryz.f99 29) (JL ))) (some (.cut (at_ Tryz.f99 21) (JM ))) (some (.cut (at_ Tryz.f99 15) (JN ))) ) (by kernel_rfl) ?_
  exact nomatch h
end
theorem t99 (k:Nat) (a:List Nat) (b:List Nat) (r1:F) (r2:F) (h:G99 k a b=some (r1,r2)):AY Tryz.prog Tryz.f99.results.toList [.code (AR Tryz.f99)] (start Tryz.f99.ntmps ([AO a,AO b].map .f)) (F.tup [r1,r2]):=by
 refine AY.of_run Ap D2 (T:=[(7,[0,1,7,8,9],1000),(51,[10,13,28,289,290],1000),(42,[6,10,11,12,13,14,15,20,26,236,237],1000),(38,[6,10,11,12,13,14,15,20],1000),(29,[6,10,11,12,13,14,15,20,21,175,176],1000),(21,[6,10,11,12,13,14,15,16],1000),(15,[6,10,11,12,13,14],1000)]) (n:=200) ?_
 refine gE (Y:=T99 (fun r1 r2=>some (.ret (F.tup [r1,r2]))) (fun a b m g c i=>some (.cut (at_ Tryz.f99 7) (M3 a b m g c i))) (some (.cut (at_ Tryz.f99 51) (JI ))) (some (.cut (at_ Tryz.f99 42) (JJ ))) (some (.cut (at_ Tryz.f99 38) (JK ))) (some (.cut (at_ Tryz.f99 29) (JL ))) (some (.cut (at_ Tryz.f99 21) (JM ))) (some (.cut (at_ Tryz.f99 15) (JN ))) a b) (by kernel_rfl) ?_
 exact (gS h (fun _ h=>(gS h (fun _ h=>gR (by cases h;rfl)) (fun _ h=>(gS h (fun _ h=>(gS h (fun _ h=>(gS h (fun _ h=>gC (t99_7 k _ _ _ _ _ _ r1 r2 h)) gN)) gN)) (fun _ h=>(gS h (fun _ h=>(gS h (fun _ h=>(gS h gN gN)) gN)) gN)))))) gN)
theorem iI {B y:Nat} {a:List Nat} {i:Nat} (hi:i<a.length):D5 B y (a.drop i)=(((D5 B y (a.drop (i+1))).2*B+a.getD i 0) / y :: (D5 B y (a.drop (i+1))).1,((D5 B y (a.drop (i+1))).2*B+a.getD i 0) % y):=by
 rw [List.drop_eq_getElem_cons hi]
 simp only [D5,List.getD,List.getElem?_eq_getElem hi,Option.getD_some]
theorem rep_set (i v:Nat) (q:List Nat):(List.replicate (i+1) 0++q).set i v=List.replicate i 0++v :: q:=by
 rw [List.replicate_succ',List.append_assoc]
 simp [List.set_append]
theorem div_end {a b:List Nat} {m k c:Nat} {g:Nat→F} {l:List Nat} (hl:l.length=m) (ol:okD 18446744073709551616 l) (hm:m≤900) (hc:c<18446744073709551616) (hg:∀ j,j<m→g j=BP (l.getD j 0)) :
  Ip (k+1) a b m g c (-1)=some (AO (CT l),AO (CT [c])):=by
 rw [Ip]
 unfold cZ
 have e1:AP (F.sl m (B3 0 g))=l:=Ef hl hg
 have e2:AP (F.sl 1 (Aj [F.int .u64 (c:Int)]))=[c]:=rfl
 have e3:Ay (F.sl 1 (Aj [F.int .u64 (c:Int)]))=true:=D0 (l:=[c]) rfl (fun j hj=>by rw [show j=0 by omega];rfl) (by intro w hw;simp at hw;omega)
 have e4:Ay (F.sl m (B3 0 g))=true:=D0 hl hg ol
 rw [e1,e2,e3,e4,decide_eq_false (show ¬ (-1:Int) ≥ 0 by omega),AJ,decide_eq_true (show m=m from rfl),decide_eq_true (show l.length≤1000 by omega)]
 rfl
theorem Xq {a:List Nat} {y:Nat} (oa:okD 18446744073709551616 a) (ha:a.length≤900) (hy0:0<y) (hy:y<18446744073709551616):∀ (n k:Nat) (g:Nat→F),n≤a.length→n<k→(∀ j,j<a.length→g j=BP ((List.replicate n 0++(D5 18446744073709551616 y (a.drop n)).1).getD j 0)) →
  Ip k a [y] a.length g ((D5 18446744073709551616 y (a.drop n)).2:Nat) ((n:Int)-1)=some (AO (CT (D5 18446744073709551616 y a).1),AO (CT [(D5 18446744073709551616 y a).2]))
 | _,0,_,_,hk,_=>by omega
 | 0,k+1,g,_,_,hg=>by
  have h2:=(KT 18446744073709551616 hy0 a).2
  simp only [List.drop_zero,List.replicate_zero,List.nil_append] at hg ⊢
  exact div_end (by rw [QZ]) (Tp hy0 a oa) ha (by omega) hg
 | n+1,k+1,g,hn,hk,hg=>by
  have hlt:n<a.length:=by omega
  have hx:=DC oa hlt
  have hr:=(KT 18446744073709551616 hy0 (a.drop (n+1))).2
  have hd:=iI (B:=18446744073709551616) (y:=y) hlt
  have hlen:(List.replicate (n+1) 0++(D5 18446744073709551616 y (a.drop (n+1))).1).length=a.length:=by
   rw [List.length_append,List.length_replicate,QZ,List.length_drop];omega
  have ih:=Xq oa ha hy0 hy n k (fun j=>if j=0+n then F.int .u64 (((D5 18446744073709551616 y (a.drop n)).1.headD 0:Nat):Int) else g j) (by omega) (by omega) (fun j hj=>by
   have:=NA (v:=(D5 18446744073709551616 y (a.drop n)).1.headD 0) hlen hlt hg j hj
   rw [rep_set] at this
   refine this.trans ?_
   rw [hd]
   rfl)
  rw [Ip]
  unfold cZ
  have ei:((n+1:Nat):Int)-1=(n:Int):=by omega
  rw [ei,Int.toNat_natCast,show Int.toNat 0=0 from rfl]
  have ed:W3 ((D5 18446744073709551616 y (a.drop (n+1))).2:Nat) (a.getD n 0:Nat) (([y]:List Nat).getD 0 0:Nat)=true:=SB.2 (by
   show (0≤_∧_)∧(_∧_)∧(0≤((y:Nat):Int)∧((y:Nat):Int)<_)∧_<((y:Nat):Int)
   omega)
  rw [ed,hg (0+n) (by omega),EE]
  rw [decide_eq_true (show (n:Int) ≥ 0 by omega),decide_eq_true (show (n:Int)<a.length by omega),decide_eq_true (show (0:Int)<(([y]:List Nat).length:Int) by simp),decide_eq_true (show 0+n<a.length by omega),decide_eq_true (DG _),decide_eq_true (show a.length=a.length from rfl)]
  simp only [AF]
  rw [show ([y]:List Nat).getD 0 0=y from rfl,Xs,Xr,Av (by omega) (by omega)]
  rw [hd] at ih
  exact ih
theorem qA {n:Nat} (h0:n ≠ 0) (h:n<18446744073709551616):AM 18446744073709551616 n=[n]:=by
 rw [KU (by omega) h0,Nat.mod_eq_of_lt h,Nat.div_eq_of_lt h,BU]
theorem pY {m n:Nat} (hn:n ≠ 0) (h:n<18446744073709551616 ∨ m<n) (hm:m<18446744073709551616 ^ 400) (hnb:n<18446744073709551616 ^ 400):∃ r1 r2,G99 1000 (AM 18446744073709551616 m) (AM 18446744073709551616 n)=some (r1,r2)∧FLe r1 (AO (AM 18446744073709551616 (m / n)))∧FLe r2 (AO (AM 18446744073709551616 (m % n))):=by
 have lm:=Dr hm
 have ln:=Dr hnb
 clear hm hnb
 unfold G99 T99
 rw [CS,CS,C1,C1,decide_eq_true (show (AM 18446744073709551616 m).length≤1000 by omega),decide_eq_true (show (AM 18446744073709551616 n).length≤1000 by omega)]
 simp only [Bool.and_self,AF]
 have hc:=(Lo m n).2
 by_cases hlt:m<n
 ·rw [decide_eq_true (hc.2 hlt),AF]
  refine ⟨_,_,rfl,?_,?_⟩
  ·rw [Nat.div_eq_of_lt hlt,BU]
   exact FLe.sl fun j hj=>by omega
  ·rw [Nat.mod_eq_of_lt hlt];exact .refl _
 ·have hB:n<18446744073709551616:=by omega
  rw [decide_eq_false (fun hx=>hlt (hc.1 hx)),AJ,qA hn hB]
  rw [show ((([n]:List Nat).length:Int)==1)=true from rfl,AF,decide_eq_true (Int.le_refl _),decide_eq_true (Ep (show (AM 18446744073709551616 m).length≤1000 by omega)),Int.toNat_natCast]
  simp only [AF]
  have hl:=Xq (a:=AM 18446744073709551616 m) (y:=n) (BH (by omega) m) (by omega) (by omega) hB (AM 18446744073709551616 m).length 1000 (fun _=>F.int .u64 0) (Nat.le_refl _) (by omega) (fun j hj=>by
   rw [List.drop_length]
   simp only [D5,List.append_nil,List.getD,List.getElem?_replicate,if_pos hj]
   rfl)
  rw [List.drop_length] at hl
  rw [Av (by omega) (by omega)]
  obtain ⟨v1,v2⟩:=KT 18446744073709551616 (show 0<n by omega) (AM 18446744073709551616 m)
  rw [DD] at v1
  obtain ⟨q1,q2⟩:=QY v1 v2
  refine ⟨_,_,hl,?_,?_⟩
  ·rw [HY (by omega) (Tp (by omega) _ (BH (by omega) m)),q1];exact .refl _
  ·have ok1:okD 18446744073709551616 [(D5 18446744073709551616 n (AM 18446744073709551616 m)).2]:=by intro w hw;simp at hw;omega
   have v3:val 18446744073709551616 [(D5 18446744073709551616 n (AM 18446744073709551616 m)).2]=(D5 18446744073709551616 n (AM 18446744073709551616 m)).2:=by simp [val]
   rw [HY (by omega) ok1,v3,q2];exact .refl _
def KS (m n:Nat):Bool:=!(Nat.beq n 0)&&(Nat.ble (n+1) 18446744073709551616 || Nat.ble (m+1) n)
theorem D4 {m n:Nat}:KS m n=true ↔ n ≠ 0∧(n<18446744073709551616 ∨ m<n):=by
 unfold KS
 rw [Bool.and_eq_true,Bool.or_eq_true,Nat.ble_eq,Nat.ble_eq,Bool.not_eq_true']
 constructor
 ·rintro ⟨h1,h2⟩
  exact ⟨fun e=>(by subst e;cases h1),by omega⟩
 ·rintro ⟨h1,h2⟩
  refine ⟨?_,by omega⟩
  cases hb:Nat.beq n 0 with
  | false=>rfl
  | true=>exact absurd (Nat.eq_of_beq_eq_true hb) h1
def GD (n:Nat) (x:F):Bool:=Ay x&&BD n x&&ND (AP x)
theorem P7 {n:Nat} {x:F} (h:GD n x=true):Ay x=true∧val 18446744073709551616 (AP x)<18446744073709551616 ^ n∧AM 18446744073709551616 (val 18446744073709551616 (AP x))=AP x:=by
 simp only [GD,Bool.and_eq_true] at h
 obtain ⟨⟨h1,h2⟩,h3⟩:=h
 refine ⟨h1,?_,Qa h1 (Dl.1 h3)⟩
 exact Nat.lt_of_lt_of_le (Jo _ (Cg h1)) (Nat.pow_le_pow_right (by omega) (HB h1 h2))
theorem GY {m n:Nat} (h:m<18446744073709551616 ^ n):GD n (AO (AM 18446744073709551616 m))=true:=by
 simp only [GD,Bool.and_eq_true]
 exact ⟨⟨C1 m,Cq h (Nat.le_refl _)⟩,by rw [DX];exact Dl.2 (B8 (by omega) m)⟩
def TM:List F→Bool | [x,y]=>GD 400 x&&GD 400 y&&KS (val 18446744073709551616 (AP x)) (val 18446744073709551616 (AP y)) | _=>false
def bG:List F→F | [x,y]=>.tup [AO (AM 18446744073709551616 (val 18446744073709551616 (AP x) / val 18446744073709551616 (AP y))),AO (AM 18446744073709551616 (val 18446744073709551616 (AP x) % val 18446744073709551616 (AP y)))] | _=>.dflt
theorem okDivW:Ai Tryz.prog 99 TM bG :=
 Ae (c:=AR Tryz.f99) Tryz.func99 (by kernel_rfl) (by kernel_rfl) fun xs hp=>match xs,hp with
 | [x,y],hp=>by
  simp only [TM,Bool.and_eq_true] at hp
  obtain ⟨⟨hx,hy⟩,hd⟩:=hp
  obtain ⟨x1,x2,x3⟩:=P7 hx
  obtain ⟨y1,y2,y3⟩:=P7 hy
  obtain ⟨d1,d2⟩:=D4.1 hd
  obtain ⟨r1,r2,e,f1,f2⟩:=pY d1 d2 x2 y2
  rw [x3,y3] at e
  exact ⟨[AO (AP x),AO (AP y)],_,⟨(Bw x1).1,(Bw y1).1,trivial⟩,t99 1000 _ _ _ _ e,FLe.tup ⟨f1,f2,trivial⟩⟩
def oO:Env:=oP.add 99 (.pure TM bG)
theorem Ec:Ax Tryz.prog oO:=(Env.add_ok D2 okDivW.sp)
end
noncomputable section
/-! ### function 80 -/
def T80 {ρ:Type} (ret:VM ρ) (x:Int) (y:Int):Option ρ :=
 (AC (GD 400 (AO (AM 18446744073709551616 x.natAbs))&&GD 400 (AO (AM 18446744073709551616 y.natAbs))&&KS (val 18446744073709551616 (AP (AO (AM 18446744073709551616 x.natAbs)))) (val 18446744073709551616 (AP (AO (AM 18446744073709551616 y.natAbs)))))
 (AC (Ay (AO (AM 18446744073709551616 (val 18446744073709551616 (AP (AO (AM 18446744073709551616 x.natAbs))) / val 18446744073709551616 (AP (AO (AM 18446744073709551616 y.natAbs))))))&&BD 1000 (AO (AM 18446744073709551616 (val 18446744073709551616 (AP (AO (AM 18446744073709551616 x.natAbs))) / val 18446744073709551616 (AP (AO (AM 18446744073709551616 y.natAbs)))))))
 (AC (Ay (AO (AM 18446744073709551616 (val 18446744073709551616 (AP (AO (AM 18446744073709551616 x.natAbs))) % val 18446744073709551616 (AP (AO (AM 18446744073709551616 y.natAbs))))))&&BD 1000 (AO (AM 18446744073709551616 (val 18446744073709551616 (AP (AO (AM 18446744073709551616 x.natAbs))) % val 18446744073709551616 (AP (AO (AM 18446744073709551616 y.natAbs)))))))
 (AC (decide (sgn (decide (x<0)) (val 18446744073709551616 (AP (AO (AM 18446744073709551616 (val 18446744073709551616 (AP (AO (AM 18446744073709551616 x.natAbs))) % val 18446744073709551616 (AP (AO (AM 18446744073709551616 y.natAbs))))))))<0))
 (AC (BA 400 (AH y))
 (AC (BA 400 (AH (sgn (decide (x<0)) (val 18446744073709551616 (AP (AO (AM 18446744073709551616 (val 18446744073709551616 (AP (AO (AM 18446744073709551616 x.natAbs))) % val 18446744073709551616 (AP (AO (AM 18446744073709551616 y.natAbs))))))))))&&BA 400 (NK [AH y]))
 (AC (decide (y<0))
 (AC (BA 400 (AH (sgn (!decide (x<0)==decide (y<0)) (val 18446744073709551616 (AP (AO (AM 18446744073709551616 (val 18446744073709551616 (AP (AO (AM 18446744073709551616 x.natAbs))) / val 18446744073709551616 (AP (AO (AM 18446744073709551616 y.natAbs))))))))))&&true)
 (ret (AH (AG (AH (sgn (!decide (x<0)==decide (y<0)) (val 18446744073709551616 (AP (AO (AM 18446744073709551616 (val 18446744073709551616 (AP (AO (AM 18446744073709551616 x.natAbs))) / val 18446744073709551616 (AP (AO (AM 18446744073709551616 y.natAbs))))))))))+AG (AD [F.int .i64 1]))) (AH (AG (AH (sgn (decide (x<0)) (val 18446744073709551616 (AP (AO (AM 18446744073709551616 (val 18446744073709551616 (AP (AO (AM 18446744073709551616 x.natAbs))) % val 18446744073709551616 (AP (AO (AM 18446744073709551616 y.natAbs))))))))))+AG (NK [AH y]))))
 none)
 (AC (BA 400 (AH (sgn (!decide (x<0)==decide (y<0)) (val 18446744073709551616 (AP (AO (AM 18446744073709551616 (val 18446744073709551616 (AP (AO (AM 18446744073709551616 x.natAbs))) / val 18446744073709551616 (AP (AO (AM 18446744073709551616 y.natAbs))))))))))&&true)
 (ret (AH (AG (AH (sgn (!decide (x<0)==decide (y<0)) (val 18446744073709551616 (AP (AO (AM 18446744073709551616 (val 18446744073709551616 (AP (AO (AM 18446744073709551616 x.natAbs))) / val 18446744073709551616 (AP (AO (AM 18446744073709551616 y.natAbs))))))))))-AG (AD [F.int .i64 1]))) (AH (AG (AH (sgn (decide (x<0)) (val 18446744073709551616 (AP (AO (AM 18446744073709551616 (val 18446744073709551616 (AP (AO (AM 18446744073709551616 x.natAbs))) % val 18446744073709551616 (AP (AO (AM 18446744073709551616 y.natAbs))))))))))+AG (NK [AH y]))))
 none))
 none)
 none)
 (ret (AH (sgn (!decide (x<0)==decide (y<0)) (val 18446744073709551616 (AP (AO (AM 18446744073709551616 (val 18446744073709551616 (AP (AO (AM 18446744073709551616 x.natAbs))) / val 18446744073709551616 (AP (AO (AM 18446744073709551616 y.natAbs)))))))))) (AH (sgn (decide (x<0)) (val 18446744073709551616 (AP (AO (AM 18446744073709551616 (val 18446744073709551616 (AP (AO (AM 18446744073709551616 x.natAbs))) % val 18446744073709551616 (AP (AO (AM 18446744073709551616 y.natAbs))))))))))))
 none)
 none)
 none)
def G80 (x:Int) (y:Int):Option ((F) × (F)):=T80 (fun a b=>some (a,b)) x y
theorem t80 (x:Int) (y:Int) (a:F) (b:F) (h:G80 x y=some (a,b)):AY Tryz.prog Tryz.f80.results.toList [.code (AR Tryz.f80)] (start Tryz.f80.ntmps ([AH x,AH y].map .f)) (F.tup [a,b]):=by
 refine AY.of_run Ap Ec (T:=[]) (n:=200) ?_
 refine gE (Y:=T80 (fun a b=>some (.ret (F.tup [a,b]))) x y) (by kernel_rfl) ?_
 exact (gS h (fun _ h=>(gS h (fun _ h=>(gS h (fun _ h=>(gS h (fun _ h=>(gS h (fun _ h=>(gS h (fun _ h=>(gS h (fun _ h=>(gS h (fun _ h=>gR (by cases h;rfl)) gN)) (fun _ h=>(gS h (fun _ h=>gR (by cases h;rfl)) gN)))) gN)) gN)) (fun _ h=>gR (by cases h;rfl)))) gN)) gN)) gN)
theorem aK (x y:Int) (hy:y ≠ 0):sgn (!(decide (x<0)==decide (y<0))) (x.natAbs / y.natAbs)=x.tdiv y:=by
 have key:∀ a b:Nat,((a / b:Nat):Int)=(a:Int).tdiv b:=fun a b=>rfl
 rcases Int.natAbs_eq x with hx | hx <;> rcases Int.natAbs_eq y with hy' | hy'
 ·rw [decide_eq_false (show ¬ x<0 by omega),decide_eq_false (show ¬ y<0 by omega)]
  conv=>rhs;rw [hx,hy']
  exact key _ _
 ·rw [decide_eq_false (show ¬ x<0 by omega),decide_eq_true (show y<0 by omega)]
  conv=>rhs;rw [hx,hy',Int.tdiv_neg]
  exact congrArg (- ·) (key _ _)
 ·by_cases h0:x=0
  ·subst h0;simp [sgn]
  rw [decide_eq_true (show x<0 by omega),decide_eq_false (show ¬ y<0 by omega)]
  conv=>rhs;rw [hx,hy',Int.neg_tdiv]
  exact congrArg (- ·) (key _ _)
 ·by_cases h0:x=0
  ·subst h0;simp [sgn]
  rw [decide_eq_true (show x<0 by omega),decide_eq_true (show y<0 by omega)]
  conv=>rhs;rw [hx,hy',Int.neg_tdiv,Int.tdiv_neg,Int.neg_neg]
  exact key _ _
theorem aJ (x y:Int):sgn (decide (x<0)) (x.natAbs % y.natAbs)=x.tmod y:=by
 have key:∀ a b:Nat,((a % b:Nat):Int)=(a:Int).tmod b:=fun a b=>rfl
 have hy:x.tmod y=x.tmod (y.natAbs:Int):=by
  rcases Int.natAbs_eq y with hy | hy
  ·rw [← hy]
  ·conv=>lhs;rw [hy,Int.tmod_neg]
 rw [hy]
 rcases Int.natAbs_eq x with hx | hx
 ·rw [decide_eq_false (show ¬ x<0 by omega)]
  conv=>rhs;rw [hx]
  exact key _ _
 ·by_cases h0:x=0
  ·subst h0;simp [sgn]
  rw [decide_eq_true (show x<0 by omega)]
  conv=>rhs;rw [hx,Int.neg_tmod]
  exact congrArg (- ·) (key _ _)
theorem KQ {x y q r:Int} (h:q*y+r=x) (h0:0≤r) (hr:r<y.natAbs):q=x / y∧r=x % y:=by
 have hy:y ≠ 0:=by omega
 have h1:(r+q*y) / y=r / y+q:=Int.add_mul_ediv_right _ _ hy
 have h2:(r+q*y) % y=r % y:=by rw [Int.add_mul_emod_self_right]
 have e:r+q*y=x:=by omega
 rw [e] at h1 h2
 have h3:r % y=r:=by
  rcases Int.lt_or_lt_of_ne hy with hy | hy
  ·rw [← Int.emod_neg];exact Int.emod_eq_of_lt h0 (by omega)
  ·exact Int.emod_eq_of_lt h0 (by omega)
 have h4:r / y=0:=by
  have:=Int.emod_add_mul_ediv r y
  rw [h3] at this
  have h5:y*(r / y)=0:=by omega
  rcases Int.mul_eq_zero.1 h5 with h6 | h6
  ·exact absurd h6 hy
  ·exact h6
 exact ⟨by omega,by rw [h2,h3]⟩
theorem We {x y:Int} (hy:y ≠ 0) :
  (x.tmod y<0→y<0→x.tdiv y+1=x / y∧x.tmod y+y.natAbs=x % y) ∧
  (x.tmod y<0→¬ y<0→x.tdiv y-1=x / y∧x.tmod y+y.natAbs=x % y) ∧
  (¬ x.tmod y<0→x.tdiv y=x / y∧x.tmod y=x % y):=by
 have h1:=Int.tmod_add_mul_tdiv x y
 have h2:(x.tmod y).natAbs<y.natAbs:=by
  rw [Int.natAbs_tmod]
  exact Nat.mod_lt _ (by omega)
 rw [Int.mul_comm] at h1
 refine ⟨fun hr hn=>KQ ?_ (by omega) (by omega),fun hr hn=>KQ ?_ (by omega) (by omega),fun hr=>KQ (by omega) (by omega) (by omega)⟩
 ·rw [Int.add_mul,Int.one_mul];omega
 ·rw [Int.sub_mul,Int.one_mul];omega
theorem lM {x y:Int} (hy:y ≠ 0) (h:y.natAbs<18446744073709551616 ∨ x.natAbs<y.natAbs) (hx:x.natAbs<18446744073709551616 ^ 399) (hyb:y.natAbs<18446744073709551616 ^ 399):∃ a b,G80 x y=some (a,b)∧a=AH (x / y)∧b=AH (x % y):=by
 have p:18446744073709551616 ^ 399≤18446744073709551616 ^ 400:=Nat.pow_le_pow_right (by omega) (by omega)
 have p1:18446744073709551616 ^ 399+18446744073709551616 ^ 399≤18446744073709551616 ^ 400:=by rw [Nat.pow_succ 18446744073709551616 399];generalize 18446744073709551616 ^ 399=t;omega
 have p2:1≤18446744073709551616 ^ 399:=Nat.pow_pos (by omega)
 have q1:x.natAbs / y.natAbs<18446744073709551616 ^ 400:=Nat.lt_of_le_of_lt (Nat.div_le_self _ _) (Nat.lt_of_lt_of_le hx p)
 have q2:x.natAbs % y.natAbs<18446744073709551616 ^ 400:=Nat.lt_of_le_of_lt (Nat.mod_le _ _) (Nat.lt_of_lt_of_le hx p)
 have q1':(x.tdiv y).natAbs<18446744073709551616 ^ 400:=by rw [Int.natAbs_tdiv];exact q1
 have q2':(x.tmod y).natAbs<18446744073709551616 ^ 400:=by rw [Int.natAbs_tmod];exact q2
 have hx':=Nat.lt_of_lt_of_le hx p
 have hy':=Nat.lt_of_lt_of_le hyb p
 have d:KS x.natAbs y.natAbs=true:=D4.2 ⟨by omega,h⟩
 unfold G80 T80
 simp only [DX,DD,GY hx',GY hy',d,C1,Cq q1 (show 400≤1000 by omega),Cq q2 (show 400≤1000 by omega),Bool.and_self,Bool.and_true,AF,aK x y hy,aJ,CA hy',CA q1',CA q2',NK,AD,Bj]
 have ha:BA 400 (AH ((y.natAbs:Nat):Int))=true:=CA (by rw [Int.natAbs_natCast];exact hy')
 obtain ⟨f1,f2,f3⟩:=We (x:=x) hy
 rw [ha]
 by_cases hr:x.tmod y<0
 ·rw [decide_eq_true hr,AF,Bool.true_and,AF]
  by_cases hn:y<0
  ·obtain ⟨g1,g2⟩:=f1 hr hn
   rw [decide_eq_true hn,AF]
   exact ⟨_,_,rfl,by rw [g1],by rw [g2]⟩
  ·obtain ⟨g1,g2⟩:=f2 hr hn
   rw [decide_eq_false hn,AJ]
   exact ⟨_,_,rfl,by rw [g1],by rw [g2]⟩
 ·obtain ⟨g1,g2⟩:=f3 hr
  rw [decide_eq_false hr,AJ]
  exact ⟨_,_,rfl,by rw [g1],by rw [g2]⟩
def HN (x y:Int):Bool:=KS x.natAbs y.natAbs
def TH:List F→Bool | [x,y]=>BA 399 x&&BA 399 y&&HN (AG x) (AG y) | _=>false
def aW:List F→F | [x,y]=>.tup [AH (AG x / AG y),AH (AG x % AG y)] | _=>.dflt
theorem okOver:Ai Tryz.prog 80 TH aW :=
 Ae (c:=AR Tryz.f80) Tryz.func80 (by kernel_rfl) (by kernel_rfl) fun xs hp=>match xs,hp with
 | [x,y],hp=>by
  simp only [TH,Bool.and_eq_true] at hp
  obtain ⟨⟨hx,hy⟩,hd⟩:=hp
  obtain ⟨d1,d2⟩:=D4.1 hd
  obtain ⟨a,b,e,rfl,rfl⟩:=lM (by omega) d2 (BI hx) (BI hy)
  exact ⟨[AH (AG x),AH (AG y)],_,⟨(Dy hx).1,(Dy hy).1,trivial⟩,t80 _ _ _ _ e,.refl _⟩
/-! ### function 78 -/
def L0 (l:List Int) (n:Int) (i:Int):St:=⟨Ag 2 ((U.hp 0 0) :: (U.hp 1 0) :: Ag 7 ((U.f (slF AH 0 l)) :: (U.f (F.int .i64 n)) :: (U.f (F.int .i64 i)) :: Ag 23 [])),[HO.box [(U.f (F.bool false)),U.nils],HO.box [(U.f (F.bool false)),U.nils]]⟩
def Qp (l:List Int) (o:List Nat) (n:Int) (i:Int):St:=⟨Ag 2 ((U.hp 0 0) :: (U.hp 1 0) :: Ag 7 ((U.f (slF AH 0 l)) :: (U.f (F.int .i64 n)) :: (U.f (F.int .i64 i)) :: Ag 23 [])),[HO.box [(U.f (F.bool false)),U.nils],HO.box [(U.f (F.bool false)),(U.f (AO o))]]⟩
def Ly (l:List Int) (y:List Nat) (n:Int) (i:Int):St:=⟨Ag 2 ((U.hp 0 0) :: (U.hp 1 0) :: Ag 2 (U.nils :: (U.f (AO y)) :: Ag 3 ((U.f (slF AH 0 l)) :: (U.f (F.int .i64 n)) :: (U.f (F.int .i64 i)) :: Ag 23 []))),[HO.box [(U.f (F.bool false)),U.nils],HO.box [(U.f (F.bool false)),U.nils]]⟩
def Lz (l:List Int) (x:List Nat) (y:List Nat) (n:Int) (i:Int):St:=⟨Ag 2 ((U.hp 0 0) :: (U.hp 1 0) :: Ag 2 ((U.f (AO x)) :: (U.f (AO y)) :: Ag 3 ((U.f (slF AH 0 l)) :: (U.f (F.int .i64 n)) :: (U.f (F.int .i64 i)) :: Ag 23 []))),[HO.box [(U.f (F.bool false)),U.nils],HO.box [(U.f (F.bool false)),U.nils]]⟩
def Qo (l:List Int) (o:List Nat) (x:List Nat) (y:List Nat) (n:Int) (i:Int):St:=⟨Ag 2 ((U.hp 0 0) :: (U.hp 1 0) :: Ag 2 ((U.f (AO x)) :: (U.f (AO y)) :: Ag 3 ((U.f (slF AH 0 l)) :: (U.f (F.int .i64 n)) :: (U.f (F.int .i64 i)) :: Ag 23 []))),[HO.box [(U.f (F.bool false)),U.nils],HO.box [(U.f (F.bool false)),(U.f (AO o))]]⟩
abbrev Ov (ρ:Type):=(List Int)→(List Nat)→(Int)→(Int)→Option ρ
abbrev iZ (ρ:Type):=(List Int)→(List Nat)→(List Nat)→(List Nat)→(Int)→(Int)→Option ρ
abbrev iY (ρ:Type):=(List Int)→(List Nat)→(List Nat)→(Int)→(Int)→Option ρ
abbrev Kh (ρ:Type):=(F)→Option ρ
abbrev iX (ρ:Type):=(List Int)→(Int)→(Int)→Option ρ
def T0 {ρ:Type} (ret:Kh ρ) (c3z:iX ρ) (c3:Ov ρ) (c6z:Ov ρ) (c6y:iY ρ) (c6:iZ ρ) (l:List Int) (n:Int) (i:Int):Option ρ :=
 (AC (decide (i<n))
 (AC (decide (0≤i))
 (AC (decide (i<(↑l.length:Int)))
 (c6z (l) (AM 18446744073709551616 (l.getD i.toNat 0).natAbs) (n) (i))
 none)
 none)
 (ret (F.agg [F.bool false,F.sl 0 fun x ↦ F.bool false])))
def dK {ρ:Type} (ret:Kh ρ) (c3z:iX ρ) (c3:Ov ρ) (c6z:Ov ρ) (c6y:iY ρ) (c6:iZ ρ) (l:List Int) (o:List Nat) (n:Int) (i:Int):Option ρ :=
 (AC (decide (i<n))
 (AC (decide (0≤i))
 (AC (decide (i<(↑l.length:Int)))
 (c6 (l) (o) (o) (AM 18446744073709551616 (l.getD i.toNat 0).natAbs) (n) (i))
 none)
 none)
 (ret (F.agg [F.bool false,AO o])))
def Zx {ρ:Type} (ret:Kh ρ) (c3z:iX ρ) (c3:Ov ρ) (c6z:Ov ρ) (c6y:iY ρ) (c6:iZ ρ) (l:List Int) (y:List Nat) (n:Int) (i:Int):Option ρ :=
 (AC (decide ((↑y.length:Int) > 0))
 (AC (GD 400 (AO y)&&KS (val 18446744073709551616 (AP (F.sl 0 fun x ↦ F.bool false))) (val 18446744073709551616 (AP (AO y))))
 (c6y (l) (y) (AP (AO (AM 18446744073709551616 (val 18446744073709551616 (AP (F.sl 0 fun x ↦ F.bool false)) % val 18446744073709551616 (AP (AO y)))))) (n) (i))
 none)
 (c3z (l) (n) (IntKind.i64.wrap (i+1))))
def Zy {ρ:Type} (ret:Kh ρ) (c3z:iX ρ) (c3:Ov ρ) (c6z:Ov ρ) (c6y:iY ρ) (c6:iZ ρ) (l:List Int) (x:List Nat) (y:List Nat) (n:Int) (i:Int):Option ρ :=
 (AC (decide ((↑y.length:Int) > 0))
 (AC (GD 400 (AO x)&&GD 400 (AO y)&&KS (val 18446744073709551616 (AP (AO x))) (val 18446744073709551616 (AP (AO y))))
 (AC (Ay (F.sl (AM 18446744073709551616 (val 18446744073709551616 (AP (AO x)) % val 18446744073709551616 (AP (AO y)))).length fun i ↦ BP ((AM 18446744073709551616 (val 18446744073709551616 (AP (AO x)) % val 18446744073709551616 (AP (AO y)))).getD i 0))&&BD 1000 (F.sl (AM 18446744073709551616 (val 18446744073709551616 (AP (AO x)) % val 18446744073709551616 (AP (AO y)))).length fun i ↦ BP ((AM 18446744073709551616 (val 18446744073709551616 (AP (AO x)) % val 18446744073709551616 (AP (AO y)))).getD i 0)))
 (c6y (l) (y) (AP (AO (AM 18446744073709551616 (val 18446744073709551616 (AP (AO x)) % val 18446744073709551616 (AP (AO y)))))) (n) (i))
 none)
 none)
 (c3 (l) (x) (n) (IntKind.i64.wrap (i+1))))
def qX {ρ:Type} (ret:Kh ρ) (c3z:iX ρ) (c3:Ov ρ) (c6z:Ov ρ) (c6y:iY ρ) (c6:iZ ρ) (l:List Int) (o:List Nat) (x:List Nat) (y:List Nat) (n:Int) (i:Int):Option ρ :=
 (AC (decide ((↑y.length:Int) > 0))
 (AC (GD 400 (AO x)&&GD 400 (AO y)&&KS (val 18446744073709551616 (AP (AO x))) (val 18446744073709551616 (AP (AO y))))
 (AC (Ay (F.sl (AM 18446744073709551616 (val 18446744073709551616 (AP (AO x)) % val 18446744073709551616 (AP (AO y)))).length fun i ↦ BP ((AM 18446744073709551616 (val 18446744073709551616 (AP (AO x)) % val 18446744073709551616 (AP (AO y)))).getD i 0))&&BD 1000 (F.sl (AM 18446744073709551616 (val 18446744073709551616 (AP (AO x)) % val 18446744073709551616 (AP (AO y)))).length fun i ↦ BP ((AM 18446744073709551616 (val 18446744073709551616 (AP (AO x)) % val 18446744073709551616 (AP (AO y)))).getD i 0)))
 (c6 (l) (o) (y) (AP (AO (AM 18446744073709551616 (val 18446744073709551616 (AP (AO x)) % val 18446744073709551616 (AP (AO y)))))) (n) (i))
 none)
 none)
 (c3 (l) (x) (n) (IntKind.i64.wrap (i+1))))
mutual
def IE:Nat→(List Int)→(Int)→(Int)→Option (F)
 | 0,_,_,_=>none
 | k+1,l,n,i=>T0 some (IE k) (Kf k) (Kd k) (Ke k) (M5 k) l n i
 termination_by structural k=>k
def Kf:Nat→(List Int)→(List Nat)→(Int)→(Int)→Option (F)
 | 0,_,_,_,_=>none
 | k+1,l,o,n,i=>dK some (IE k) (Kf k) (Kd k) (Ke k) (M5 k) l o n i
 termination_by structural k=>k
def Kd:Nat→(List Int)→(List Nat)→(Int)→(Int)→Option (F)
 | 0,_,_,_,_=>none
 | k+1,l,y,n,i=>Zx some (IE k) (Kf k) (Kd k) (Ke k) (M5 k) l y n i
 termination_by structural k=>k
def Ke:Nat→(List Int)→(List Nat)→(List Nat)→(Int)→(Int)→Option (F)
 | 0,_,_,_,_,_=>none
 | k+1,l,x,y,n,i=>Zy some (IE k) (Kf k) (Kd k) (Ke k) (M5 k) l x y n i
 termination_by structural k=>k
def M5:Nat→(List Int)→(List Nat)→(List Nat)→(List Nat)→(Int)→(Int)→Option (F)
 | 0,_,_,_,_,_,_=>none
 | k+1,l,o,x,y,n,i=>qX some (IE k) (Kf k) (Kd k) (Ke k) (M5 k) l o x y n i
 termination_by structural k=>k
end
def T78 {ρ:Type} (ret:Kh ρ) (c3z:iX ρ) (c3:Ov ρ) (c6z:Ov ρ) (c6y:iY ρ) (c6:iZ ρ) (l:List Int):Option ρ :=
 (c3z (l) ((↑l.length:Int)) (0))
def G78 (k:Nat) (l:List Int):Option (F):=T78 some (IE k) (Kf k) (Kd k) (Ke k) (M5 k) l
mutual
theorem jM:∀ (k:Nat) (l:List Int) (n:Int) (i:Int) (r:F),IE k l n i=some r→AY Tryz.prog Tryz.f78.results.toList (at_ Tryz.f78 3) (L0 l n i) (r)
 | 0,_,_,_,_,h=>nomatch h
 | k+1,l,n,i,r,h=>by
  refine AY.of_cut Ap Ec (T:=[(3,[2,3,11,12,13],1000),(6,[2,3,6,7,11,12,13],1000)]) (n:=200) ?_
  refine gE (Y:=T0 (fun r=>some (.ret (r))) (fun l n i=>some (.cut (at_ Tryz.f78 3) (L0 l n i))) (fun l o n i=>some (.cut (at_ Tryz.f78 3) (Qp l o n i))) (fun l y n i=>some (.cut (at_ Tryz.f78 6) (Ly l y n i))) (fun l x y n i=>some (.cut (at_ Tryz.f78 6) (Lz l x y n i))) (fun l o x y n i=>some (.cut (at_ Tryz.f78 6) (Qo l o x y n i))) l n i) (by kernel_rfl) ?_
  exact (gS h (fun _ h=>(gS h (fun _ h=>(gS h (fun _ h=>gC (t78_6z k _ _ _ _ r h)) gN)) gN)) (fun _ h=>gR (by cases h;rfl)))
theorem t78_3:∀ (k:Nat) (l:List Int) (o:List Nat) (n:Int) (i:Int) (r:F),Kf k l o n i=some r→AY Tryz.prog Tryz.f78.results.toList (at_ Tryz.f78 3) (Qp l o n i) (r)
 | 0,_,_,_,_,_,h=>nomatch h
 | k+1,l,o,n,i,r,h=>by
  refine AY.of_cut Ap Ec (T:=[(3,[2,3,11,12,13],1000),(6,[2,3,6,7,11,12,13],1000)]) (n:=200) ?_
  refine gE (Y:=dK (fun r=>some (.ret (r))) (fun l n i=>some (.cut (at_ Tryz.f78 3) (L0 l n i))) (fun l o n i=>some (.cut (at_ Tryz.f78 3) (Qp l o n i))) (fun l y n i=>some (.cut (at_ Tryz.f78 6) (Ly l y n i))) (fun l x y n i=>some (.cut (at_ Tryz.f78 6) (Lz l x y n i))) (fun l o x y n i=>some (.cut (at_ Tryz.f78 6) (Qo l o x y n i))) l o n i) (by kernel_rfl) ?_
  exact (gS h (fun _ h=>(gS h (fun _ h=>(gS h (fun _ h=>gC (t78_6 k _ _ _ _ _ _ r h)) gN)) gN)) (fun _ h=>gR (by cases h;rfl)))
theorem t78_6z:∀ (k:Nat) (l:List Int) (y:List Nat) (n:Int) (i:Int) (r:F),Kd k l y n i=some r→AY Tryz.prog Tryz.f78.results.toList (at_ Tryz.f78 6) (Ly l y n i) (r)
 | 0,_,_,_,_,_,h=>nomatch h
 | k+1,l,y,n,i,r,h=>by
  refine AY.of_cut Ap Ec (T:=[(3,[2,3,11,12,13],1000),(6,[2,3,6,7,11,12,13],1000)]) (n:=200) ?_
  refine gE (Y:=Zx (fun r=>some (.ret (r))) (fun l n i=>some (.cut (at_ Tryz.f78 3) (L0 l n i))) (fun l o n i=>some (.cut (at_ Tryz.f78 3) (Qp l o n i))) (fun l y n i=>some (.cut (at_ Tryz.f78 6) (Ly l y n i))) (fun l x y n i=>some (.cut (at_ Tryz.f78 6) (Lz l x y n i))) (fun l o x y n i=>some (.cut (at_ Tryz.f78 6) (Qo l o x y n i))) l y n i) (by kernel_rfl) ?_
  exact (gS h (fun _ h=>(gS h (fun _ h=>gC (jL k _ _ _ _ _ r h)) gN)) (fun _ h=>gC (jM k _ _ _ r h)))
theorem jL:∀ (k:Nat) (l:List Int) (x:List Nat) (y:List Nat) (n:Int) (i:Int) (r:F),Ke k l x y n i=some r→AY Tryz.prog Tryz.f78.results.toList (at_ Tryz.f78 6) (Lz l x y n i) (r)
 | 0,_,_,_,_,_,_,h=>nomatch h
 | k+1,l,x,y,n,i,r,h=>by
  refine AY.of_cut Ap Ec (T:=[(3,[2,3,11,12,13],1000),(6,[2,3,6,7,11,12,13],1000)]) (n:=200) ?_
  refine gE (Y:=Zy (fun r=>some (.ret (r))) (fun l n i=>some (.cut (at_ Tryz.f78 3) (L0 l n i))) (fun l o n i=>some (.cut (at_ Tryz.f78 3) (Qp l o n i))) (fun l y n i=>some (.cut (at_ Tryz.f78 6) (Ly l y n i))) (fun l x y n i=>some (.cut (at_ Tryz.f78 6) (Lz l x y n i))) (fun l o x y n i=>some (.cut (at_ Tryz.f78 6) (Qo l o x y n i))) l x y n i) (by kernel_rfl) ?_
  exact (gS h (fun _ h=>(gS h (fun _ h=>(gS h (fun _ h=>gC (jL k _ _ _ _ _ r h)) gN)) gN)) (fun _ h=>gC (t78_3 k _ _ _ _ r h)))
theorem t78_6:∀ (k:Nat) (l:List Int) (o:List Nat) (x:List Nat) (y:List Nat) (n:Int) (i:Int) (r:F),M5 k l o x y n i=some r→AY Tryz.prog Tryz.f78.results.toList (at_ Tryz.f78 6) (Qo l o x y n i) (r)
 | 0,_,_,_,_,_,_,_,h=>nomatch h
 | k+1,l,o,x,y,n,i,r,h=>by
  refine AY.of_cut Ap Ec (T:=[(3,[2,3,11,12,13],1000),(6,[2,3,6,7,11,12,13],1000)]) (n:=200) ?_
  refine gE (Y:=qX (fun r=>some (.ret (r))) (fun l n i=>some (.cut (at_ Tryz.f78 3) (L0 l n i))) (fun l o n i=>some (.cut (at_ Tryz.f78 3) (Qp l o n i))) (fun l y n i=>some (.cut (at_ Tryz.f78 6) (Ly l y n i))) (fun l x y n i=>some (.cut (at_ Tryz.f78 6) (Lz l x y n i))) (fun l o x y n i=>some (.cut (at_ Tryz.f78 6) (Qo l o x y n i))) l o x y n i) (by kernel_rfl) ?_
  exact (gS h (fun _ h=>(gS h (fun _ h=>(gS h (fun _ h=>gC (t78_6 k _ _ _ _ _ _ r h)) gN)) gN)) (fun _ h=>gC (t78_3 k _ _ _ _ r h)))
end
theorem t78 (k:Nat) (l:List Int) (r:F) (h:G78 k l=some r):AY Tryz.prog Tryz.f78.results.toList [.code (AR Tryz.f78)] (start Tryz.f78.ntmps ([slF AH 0 l].map .f)) (r):=by
 refine AY.of_run Ap Ec (T:=[(3,[2,3,11,12,13],1000),(6,[2,3,6,7,11,12,13],1000)]) (n:=200) ?_
 refine gE (Y:=T78 (fun r=>some (.ret (r))) (fun l n i=>some (.cut (at_ Tryz.f78 3) (L0 l n i))) (fun l o n i=>some (.cut (at_ Tryz.f78 3) (Qp l o n i))) (fun l y n i=>some (.cut (at_ Tryz.f78 6) (Ly l y n i))) (fun l x y n i=>some (.cut (at_ Tryz.f78 6) (Lz l x y n i))) (fun l o x y n i=>some (.cut (at_ Tryz.f78 6) (Qo l o x y n i))) l) (by kernel_rfl) ?_
 exact gC (jM k _ _ _ r h)
def mI (l:List Int):F:=slF AH 0 l
def H9 (n:Nat) (x:F):Bool:=Ci (BA n) x
def Ad (x:F):List Int:=D8 AG x
theorem nQ {l:List Int} {n i:Int} {o:List Nat}:∀ (y x k:Nat),y<18446744073709551616→x<18446744073709551616 ^ 400→y+1≤k →
  ∃ k',k≤k'+(y+1)∧M5 k l o (AM 18446744073709551616 x) (AM 18446744073709551616 y) n i=Kf k' l (AM 18446744073709551616 (Nat.gcd x y)) n (IntKind.i64.wrap (i+1)):=by
 intro y
 induction y using Nat.strongRecOn with
 | _ y ih =>
  intro x k hy hx hk
  obtain ⟨k,rfl⟩:∃ j,k=j+1:=⟨k-1,by omega⟩
  rw [M5]
  unfold qX
  by_cases h0:y=0
  ·subst h0
   rw [BU,show decide (((([]:List Nat).length:Nat):Int) > 0)=false from rfl,AJ,Nat.gcd_zero_right]
   exact ⟨k,by omega,rfl⟩
  ·have hyb:y<18446744073709551616 ^ 400:=Nat.lt_of_lt_of_le hy (by rw [← Nat.pow_one 18446744073709551616];exact Nat.pow_le_pow_right (by omega) (by omega))
   have d:KS x y=true:=D4.2 ⟨h0,.inl hy⟩
   have hm:x % y<y:=Nat.mod_lt _ (by omega)
   have hl:=Dr (show x % y<18446744073709551616 ^ 400 by omega)
   have e1:∀ l:List Nat,(F.sl l.length fun i=>BP (l.getD i 0))=AO l:=fun _=>rfl
   rw [decide_eq_true (Ce.2 h0),AF,GY hx,GY hyb]
   simp only [DX,DD,d,Bool.and_self,AF,e1,C1,Cq (show x % y<18446744073709551616 ^ 400 by omega) (show 400≤1000 by omega)]
   obtain ⟨k',h1,h2⟩:=ih (x % y) hm y k (by omega) hyb (by omega)
   refine ⟨k',by omega,?_⟩
   rw [h2,← XF]
theorem gM {x y b:Nat} (hx:x<b) (hy:y<b):Nat.gcd x y<b:=by
 rcases Nat.eq_zero_or_pos y with h | h
 ·subst h;rwa [Nat.gcd_zero_right]
 ·exact Nat.lt_of_le_of_lt (Nat.gcd_le_right x h) hy
def AZ (g:Nat) (l:List Int):Nat:=l.foldl (fun g z=>Nat.gcd g z.natAbs) g
def Gz:List Int→Nat
 | []=>2
 | z :: l=>z.natAbs+5+Gz l
theorem QX {a:List Int} {x:Int} {rest:List Int} {i:Nat} (h:a.drop i=x :: rest):a.getD i 0=x∧a.drop (i+1)=rest∧i<a.length:=by
 have hi:i<a.length:=by
  rcases Nat.lt_or_ge i a.length with h1 | h1
  ·exact h1
  ·rw [List.drop_eq_nil_of_le h1] at h;cases h
 rw [List.drop_eq_getElem_cons hi] at h
 injection h with h1 h2
 exact ⟨by simp [List.getD,List.getElem?_eq_getElem hi,h1],h2,hi⟩
theorem XE {l:List Int} (hl:l.length≤1000):∀ (rest:List Int) (i g k:Nat),l.drop i=rest→i+rest.length=l.length→g<18446744073709551616 ^ 400→(∀ z ∈ rest,z.natAbs<18446744073709551616)→Gz rest≤k →
  Kf k l (AM 18446744073709551616 g) l.length i=some (.agg [.bool false,AO (AM 18446744073709551616 (AZ g rest))])
 | [],i,g,k,hr,hi,hg,hz,hk=>by
  obtain ⟨k,rfl⟩:∃ j,k=j+1:=⟨k-1,by simp [Gz] at hk;omega⟩
  simp only [List.length_nil,Nat.add_zero] at hi
  subst hi
  rw [Kf]
  unfold dK
  rw [decide_eq_false (by omega),AJ]
  rfl
 | z :: rest,i,g,k,hr,hi,hg,hz,hk=>by
  simp only [Gz] at hk
  obtain ⟨k,rfl⟩:∃ j,k=j+1:=⟨k-1,by omega⟩
  obtain ⟨hx,hr',hlt⟩:=QX hr
  have hzB:=hz z (by simp)
  obtain ⟨k',h1,h2⟩:=nQ (l:=l) (n:=l.length) (i:=i) (o:=AM 18446744073709551616 g) z.natAbs g k hzB hg (by omega)
  rw [Kf]
  unfold dK
  rw [decide_eq_true (show (i:Int)<l.length by omega),decide_eq_true (show (0:Int)≤i by omega),Int.toNat_natCast,hx]
  simp only [AF]
  rw [h2,Av (by omega) (by omega),show (i:Int)+1=((i+1:Nat):Int) by omega]
  have hzb:z.natAbs<18446744073709551616 ^ 400:=Nat.lt_of_lt_of_le hzB (by rw [← Nat.pow_one 18446744073709551616];exact Nat.pow_le_pow_right (by omega) (by omega))
  exact XE hl rest (i+1) (Nat.gcd g z.natAbs) k' hr' (by simp only [List.length_cons] at hi;omega) (gM hg hzb) (fun z hz'=>hz z (by simp [hz'])) (by omega)
theorem XG {l:List Int} (hl:l.length≤1000):∀ (rest:List Int) (i k:Nat),l.drop i=rest→i+rest.length=l.length→(∀ z ∈ rest,z.natAbs<18446744073709551616 ^ 400)→(∀ z ∈ rest.tail,z.natAbs<18446744073709551616)→Gz rest≤k →
  ∃ r,IE k l l.length i=some r∧FLe r (.agg [.bool false,AO (AM 18446744073709551616 (AZ 0 rest))])
 | [],i,k,hr,hi,hb,hz,hk=>by
  obtain ⟨k,rfl⟩:∃ j,k=j+1:=⟨k-1,by simp [Gz] at hk;omega⟩
  simp only [List.length_nil,Nat.add_zero] at hi
  subst hi
  rw [IE]
  unfold T0
  rw [decide_eq_false (by omega),AJ]
  refine ⟨_,rfl,?_⟩
  rw [show AZ 0 []=0 from rfl,BU]
  exact FLe.agg ⟨.refl _,FLe.sl fun j hj=>by omega,trivial⟩
 | z :: rest,i,k,hr,hi,hb,hz,hk=>by
  simp only [Gz] at hk
  obtain ⟨k,rfl⟩:∃ j,k=j+3:=⟨k-3,by omega⟩
  obtain ⟨hx,hr',hlt⟩:=QX hr
  have hzb:=hb z (by simp)
  have hle:i+1+rest.length=l.length:=by simp only [List.length_cons] at hi;omega
  have eg:AZ 0 (z :: rest)=AZ z.natAbs rest:=by
   show AZ (Nat.gcd 0 z.natAbs) rest=_
   rw [Nat.gcd_zero_left]
  rw [eg,IE]
  unfold T0
  rw [decide_eq_true (show (i:Int)<l.length by omega),decide_eq_true (show (0:Int)≤i by omega),Int.toNat_natCast,hx]
  simp only [AF]
  rw [Kd]
  unfold Zx
  have ew:IntKind.i64.wrap ((i:Int)+1)=((i+1:Nat):Int):=by rw [Av (by omega) (by omega)];omega
  by_cases h0:z.natAbs=0
  ·rw [h0,BU,show decide (((([]:List Nat).length:Nat):Int) > 0)=false from rfl,AJ,ew]
   exact XG hl rest (i+1) (k+1) hr' hle (fun z hz'=>hb z (by simp [hz'])) (fun z hz'=>hz z (List.mem_of_mem_tail hz')) (by omega)
  ·have d:KS 0 z.natAbs=true:=D4.2 ⟨h0,.inr (by omega)⟩
   have e0:val 18446744073709551616 (AP (F.sl 0 fun x=>F.bool false))=0:=rfl
   rw [decide_eq_true (Ce.2 h0),AF,GY hzb]
   simp only [e0,DX,DD,d,Bool.and_self,AF,Nat.zero_mod,BU]
   rw [Ke]
   unfold Zy
   rw [show AP (AO [])=[] from rfl,show decide (((([]:List Nat).length:Nat):Int) > 0)=false from rfl,AJ,ew]
   exact ⟨_,XE hl rest (i+1) z.natAbs k hr' hle hzb (fun z hz'=>hz z hz') (by omega),.refl _⟩
def SJ (l:List Int):Bool:=decide (l.length≤1000)&&l.tail.all fun z=>Nat.ble (z.natAbs+1) 18446744073709551616
theorem Ng {l:List Int}:SJ l=true ↔ l.length≤1000∧∀ z ∈ l.tail,z.natAbs<18446744073709551616:=by
 simp only [SJ,Bool.and_eq_true,decide_eq_true_eq,List.all_eq_true,Nat.ble_eq]
 rfl
theorem mH {n:Nat} {x:F} (h:H9 n x=true):FLe x (mI (Ad x))∧FLe (mI (Ad x)) x:=Vj (fun _ h=>num_el h) h
theorem Y7 {n:Nat} {x:F} (h:H9 n x=true):∀ z ∈ Ad x,z.natAbs<18446744073709551616 ^ n:=by
 cases x with
 | sl m g =>
  simp only [H9,Ci,List.all_eq_true,List.mem_range] at h
  intro z hz
  simp only [Ad,D8,List.mem_map,List.mem_range] at hz
  obtain ⟨i,hi,rfl⟩:=hz
  exact BI (h i hi)
 | _=>simp [H9,Ci] at h
theorem mJ (n:Nat):AH (n:Int)=.agg [.bool false,AO (AM 18446744073709551616 n)]:=by
 unfold AH
 rw [decide_eq_false (by omega),Int.natAbs_natCast]
def Yx:List F→Bool | [x]=>H9 400 x&&SJ (Ad x) | _=>false
def kV:List F→F | [x]=>AH (AZ 0 (Ad x):Nat) | _=>.dflt
theorem okGcd:Ai Tryz.prog 78 Yx kV :=
 Ae (c:=AR Tryz.f78) Tryz.func78 (by kernel_rfl) (by kernel_rfl) fun xs hp=>match xs,hp with
 | [x],hp=>by
  simp only [Yx,Bool.and_eq_true] at hp
  obtain ⟨h1,h2⟩:=Ng.1 hp.2
  obtain ⟨r,e,hr⟩:=XG h1 (Ad x) 0 (Gz (Ad x)) rfl (by omega) (Y7 hp.1) h2 (Nat.le_refl _)
  rw [← mJ] at hr
  exact ⟨[mI (Ad x)],_,⟨(mH hp.1).1,trivial⟩,t78 (Gz (Ad x)) _ _ e,hr⟩
def Ze:Env:=(oO.add 80 (.pure TH aW)).add 78 (.pure Yx kV)
theorem SQ:Ax Tryz.prog Ze:=(Env.add_ok (Env.add_ok Ec okOver.sp) okGcd.sp)
end
noncomputable section
def envN16:Env:=Ze.add 100 (.own GX LG Pp (fun _=>.tup [.tup []]))
theorem Ii:Ax Tryz.prog envN16:=(Env.add_ok SQ mF)
end
noncomputable section
/-! ### function 82 -/
def Sj (z:Int) (n:Int):St:=⟨Ag 1 ((U.hp 0 0) :: (U.hp 1 0) :: Ag 1 ((U.hp 2 0) :: Ag 45 [])),[HO.box [(U.f (F.bool (decide (z<0)))),(U.f (AO (AM 18446744073709551616 z.natAbs)))],HO.box [(U.f (F.int .u64 0)),(U.f (F.int .u64 0)),(U.f (F.int .u64 0)),(U.f (F.int .u64 0))],HO.box [(U.f (F.bool (decide (n<0)))),(U.f (AO (AM 18446744073709551616 n.natAbs)))]]⟩
def Si (z:Int) (m:Nat) (g:Nat→F):St:=⟨Ag 1 ((U.hp 0 0) :: (U.hp 1 0) :: Ag 2 ((U.hs 2 m 0 m) :: Ag 44 [])),[HO.box [(U.f (F.bool (decide (z<0)))),(U.f (AO (AM 18446744073709551616 z.natAbs)))],HO.box [(U.f (F.int .u64 0)),(U.f (F.int .u64 0)),(U.f (F.int .u64 0)),(U.f (F.int .u64 0))],HO.arr 1 m g]⟩
def Sh (m:Nat) (g:Nat→F) (n:Int) (i:Int):St:=⟨Ag 2 ((U.hp 0 0) :: Ag 2 ((U.hs 1 m 0 m) :: Ag 18 ((U.f (F.int .i64 n)) :: (U.f (F.int .i64 i)) :: Ag 24 []))),[HO.box [(U.f (F.int .u64 0)),(U.f (F.int .u64 0)),(U.f (F.int .u64 0)),(U.f (F.int .u64 0))],HO.arr 1 m g]⟩
def Nz (m:Nat) (g:Nat→F):St:=⟨Ag 2 ((U.hp 0 0) :: Ag 2 ((U.hs 1 m 0 m) :: Ag 44 [])),[HO.box [(U.f (F.int .u64 0)),(U.f (F.int .u64 0)),(U.f (F.int .u64 0)),(U.f (F.int .u64 0))],HO.arr 1 m g]⟩
abbrev sA (ρ:Type):=(Nat)→(Nat→F)→(Int)→(Int)→Option ρ
abbrev rZ (ρ:Type):=(Int)→(Nat)→(Nat→F)→Option ρ
abbrev Qy (ρ:Type):=(Int)→(Int)→Option ρ
abbrev YK (ρ:Type):=(Nat)→(Nat→F)→Option ρ
def qW {ρ:Type} (ret:(F)→(Bool)→Option ρ) (c4:Qy ρ) (c7:rZ ρ) (c9:sA ρ) (c13:YK ρ) (z:Int) (n:Int):Option ρ :=
 (AC (BA 400 (AH n))
 (AC (decide ((↑(Go.Proofs.YtlefbocihikaoaaGreat.R.bitLen (AG (AH n)).natAbs):Int) > 255))
 (ret (F.agg [F.int .u64 0,F.int .u64 0,F.int .u64 0,F.int .u64 0]) (false))
 (AC (Ay (F.sl (AM 18446744073709551616 n.natAbs).length fun i ↦ BP ((AM 18446744073709551616 n.natAbs).getD i 0))&&BD 1000 (F.sl (AM 18446744073709551616 n.natAbs).length fun i ↦ BP ((AM 18446744073709551616 n.natAbs).getD i 0)))
 (AC (decide (0<(AM 18446744073709551616 n.natAbs).length))
 (AC (decide ((AP (AO (AM 18446744073709551616 n.natAbs))).length=(AP (AO (AM 18446744073709551616 n.natAbs))).length))
 (AC (decide ((AP (AO (AM 18446744073709551616 n.natAbs))).length=(AP (AO (AM 18446744073709551616 n.natAbs))).length))
 (AC (decide ((↑((AP (AO (AM 18446744073709551616 n.natAbs))).length+4):Int)*(((8:Nat):Int)+1)≤(↑BC:Int)))
 (c7 (z) ((AP (AO (AM 18446744073709551616 n.natAbs))).length+4) (fun j ↦ if j<(AP (AO (AM 18446744073709551616 n.natAbs))).length then F.int .u64 (↑((AP (AO (AM 18446744073709551616 n.natAbs))).getD j 0):Int) else F.int .u64 0))
 none)
 none)
 none)
 (AC (decide (((4:Nat):Int)*(((8:Nat):Int)+1)≤(↑BC:Int)))
 (c7 (z) (4) (fun x ↦ F.int .u64 0))
 none))
 none))
 none)
def qV {ρ:Type} (ret:(F)→(Bool)→Option ρ) (c4:Qy ρ) (c7:rZ ρ) (c9:sA ρ) (c13:YK ρ) (z:Int) (m:Nat) (g:Nat→F):Option ρ :=
 (AC (decide (z<0))
 (AC (decide (m=m))
 (c9 (m) (g) ((↑m:Int)) (0))
 none)
 (c13 (m) (g)))
def dI {ρ:Type} (ret:(F)→(Bool)→Option ρ) (c4:Qy ρ) (c7:rZ ρ) (c9:sA ρ) (c13:YK ρ) (m:Nat) (g:Nat→F) (n:Int) (i:Int):Option ρ :=
 (AC (decide (i<n))
 (AC (decide (m=m))
 (AC (decide (0≤i))
 (AC (decide (i<(↑m:Int)))
 (AC (decide (m=m))
 (AC (decide (0+i.toNat<m))
 (AC (decide ((g (0+i.toNat)).cells.length=1))
 (AC (okV (Value.int IntKind.u64 0) ((List.drop 0 (g (0+i.toNat)).cells).headD F.dflt)&&true)
 (AC (decide (m=m))
 (AC (decide (0≤i))
 (AC (decide (i<(↑m:Int)))
 (AC (decide (m=m))
 (AC (decide (0+i.toNat<m))
 (AC (decide ((g (0+i.toNat)).cells.length=1))
 (AC ((CO (g (0+i.toNat)) || true)&&true)
 (c9 (m) (fun j ↦ if j=0+i.toNat then F.int .u64 (Bz BinOp.xor IntKind.u64 (if IntKind.u64.signed=true then -1 else IntKind.u64.max) (Ex ((List.drop 0 (g (0+i.toNat)).cells).headD F.dflt))) else g j) (n) (IntKind.i64.wrap (i+1)))
 none)
 none)
 none)
 none)
 none)
 none)
 none)
 none)
 none)
 none)
 none)
 none)
 none)
 none)
 (c13 (m) (g)))
def Zw {ρ:Type} (ret:(F)→(Bool)→Option ρ) (c4:Qy ρ) (c7:rZ ρ) (c9:sA ρ) (c13:YK ρ) (m:Nat) (g:Nat→F):Option ρ :=
 (AC (decide (m=m))
 (AC (decide (3<(↑m:Int)))
 (AC (decide (m=m))
 (AC (decide (0+3<m))
 (AC (decide ((g (0+3)).cells.length=1))
 (AC (okV (Value.int IntKind.u64 0) ((List.drop 0 (g (0+Int.toNat 3)).cells).headD F.dflt)&&true)
 (AC (decide (m=m))
 (AC (decide (2<(↑m:Int)))
 (AC (decide (m=m))
 (AC (decide (0+2<m))
 (AC (decide ((g (0+2)).cells.length=1))
 (AC (okV (Value.int IntKind.u64 0) ((List.drop 0 (g (0+Int.toNat 2)).cells).headD F.dflt)&&true)
 (AC (decide (m=m))
 (AC (decide (1<(↑m:Int)))
 (AC (decide (m=m))
 (AC (decide (0+1<m))
 (AC (decide ((g (0+1)).cells.length=1))
 (AC (okV (Value.int IntKind.u64 0) ((List.drop 0 (g (0+Int.toNat 1)).cells).headD F.dflt)&&true)
 (AC (decide (m=m))
 (AC (decide (0<(↑m:Int)))
 (AC (decide (m=m))
 (AC (decide (0+0<m))
 (AC (decide ((g (0+0)).cells.length=1))
 (AC (okV (Value.int IntKind.u64 0) ((List.drop 0 (g (0+Int.toNat 0)).cells).headD F.dflt)&&true)
 (ret (F.agg [F.int .u64 (Ex ((List.drop 0 (g (0+Int.toNat 3)).cells).headD F.dflt)),F.int .u64 (Ex ((List.drop 0 (g (0+Int.toNat 2)).cells).headD F.dflt)),F.int .u64 (Ex ((List.drop 0 (g (0+Int.toNat 1)).cells).headD F.dflt)),F.int .u64 (Ex ((List.drop 0 (g (0+Int.toNat 0)).cells).headD F.dflt))]) (true))
 none)
 none)
 none)
 none)
 none)
 none)
 none)
 none)
 none)
 none)
 none)
 none)
 none)
 none)
 none)
 none)
 none)
 none)
 none)
 none)
 none)
 none)
 none)
 none)
mutual
def Oc:Nat→(Int)→(Int)→Option ((F) × (Bool))
 | 0,_,_=>none
 | k+1,z,n=>qW (fun w b=>some (w,b)) (Oc k) (Ob k) (M4 k) (Kc k) z n
 termination_by structural k=>k
def Ob:Nat→(Int)→(Nat)→(Nat→F)→Option ((F) × (Bool))
 | 0,_,_,_=>none
 | k+1,z,m,g=>qV (fun w b=>some (w,b)) (Oc k) (Ob k) (M4 k) (Kc k) z m g
 termination_by structural k=>k
def M4:Nat→(Nat)→(Nat→F)→(Int)→(Int)→Option ((F) × (Bool))
 | 0,_,_,_,_=>none
 | k+1,m,g,n,i=>dI (fun w b=>some (w,b)) (Oc k) (Ob k) (M4 k) (Kc k) m g n i
 termination_by structural k=>k
def Kc:Nat→(Nat)→(Nat→F)→Option ((F) × (Bool))
 | 0,_,_=>none
 | k+1,m,g=>Zw (fun w b=>some (w,b)) (Oc k) (Ob k) (M4 k) (Kc k) m g
 termination_by structural k=>k
end
def T82 {ρ:Type} (ret:(F)→(Bool)→Option ρ) (c4:Qy ρ) (c7:rZ ρ) (c9:sA ρ) (c13:YK ρ) (z:Int):Option ρ :=
 (AC (decide (z<0))
 (AC (BA 400 (AH z)&&true)
 (c4 (z) (AG (AH z)+AG (AD [F.int .i64 1])))
 none)
 (c4 (z) (z)))
def G82 (k:Nat) (z:Int):Option ((F) × (Bool)):=T82 (fun w b=>some (w,b)) (Oc k) (Ob k) (M4 k) (Kc k) z
mutual
theorem t82_4:∀ (k:Nat) (z:Int) (n:Int) (w:F) (b:Bool),Oc k z n=some (w,b)→AY Tryz.prog Tryz.f82.results.toList (at_ Tryz.f82 4) (Sj z n) (F.tup [w,F.bool b])
 | 0,_,_,_,_,h=>nomatch h
 | k+1,z,n,w,b,h=>by
  refine AY.of_cut Ap Ii (T:=[(4,[1,2,4],1000),(7,[1,2,5],1000),(9,[2,5,24,25],1000),(13,[2,5],1000)]) (n:=200) ?_
  refine gE (Y:=qW (fun w b=>some (.ret (F.tup [w,F.bool b]))) (fun z n=>some (.cut (at_ Tryz.f82 4) (Sj z n))) (fun z m g=>some (.cut (at_ Tryz.f82 7) (Si z m g))) (fun m g n i=>some (.cut (at_ Tryz.f82 9) (Sh m g n i))) (fun m g=>some (.cut (at_ Tryz.f82 13) (Nz m g))) z n) (by kernel_rfl) ?_
  exact (gS h (fun _ h=>(gS h (fun _ h=>gR (by cases h;rfl)) (fun _ h=>(gS h (fun _ h=>(gS h (fun _ h=>(gS h (fun _ h=>(gS h (fun _ h=>(gS h (fun _ h=>gC (t82_7 k _ _ _ w b h)) gN)) gN)) gN)) (fun _ h=>(gS h (fun _ h=>gC (t82_7 k _ _ _ w b h)) gN)))) gN)))) gN)
theorem t82_7:∀ (k:Nat) (z:Int) (m:Nat) (g:Nat→F) (w:F) (b:Bool),Ob k z m g=some (w,b)→AY Tryz.prog Tryz.f82.results.toList (at_ Tryz.f82 7) (Si z m g) (F.tup [w,F.bool b])
 | 0,_,_,_,_,_,h=>nomatch h
 | k+1,z,m,g,w,b,h=>by
  refine AY.of_cut Ap Ii (T:=[(4,[1,2,4],1000),(7,[1,2,5],1000),(9,[2,5,24,25],1000),(13,[2,5],1000)]) (n:=200) ?_
  refine gE (Y:=qV (fun w b=>some (.ret (F.tup [w,F.bool b]))) (fun z n=>some (.cut (at_ Tryz.f82 4) (Sj z n))) (fun z m g=>some (.cut (at_ Tryz.f82 7) (Si z m g))) (fun m g n i=>some (.cut (at_ Tryz.f82 9) (Sh m g n i))) (fun m g=>some (.cut (at_ Tryz.f82 13) (Nz m g))) z m g) (by kernel_rfl) ?_
  exact (gS h (fun _ h=>(gS h (fun _ h=>gC (t82_9 k _ _ _ _ w b h)) gN)) (fun _ h=>gC (jK k _ _ w b h)))
theorem t82_9:∀ (k:Nat) (m:Nat) (g:Nat→F) (n:Int) (i:Int) (w:F) (b:Bool),M4 k m g n i=some (w,b)→AY Tryz.prog Tryz.f82.results.toList (at_ Tryz.f82 9) (Sh m g n i) (F.tup [w,F.bool b])
 | 0,_,_,_,_,_,_,h=>nomatch h
 | k+1,m,g,n,i,w,b,h=>by
  refine AY.of_cut Ap Ii (T:=[(4,[1,2,4],1000),(7,[1,2,5],1000),(9,[2,5,24,25],1000),(13,[2,5],1000)]) (n:=200) ?_
  refine gE (Y:=dI (fun w b=>some (.ret (F.tup [w,F.bool b]))) (fun z n=>some (.cut (at_ Tryz.f82 4) (Sj z n))) (fun z m g=>some (.cut (at_ Tryz.f82 7) (Si z m g))) (fun m g n i=>some (.cut (at_ Tryz.f82 9) (Sh m g n i))) (fun m g=>some (.cut (at_ Tryz.f82 13) (Nz m g))) m g n i) (by kernel_rfl) ?_
  exact (gS h (fun _ h=>(gS h (fun _ h=>(gS h (fun _ h=>(gS h (fun _ h=>(gS h (fun _ h=>(gS h (fun _ h=>(gS h (fun _ h=>(gS h (fun _ h=>(gS h (fun _ h=>(gS h (fun _ h=>(gS h (fun _ h=>(gS h (fun _ h=>(gS h (fun _ h=>(gS h (fun _ h=>(gS h (fun _ h=>gC (t82_9 k _ _ _ _ w b h)) gN)) gN)) gN)) gN)) gN)) gN)) gN)) gN)) gN)) gN)) gN)) gN)) gN)) gN)) (fun _ h=>gC (jK k _ _ w b h)))
theorem jK:∀ (k:Nat) (m:Nat) (g:Nat→F) (w:F) (b:Bool),Kc k m g=some (w,b)→AY Tryz.prog Tryz.f82.results.toList (at_ Tryz.f82 13) (Nz m g) (F.tup [w,F.bool b])
 | 0,_,_,_,_,h=>nomatch h
 | k+1,m,g,w,b,h=>by
  refine AY.of_cut Ap Ii (T:=[(4,[1,2,4],1000),(7,[1,2,5],1000),(9,[2,5,24,25],1000),(13,[2,5],1000)]) (n:=200) ?_
  refine gE (Y:=Zw (fun w b=>some (.ret (F.tup [w,F.bool b]))) (fun z n=>some (.cut (at_ Tryz.f82 4) (Sj z n))) (fun z m g=>some (.cut (at_ Tryz.f82 7) (Si z m g))) (fun m g n i=>some (.cut (at_ Tryz.f82 9) (Sh m g n i))) (fun m g=>some (.cut (at_ Tryz.f82 13) (Nz m g))) m g) (by kernel_rfl) ?_
  exact (gS h (fun _ h=>(gS h (fun _ h=>(gS h (fun _ h=>(gS h (fun _ h=>(gS h (fun _ h=>(gS h (fun _ h=>(gS h (fun _ h=>(gS h (fun _ h=>(gS h (fun _ h=>(gS h (fun _ h=>(gS h (fun _ h=>(gS h (fun _ h=>(gS h (fun _ h=>(gS h (fun _ h=>(gS h (fun _ h=>(gS h (fun _ h=>(gS h (fun _ h=>(gS h (fun _ h=>(gS h (fun _ h=>(gS h (fun _ h=>(gS h (fun _ h=>(gS h (fun _ h=>(gS h (fun _ h=>(gS h (fun _ h=>gR (by cases h;rfl)) gN)) gN)) gN)) gN)) gN)) gN)) gN)) gN)) gN)) gN)) gN)) gN)) gN)) gN)) gN)) gN)) gN)) gN)) gN)) gN)) gN)) gN)) gN)) gN)
end
theorem t82 (k:Nat) (z:Int) (w:F) (b:Bool) (h:G82 k z=some (w,b)):AY Tryz.prog Tryz.f82.results.toList [.code (AR Tryz.f82)] (start Tryz.f82.ntmps ([AH z].map .f)) (F.tup [w,F.bool b]):=by
 refine AY.of_run Ap Ii (T:=[(4,[1,2,4],1000),(7,[1,2,5],1000),(9,[2,5,24,25],1000),(13,[2,5],1000)]) (n:=200) ?_
 refine gE (Y:=T82 (fun w b=>some (.ret (F.tup [w,F.bool b]))) (fun z n=>some (.cut (at_ Tryz.f82 4) (Sj z n))) (fun z m g=>some (.cut (at_ Tryz.f82 7) (Si z m g))) (fun m g n i=>some (.cut (at_ Tryz.f82 9) (Sh m g n i))) (fun m g=>some (.cut (at_ Tryz.f82 13) (Nz m g))) z) (by kernel_rfl) ?_
 exact (gS h (fun _ h=>(gS h (fun _ h=>gC (t82_4 k _ _ w b h)) gN)) (fun _ h=>gC (t82_4 k _ _ w b h)))
def CY (z:Int):Bool:=decide (-57896044618658097711785492504343953926634992332820282019728792003956564819968≤z)&&decide (z<57896044618658097711785492504343953926634992332820282019728792003956564819968)
theorem GC {z:Int}:CY z=true ↔ -57896044618658097711785492504343953926634992332820282019728792003956564819968≤z∧z<57896044618658097711785492504343953926634992332820282019728792003956564819968:=by simp only [CY,Bool.and_eq_true,decide_eq_true_eq]
def wd3 (z:Int):Int:=bif CY z then z / 6277101735386680763835789423207666416102355444464034512896 % 18446744073709551616 else 0
def wd2 (z:Int):Int:=bif CY z then z / 340282366920938463463374607431768211456 % 18446744073709551616 else 0
def wd1 (z:Int):Int:=bif CY z then z / 18446744073709551616 % 18446744073709551616 else 0
def wd0 (z:Int):Int:=bif CY z then z % 18446744073709551616 else 0
def OC (z:Int):F:=.agg [.int .u64 (wd3 z),.int .u64 (wd2 z),.int .u64 (wd1 z),.int .u64 (wd0 z)]
theorem RP {z:Int} (h:CY z=false):OC z=.agg [.int .u64 0,.int .u64 0,.int .u64 0,.int .u64 0]:=by
 simp only [OC,wd3,wd2,wd1,wd0,h,cond_false]
theorem not64 {v:Nat} (h:v<18446744073709551616):Bz .xor .u64 (if IntKind.u64.signed=true then -1 else IntKind.u64.max) (v:Int)=((18446744073709551616-1-v:Nat):Int):=by
 rw [show (if IntKind.u64.signed=true then (-1:Int) else IntKind.u64.max)=((18446744073709551615:Nat):Int) from rfl,bXor,IV,IV,VP]
 rw [show BitVec.ofNat 64 18446744073709551615=BitVec.allOnes 64 from rfl,BitVec.allOnes_xor,BitVec.toNat_not,BitVec.toNat_ofNat]
 omega
theorem VR {m k:Nat} {g:Nat→F} {v:Nat→Nat} (hm:4≤m) (hg:∀ j,j<m→g j=BP (v j)) :
  Kc (k+1) m g=some (.agg [BP (v 3),BP (v 2),BP (v 1),BP (v 0)],true):=by
 rw [Kc]
 unfold Zw
 simp only [Int.toNat_zero,show Int.toNat 3=3 from rfl,show Int.toNat 2=2 from rfl,show Int.toNat 1=1 from rfl,Nat.zero_add,hg 0 (by omega),hg 1 (by omega),hg 2 (by omega),hg 3 (by omega),decide_true]
 rw [decide_eq_true (show (3:Int)<m by omega),decide_eq_true (show (2:Int)<m by omega),decide_eq_true (show (1:Int)<m by omega),decide_eq_true (show (0:Int)<m by omega),
  decide_eq_true (show 3<m by omega),decide_eq_true (show 2<m by omega),decide_eq_true (show 1<m by omega),decide_eq_true (show 0<m by omega),decide_eq_true (DG _),decide_eq_true (DG _),decide_eq_true (DG _),decide_eq_true (DG _)]
 rfl
theorem RQ {m:Nat} {v:Nat→Nat} (hv:∀ j,v j<18446744073709551616) (hm:4≤m) (hm2:m≤1000):∀ (d i k:Nat) (g:Nat→F),i+d=m→d+1<k→(∀ j,j<m→g j=BP (if j<i then 18446744073709551616-1-v j else v j)) →
  M4 k m g m i=some (.agg [BP (18446744073709551616-1-v 3),BP (18446744073709551616-1-v 2),BP (18446744073709551616-1-v 1),BP (18446744073709551616-1-v 0)],true)
 | 0,i,k,g,hi,hk,hg=>by
  obtain ⟨k,rfl⟩:∃ j,k=j+2:=⟨k-2,by omega⟩
  rw [M4]
  unfold dI
  rw [decide_eq_false (show ¬ (i:Int)<m by omega),AJ]
  exact VR (v:=fun j=>18446744073709551616-1-v j) hm fun j hj=>by rw [hg j hj,if_pos (by omega)]
 | d+1,i,k,g,hi,hk,hg=>by
  obtain ⟨k,rfl⟩:∃ j,k=j+1:=⟨k-1,by omega⟩
  have e:g i=BP (v i):=by rw [hg i (by omega),if_neg (by omega)]
  rw [M4]
  unfold dI
  rw [Int.toNat_natCast,Nat.zero_add,e,decide_eq_true (show (i:Int)<m by omega),decide_eq_true (show m=m from rfl),decide_eq_true (show (0:Int)≤i by omega),decide_eq_true (show i<m by omega),decide_eq_true (DG _),EE,cW,cC,SC,not64 (hv i),Av (by omega) (by omega)]
  simp only [AF]
  rw [show (i:Int)+1=((i+1:Nat):Int) by omega]
  refine RQ hv hm hm2 d (i+1) k _ (by omega) (by omega) fun j hj=>?_
  by_cases hji:j=i
  ·subst hji
   rw [if_pos rfl,if_pos (by omega)]
   rfl
  ·rw [if_neg hji,hg j hj]
   by_cases hlt:j<i
   ·rw [if_pos hlt,if_pos (by omega)]
   ·rw [if_neg hlt,if_neg (by omega)]
theorem pad_get {l:List Nat} {j:Nat} (h:j<l.length+4):(if j<l.length then F.int .u64 ((l.getD j 0:Nat):Int) else F.int .u64 0)=BP (l.getD j 0):=by
 by_cases hj:j<l.length
 ·rw [if_pos hj];rfl
 ·rw [if_neg hj,DT (by omega)];rfl
theorem PE {z:Int} {m k:Nat} {g:Nat→F} {v:Nat→Nat} (hv:∀ j,v j<18446744073709551616) (hm:4≤m) (hm2:m≤1000) (hk:2000≤k) (hg:∀ j,j<m→g j=BP (v j)) :
  Ob k z m g=some (if z<0 then .agg [BP (18446744073709551616-1-v 3),BP (18446744073709551616-1-v 2),BP (18446744073709551616-1-v 1),BP (18446744073709551616-1-v 0)] else .agg [BP (v 3),BP (v 2),BP (v 1),BP (v 0)],true):=by
 obtain ⟨k,rfl⟩:∃ j,k=j+2:=⟨k-2,by omega⟩
 rw [Ob]
 unfold qV
 by_cases hz:z<0
 ·rw [decide_eq_true hz,if_pos hz,decide_eq_true (show m=m from rfl)]
  exact RQ hv hm hm2 m 0 (k+1) g (by omega) (by omega) fun j hj=>by rw [hg j hj,if_neg (by omega)]
 ·rw [decide_eq_false hz,if_neg hz]
  exact VR (k:=k) hm hg
theorem RR {z n:Int} {k:Nat} (hn:n.natAbs<18446744073709551616 ^ 400) (hk:2001≤k) :
  Oc k z n=some (if 255<bitLen n.natAbs then (.agg [.int .u64 0,.int .u64 0,.int .u64 0,.int .u64 0],false) else
   (if z<0 then .agg [BP (18446744073709551616-1-(AM 18446744073709551616 n.natAbs).getD 3 0),BP (18446744073709551616-1-(AM 18446744073709551616 n.natAbs).getD 2 0),BP (18446744073709551616-1-(AM 18446744073709551616 n.natAbs).getD 1 0),BP (18446744073709551616-1-(AM 18446744073709551616 n.natAbs).getD 0 0)] else .agg [BP ((AM 18446744073709551616 n.natAbs).getD 3 0),BP ((AM 18446744073709551616 n.natAbs).getD 2 0),BP ((AM 18446744073709551616 n.natAbs).getD 1 0),BP ((AM 18446744073709551616 n.natAbs).getD 0 0)],true)):=by
 obtain ⟨k,rfl⟩:∃ j,k=j+1:=⟨k-1,by omega⟩
 have hl:=Dr hn
 have e1:∀ l:List Nat,(F.sl l.length fun i=>BP (l.getD i 0))=AO l:=fun _=>rfl
 have hd:=fun j=>HS (show 0<18446744073709551616 by omega) (BH (B:=18446744073709551616) (by omega) n.natAbs) j
 rw [Oc]
 unfold qW
 simp only [CA hn,Bj,AF,e1,C1,Cq hn (show 400≤1000 by omega),Bool.and_self,DX,decide_true]
 clear hn
 by_cases hb:255<bitLen n.natAbs
 ·rw [if_pos hb,decide_eq_true (show ((bitLen n.natAbs:Nat):Int) > 255 by omega),AF]
 ·rw [if_neg hb,decide_eq_false (show ¬ ((bitLen n.natAbs:Nat):Int) > 255 by omega),AJ]
  by_cases h0:0<(AM 18446744073709551616 n.natAbs).length
  ·rw [decide_eq_true h0]
   simp only [AF]
   rw [decide_eq_true (Ep (show (AM 18446744073709551616 n.natAbs).length+4≤1000 by omega)),AF]
   exact PE hd (by omega) (by omega) (by omega) fun j hj=>pad_get hj
  ·have hnil:AM 18446744073709551616 n.natAbs=[]:=List.eq_nil_of_length_eq_zero (by omega)
   rw [decide_eq_false h0,AJ,decide_eq_true (Ep (show 4≤1000 by omega)),AF,hnil]
   exact PE (v:=fun j=>([]:List Nat).getD j 0) (fun j=>by simp) (by omega) (by omega) (by omega) fun j hj=>by rfl
theorem VQ {n:Nat}:(AM 18446744073709551616 n).getD 0 0=n % 18446744073709551616∧(AM 18446744073709551616 n).getD 1 0=n / 18446744073709551616 % 18446744073709551616∧(AM 18446744073709551616 n).getD 2 0=n / 340282366920938463463374607431768211456 % 18446744073709551616∧(AM 18446744073709551616 n).getD 3 0=n / 6277101735386680763835789423207666416102355444464034512896 % 18446744073709551616:=by
 have h:=fun p=>KV (B:=18446744073709551616) (by omega) (AM 18446744073709551616 n) p (BH (by omega) n)
 rw [DD] at h
 exact ⟨(h 0).trans (by simp),(h 1).trans (by simp),h 2,h 3⟩
theorem jB {z:Int} (hz:z.natAbs<18446744073709551616 ^ 399):G82 3000 z=some (OC z,CY z):=by
 have p:18446744073709551616 ^ 399≤18446744073709551616 ^ 400:=Nat.pow_le_pow_right (by omega) (by omega)
 have p1:18446744073709551616 ^ 399+18446744073709551616 ^ 399≤18446744073709551616 ^ 400:=by rw [Nat.pow_succ 18446744073709551616 399];generalize 18446744073709551616 ^ 399=t;omega
 have p2:1≤18446744073709551616 ^ 399:=Nat.pow_pos (by omega)
 have hz':=Nat.lt_of_lt_of_le hz p
 have hz1:(z+1).natAbs<18446744073709551616 ^ 400:=by
  have:(z+1).natAbs≤z.natAbs+1:=by omega
  generalize 18446744073709551616 ^ 399=t at *
  generalize 18446744073709551616 ^ 400=u at *
  omega
 have e255:(2:Nat) ^ 255=57896044618658097711785492504343953926634992332820282019728792003956564819968:=rfl
 unfold G82 T82
 simp only [CA hz',Bj,AD,Bool.and_true,AF]
 rw [RR hz1 (by omega),RR hz' (by omega)]
 have b1:=CD (n:=(z+1).natAbs) (j:=255)
 have b0:=CD (n:=z.natAbs) (j:=255)
 rw [e255] at b1 b0
 obtain ⟨x0,x1,x2,x3⟩:=VQ (n:=(z+1).natAbs)
 obtain ⟨y0,y1,y2,y3⟩:=VQ (n:=z.natAbs)
 clear hz hz' hz1 p p1 p2 e255
 by_cases hn:z<0
 ·rw [decide_eq_true hn,AF]
  by_cases hw:255<bitLen (z+1).natAbs
  ·have hf:CY z=false:=by
    cases h:CY z with
    | false=>rfl
    | true=>have:=GC.1 h;exfalso;omega
   rw [if_pos hw,hf,RP hf]
  ·have ht:CY z=true:=GC.2 (by omega)
   have e3:BP (18446744073709551616-1-(z+1).natAbs / 6277101735386680763835789423207666416102355444464034512896 % 18446744073709551616)=.int .u64 (z / 6277101735386680763835789423207666416102355444464034512896 % 18446744073709551616):=congrArg (F.int .u64) (by omega)
   have e2:BP (18446744073709551616-1-(z+1).natAbs / 340282366920938463463374607431768211456 % 18446744073709551616)=.int .u64 (z / 340282366920938463463374607431768211456 % 18446744073709551616):=congrArg (F.int .u64) (by omega)
   have e1:BP (18446744073709551616-1-(z+1).natAbs / 18446744073709551616 % 18446744073709551616)=.int .u64 (z / 18446744073709551616 % 18446744073709551616):=congrArg (F.int .u64) (by omega)
   have e0:BP (18446744073709551616-1-(z+1).natAbs % 18446744073709551616)=.int .u64 (z % 18446744073709551616):=congrArg (F.int .u64) (by omega)
   rw [if_neg hw,if_pos hn,ht,x0,x1,x2,x3,e0,e1,e2,e3]
   simp only [OC,wd3,wd2,wd1,wd0,ht,cond_true]
 ·rw [decide_eq_false hn,AJ]
  by_cases hw:255<bitLen z.natAbs
  ·have hf:CY z=false:=by
    cases h:CY z with
    | false=>rfl
    | true=>have:=GC.1 h;exfalso;omega
   rw [if_pos hw,hf,RP hf]
  ·have ht:CY z=true:=GC.2 (by omega)
   have e3:BP (z.natAbs / 6277101735386680763835789423207666416102355444464034512896 % 18446744073709551616)=.int .u64 (z / 6277101735386680763835789423207666416102355444464034512896 % 18446744073709551616):=congrArg (F.int .u64) (by omega)
   have e2:BP (z.natAbs / 340282366920938463463374607431768211456 % 18446744073709551616)=.int .u64 (z / 340282366920938463463374607431768211456 % 18446744073709551616):=congrArg (F.int .u64) (by omega)
   have e1:BP (z.natAbs / 18446744073709551616 % 18446744073709551616)=.int .u64 (z / 18446744073709551616 % 18446744073709551616):=congrArg (F.int .u64) (by omega)
   have e0:BP (z.natAbs % 18446744073709551616)=.int .u64 (z % 18446744073709551616):=congrArg (F.int .u64) (by omega)
   rw [if_neg hw,if_neg hn,ht,y0,y1,y2,y3,e0,e1,e2,e3]
   simp only [OC,wd3,wd2,wd1,wd0,ht,cond_true]
def V1:List F→F | [x]=>.tup [OC (AG x),.bool (CY (AG x))] | _=>.dflt
theorem okWideN:Ai Tryz.prog 82 (LF 399) V1 :=
 Ae (c:=AR Tryz.f82) Tryz.func82 (by kernel_rfl) (by kernel_rfl) fun xs hp=>match xs,hp with
 | [x],hp=>⟨[AH (AG x)],_,⟨(Dy hp).1,trivial⟩,t82 3000 _ _ _ (jB (BI hp)),.refl _⟩
def oN:Env:=Ze.add 82 (.pure (LF 399) V1)
theorem hU:Ax Tryz.prog oN:=(Env.add_ok SQ okWideN.sp)
end
noncomputable section
def Env.or (C D:Env):Env:=fun f=>match C f with
 | .none=>D f
 | s=>s
theorem Env.or_ok {P:Program} {C D:Env} (h:Ax P C) (k:Ax P D):Ax P (C.or D):=by
 intro f
 have h1:=h f
 have k1:=k f
 unfold Env.or
 cases hc:C f <;> rw [hc] at h1 <;> first | exact k1 | exact h1
def cS:Env:=oN.or oE
theorem Zd:Ax Tryz.prog cS:=Env.or_ok hU EG
end
noncomputable section
def Dk (x y w:Int):F:=.agg [.bool (decide (x<0)),AN (AM 4294967296 x.natAbs),.bool (decide (y<0)),AN (AM 4294967296 y.natAbs),.bool (decide (w<0)),AN (AM 4294967296 w.natAbs)]
end
noncomputable section
theorem HE {x:Int}:IntKind.u32.wrap x=x % 4294967296:=by
 unfold IntKind.wrap
 simp [IntKind.bits,IntKind.signed]
theorem Ez (n:Nat):decide (n=n)=true:=decide_eq_true rfl
theorem OD {B:Nat}:∀ l:List Nat,(∀ w ∈ l,w=0)→val B l=0
 | [],_=>rfl
 | x :: l,h=>by
  rw [val,OD l fun w hw=>h w (by simp [hw]),h x (by simp)]
  simp
theorem eW {d:List Nat} {n:Nat} (od:okD 4294967296 d) (hn:n≤d.length) (hz:∀ j,n≤j→j<d.length→d.getD j 0=0) (hl:n=0 ∨ d.getD (n-1) 0 ≠ 0):AM 4294967296 (val 4294967296 d)=d.take n:=by
 have h1:val 4294967296 d=val 4294967296 (d.take n):=by
  conv=>lhs;rw [← List.take_append_drop n d]
  rw [Ir,OD (d.drop n) fun w hw=>by
   obtain ⟨j,hj,rfl⟩:=List.getElem_of_mem hw
   rw [List.length_drop] at hj
   have:=hz (n+j) (by omega) (by omega)
   simpa [List.getD,List.getElem?_eq_getElem (show n+j<d.length by omega)] using this]
  omega
 rw [h1]
 refine Mx (by omega) (fun w hw=>od w (List.mem_of_mem_take hw)) ?_
 rcases hl with hl | hl
 ·subst hl;simp [DH]
 ·unfold DH
  rw [List.getLast?_eq_getElem?,List.length_take,Nat.min_eq_left hn]
  rcases Nat.eq_zero_or_pos n with h0 | h0
  ·subst h0;simp
  ·rw [List.getElem?_take,if_pos (by omega),List.getElem?_eq_getElem (by omega)]
   simp only [List.getD,List.getElem?_eq_getElem (show n-1<d.length by omega),Option.getD_some] at hl
   intro e
   exact hl (Option.some.inj e)
/-! ### function 83 -/
def rJ (s:Bool) (d:List Nat) (n:Int):St:=⟨(U.f (F.bool s)) :: (U.f (AN d)) :: Ag 2 ((U.hp 0 0) :: (U.f (F.int .i64 n)) :: Ag 22 []),[HO.box [(U.f (F.bool false)),U.nils]]⟩
def dH {ρ:Type} (ret:Kh ρ) (c2:(Bool)→(List Nat)→(Int)→Option ρ) (s:Bool) (d:List Nat) (n:Int):Option ρ :=
 (AC (decide (n > 0)==true)
 (AC (decide (0≤IntKind.i64.wrap (n-1)))
 (AC (decide (IntKind.i64.wrap (n-1)<(↑d.length:Int)))
 (AC ((↑(d.getD (IntKind.i64.wrap (n-1)).toNat 0):Int)==0)
 (c2 (s) (d) (IntKind.i64.wrap (n-1)))
 (AC (n==0)
 (ret (F.agg [F.bool false,F.sl 0 fun x ↦ F.bool false]))
 (AC (decide (0≤n))
 (AC (decide (n≤(↑d.length:Int)))
 (ret (F.agg [F.bool s,F.sl (n.toNat-0) fun j ↦ F.int .u32 (↑(d.getD (Int.toNat 0+j) 0):Int)]))
 none)
 none)))
 none)
 none)
 (AC (n==0)
 (ret (F.agg [F.bool false,F.sl 0 fun x ↦ F.bool false]))
 (AC (decide (0≤n))
 (AC (decide (n≤(↑d.length:Int)))
 (ret (F.agg [F.bool s,F.sl (n.toNat-0) fun j ↦ F.int .u32 (↑(d.getD (Int.toNat 0+j) 0):Int)]))
 none)
 none)))
def Ss:Nat→(Bool)→(List Nat)→(Int)→Option (F)
 | 0,_,_,_=>none
 | k+1,s,d,n=>dH some (Ss k) s d n
def T83 {ρ:Type} (ret:Kh ρ) (c2:(Bool)→(List Nat)→(Int)→Option ρ) (s:Bool) (d:List Nat):Option ρ :=
 (c2 (s) (d) ((↑d.length:Int)))
def G83 (k:Nat) (s:Bool) (d:List Nat):Option (F):=T83 some (Ss k) s d
theorem t83_2:∀ (k:Nat) (s:Bool) (d:List Nat) (n:Int) (r:F),Ss k s d n=some r→AY Tryz.prog Tryz.f83.results.toList (at_ Tryz.f83 2) (rJ s d n) (r)
 | 0,_,_,_,_,h=>nomatch h
 | k+1,s,d,n,r,h=>by
  refine AY.of_cut Ap EG (T:=[(2,[0,1,4,5],1000)]) (n:=200) ?_
  refine gE (Y:=dH (fun r=>some (.ret (r))) (fun s d n=>some (.cut (at_ Tryz.f83 2) (rJ s d n))) s d n) (by kernel_rfl) ?_
  exact (gS h (fun _ h=>(gS h (fun _ h=>(gS h (fun _ h=>(gS h (fun _ h=>gC (t83_2 k _ _ _ r h)) (fun _ h=>(gS h (fun _ h=>gR (by cases h;rfl)) (fun _ h=>(gS h (fun _ h=>(gS h (fun _ h=>gR (by cases h;rfl)) gN)) gN)))))) gN)) gN)) (fun _ h=>(gS h (fun _ h=>gR (by cases h;rfl)) (fun _ h=>(gS h (fun _ h=>(gS h (fun _ h=>gR (by cases h;rfl)) gN)) gN)))))
theorem t83 (k:Nat) (s:Bool) (d:List Nat) (r:F) (h:G83 k s d=some r):AY Tryz.prog Tryz.f83.results.toList [.code (AR Tryz.f83)] (start Tryz.f83.ntmps ([F.bool s,AN d].map .f)) (r):=by
 refine AY.of_run Ap EG (T:=[(2,[0,1,4,5],1000)]) (n:=200) ?_
 refine gE (Y:=T83 (fun r=>some (.ret (r))) (fun s d n=>some (.cut (at_ Tryz.f83 2) (rJ s d n))) s d) (by kernel_rfl) ?_
 exact gC (t83_2 k _ _ _ r h)
theorem RU {s:Bool} {d:List Nat} {n:Nat} (od:okD 4294967296 d) (hn:n≤d.length) (hz:∀ j,n≤j→j<d.length→d.getD j 0=0) (hl:n=0 ∨ d.getD (n-1) 0 ≠ 0) :
  ∃ r,(AC ((n:Int)==0) (some (F.agg [F.bool false,F.sl 0 fun x=>F.bool false])) (AC (decide ((0:Int)≤n)) (AC (decide ((n:Int)≤(d.length:Int))) (some (F.agg [F.bool s,F.sl ((n:Int).toNat-0) fun j=>F.int .u32 ((d.getD (Int.toNat 0+j) 0:Nat):Int)])) none) none))=some r∧FLe r (AX (sgn s (val 4294967296 d))):=by
 have hd:=eW od hn hz hl
 rcases Nat.eq_zero_or_pos n with h0 | h0
 ·subst h0
  have hv:val 4294967296 d=0:=by
   have:=congrArg (val 4294967296) hd
   rw [BV] at this
   simpa [val] using this
  rw [show (((0:Nat):Int)==0)=true from rfl,AF,hv,kF]
  refine ⟨_,rfl,?_⟩
  unfold AX
  rw [show AM 4294967296 (Int.natAbs 0)=[] from BU _]
  exact FLe.agg ⟨.refl _,FLe.sl fun j hj=>by omega,trivial⟩
 ·have hv:val 4294967296 d ≠ 0:=by
   intro e
   rw [e,BU] at hd
   have:=congrArg List.length hd
   simp at this
   omega
  rw [show ((n:Int)==0)=false by simp only [beq_eq_false_iff_ne,ne_eq];omega,AJ,decide_eq_true (show (0:Int)≤n by omega),decide_eq_true (show (n:Int)≤d.length by omega),AF,AF]
  refine ⟨_,rfl,?_⟩
  rw [nD,hd,decide_eq_true hv,Bool.and_true]
  refine FLe.agg ⟨.refl _,?_,trivial⟩
  have e:AN (d.take n)=F.sl n fun j=>Cn ((d.take n).getD j 0):=by
   unfold AN slF
   rw [List.length_take,Nat.min_eq_left hn]
  rw [e,Int.toNat_natCast,Nat.sub_zero]
  exact FLe.sl fun j hj=>by
   rw [show Int.toNat 0+j=j by omega]
   simp [List.getD,List.getElem?_take,hj,Cn]
theorem PL {s:Bool} {d:List Nat} (od:okD 4294967296 d) (hd:d.length≤100000):∀ (n k:Nat),n≤d.length→(∀ j,n≤j→j<d.length→d.getD j 0=0)→n<k→∃ r,Ss k s d n=some r∧FLe r (AX (sgn s (val 4294967296 d)))
 | _,0,_,_,hk=>by omega
 | 0,k+1,hn,hz,hk=>by
  rw [Ss]
  unfold dH
  rw [show (decide (((0:Nat):Int) > 0)==true)=false from rfl,AJ]
  exact RU od hn hz (.inl rfl)
 | n+1,k+1,hn,hz,hk=>by
  rw [Ss]
  unfold dH
  have ei:IntKind.i64.wrap (((n+1:Nat):Int)-1)=(n:Int):=by rw [Av (by omega) (by omega)];omega
  rw [ei,decide_eq_true (show ((n+1:Nat):Int) > 0 by omega),show (true==true)=true from rfl,decide_eq_true (show (0:Int)≤n by omega),decide_eq_true (show (n:Int)<d.length by omega),Int.toNat_natCast (n:=n)]
  simp only [AF]
  by_cases h0:d.getD n 0=0
  ·rw [h0,show (((0:Nat):Int)==0)=true from rfl,AF]
   refine PL od hd n k (by omega) (fun j h1 h2=>?_) (by omega)
   rcases Nat.eq_or_lt_of_le h1 with rfl | h
   ·exact h0
   ·exact hz j h h2
  ·rw [show ((d.getD n 0:Int)==0)=false by simp only [beq_eq_false_iff_ne,ne_eq];omega,AJ]
   exact RU od hn hz (.inr h0)
def Pk:List F→Bool | [.bool _,x]=>A4 x&&BD 2000 x | _=>false
def V2:List F→F | [.bool s,x]=>AX (sgn s (val 4294967296 (AS x))) | _=>.dflt
theorem okTrim3:Ai Tryz.prog 83 Pk V2 :=
 Ae (c:=AR Tryz.f83) Tryz.func83 (by kernel_rfl) (by kernel_rfl) fun xs hp=>match xs,hp with
 | [.bool s,x],hp=>by
  simp only [Pk,Bool.and_eq_true] at hp
  have hl:=GA hp.1 hp.2
  obtain ⟨r,e,hr⟩:=PL (s:=s) (Ca hp.1) (by omega) (AS x).length 3000 (Nat.le_refl _) (fun j h1 h2=>by omega) (by omega)
  exact ⟨[.bool s,AN (AS x)],_,⟨.refl _,(Bk hp.1).1,trivial⟩,t83 3000 _ _ _ e,hr⟩
/-! ### function 85 -/
def rG (a:List Nat) (b:List Nat) (i:Int):St:=⟨(U.f (AN a)) :: (U.f (AN b)) :: Ag 3 ((U.f (F.int .i64 i)) :: Ag 35 []),[]⟩
def dF {ρ:Type} (ret:(Int)→Option ρ) (c6:(List Nat)→(List Nat)→(Int)→Option ρ) (a:List Nat) (b:List Nat) (i:Int):Option ρ :=
 (AC (decide (i ≥ 0))
 (AC (decide (0≤i))
 (AC (decide (i<(↑a.length:Int)))
 (AC (decide (0≤i))
 (AC (decide (i<(↑b.length:Int)))
 (AC (decide ((↑(a.getD i.toNat 0):Int)<(↑(b.getD i.toNat 0):Int)))
 (ret (-1))
 (AC (decide (0≤i))
 (AC (decide (i<(↑a.length:Int)))
 (AC (decide (0≤i))
 (AC (decide (i<(↑b.length:Int)))
 (AC (decide ((↑(a.getD i.toNat 0):Int) > (↑(b.getD i.toNat 0):Int)))
 (ret (1))
 (c6 (a) (b) (IntKind.i64.wrap (i-1))))
 none)
 none)
 none)
 none))
 none)
 none)
 none)
 none)
 (ret (0)))
def Sr:Nat→(List Nat)→(List Nat)→(Int)→Option (Int)
 | 0,_,_,_=>none
 | k+1,a,b,i=>dF some (Sr k) a b i
def T85 {ρ:Type} (ret:(Int)→Option ρ) (c6:(List Nat)→(List Nat)→(Int)→Option ρ) (a:List Nat) (b:List Nat):Option ρ :=
 (AC ((↑a.length:Int) != (↑b.length:Int))
 (AC (decide ((↑a.length:Int)<(↑b.length:Int)))
 (ret (-1))
 (ret (1)))
 (c6 (a) (b) (IntKind.i64.wrap ((↑a.length:Int)-1))))
def G85 (k:Nat) (a:List Nat) (b:List Nat):Option (Int):=T85 some (Sr k) a b
theorem t85_6:∀ (k:Nat) (a:List Nat) (b:List Nat) (i:Int) (r:Int),Sr k a b i=some r→AY Tryz.prog Tryz.f85.results.toList (at_ Tryz.f85 6) (rG a b i) (F.int .i64 r)
 | 0,_,_,_,_,h=>nomatch h
 | k+1,a,b,i,r,h=>by
  refine AY.of_cut Ap EG (T:=[(6,[0,1,5],1000)]) (n:=200) ?_
  refine gE (Y:=dF (fun r=>some (.ret (F.int .i64 r))) (fun a b i=>some (.cut (at_ Tryz.f85 6) (rG a b i))) a b i) (by kernel_rfl) ?_
  exact (gS h (fun _ h=>(gS h (fun _ h=>(gS h (fun _ h=>(gS h (fun _ h=>(gS h (fun _ h=>(gS h (fun _ h=>gR (by cases h;rfl)) (fun _ h=>(gS h (fun _ h=>(gS h (fun _ h=>(gS h (fun _ h=>(gS h (fun _ h=>(gS h (fun _ h=>gR (by cases h;rfl)) (fun _ h=>gC (t85_6 k _ _ _ r h)))) gN)) gN)) gN)) gN)))) gN)) gN)) gN)) gN)) (fun _ h=>gR (by cases h;rfl)))
theorem t85 (k:Nat) (a:List Nat) (b:List Nat) (r:Int) (h:G85 k a b=some r):AY Tryz.prog Tryz.f85.results.toList [.code (AR Tryz.f85)] (start Tryz.f85.ntmps ([AN a,AN b].map .f)) (F.int .i64 r):=by
 refine AY.of_run Ap EG (T:=[(6,[0,1,5],1000)]) (n:=200) ?_
 refine gE (Y:=T85 (fun r=>some (.ret (F.int .i64 r))) (fun a b i=>some (.cut (at_ Tryz.f85 6) (rG a b i))) a b) (by kernel_rfl) ?_
 exact (gS h (fun _ h=>(gS h (fun _ h=>gR (by cases h;rfl)) (fun _ h=>gR (by cases h;rfl)))) (fun _ h=>gC (t85_6 k _ _ _ r h)))
theorem SY {a b:List Nat} (oa:okD 4294967296 a) (ob:okD 4294967296 b) (hl:a.length=b.length) (hn:a.length≤100000) :
  ∀ (n k:Nat) (i:Int),i=(n:Int)-1→n≤a.length→(∀ j,n≤j→j<a.length→a.getD j 0=b.getD j 0)→n<k→Sr k a b i=some ((val 4294967296 a:Int)-val 4294967296 b).sign
 | _,0,_,_,_,_,hk=>by omega
 | 0,k+1,i,hi,_,he,_=>by
  subst hi
  have hab:a=b:=List.ext_getElem hl fun j h1 h2=>by
   have:=he j (Nat.zero_le _) h1
   simpa [List.getD,List.getElem?_eq_getElem h1,List.getElem?_eq_getElem h2] using this
  subst hab
  rw [Sr]
  unfold dF
  rw [decide_eq_false (by omega),AJ,Int.sub_self]
  rfl
 | n+1,k+1,i,hi,hna,he,hk=>by
  obtain rfl:i=(n:Int):=by omega
  rw [Sr]
  unfold dF
  rw [decide_eq_true (show (n:Int) ≥ 0 by omega),decide_eq_true (show (n:Int)<a.length by omega),decide_eq_true (show (n:Int)<b.length by omega),Int.toNat_natCast]
  simp only [AF]
  by_cases hlt:a.getD n 0<b.getD n 0
  ·have hv:=MA (by omega) n a b oa ob hl (by omega) (fun j h1 h2=>he j h1 h2) hlt
   rw [decide_eq_true (show (a.getD n 0:Int)<b.getD n 0 by omega),AF,Int.sign_eq_neg_one_of_neg (by omega)]
  ·rw [decide_eq_false (show ¬ (a.getD n 0:Int)<b.getD n 0 by omega),AJ]
   by_cases hgt:b.getD n 0<a.getD n 0
   ·have hv:=MA (B:=4294967296) (by omega) n b a ob oa hl.symm (by omega) (fun j h1 h2=>(he j h1 (by omega)).symm) hgt
    rw [decide_eq_true (show (a.getD n 0:Int) > b.getD n 0 by omega),AF,Int.sign_eq_one_of_pos (by omega)]
   ·rw [decide_eq_false (show ¬ (a.getD n 0:Int) > b.getD n 0 by omega),AJ]
    refine SY oa ob hl hn n k _ (by rw [Av (by omega) (by omega)]) (by omega) (fun j h1 h2=>?_) (by omega)
    rcases Nat.eq_or_lt_of_le h1 with rfl | h
    ·omega
    ·exact he j h h2
theorem qE {m n:Nat} (hm:m<4294967296 ^ 800) (hn:n<4294967296 ^ 800):G85 1000 (AM 4294967296 m) (AM 4294967296 n)=some ((m:Int)-n).sign:=by
 have lm:=Cw hm
 have ln:=Cw hn
 have em:=BV m
 have en:=BV n
 clear hm hn
 unfold G85 T85
 by_cases hl:(AM 4294967296 m).length=(AM 4294967296 n).length
 ·rw [show (((AM 4294967296 m).length:Int) != ((AM 4294967296 n).length:Int))=false by simp [hl],AJ]
  have:=SY (BH (B:=4294967296) (by omega) m) (BH (B:=4294967296) (by omega) n) hl (by omega) (AM 4294967296 m).length 1000 _ rfl (Nat.le_refl _) (fun j h1 h2=>by omega) (by omega)
  rw [em,en] at this
  rw [Av (by omega) (by omega)]
  exact this
 ·rw [show (((AM 4294967296 m).length:Int) != ((AM 4294967296 n).length:Int))=true by simp only [bne_iff_ne,ne_eq];omega,AF]
  rcases Nat.lt_or_gt_of_ne hl with h | h
  ·have hv:=DW (B:=4294967296) (by omega) (BH (by omega) m) (B8 (by omega) n) h
   rw [em,en] at hv
   rw [decide_eq_true (show ((AM 4294967296 m).length:Int)<(AM 4294967296 n).length by omega),AF,Int.sign_eq_neg_one_of_neg (by omega)]
  ·have hv:=DW (B:=4294967296) (by omega) (BH (by omega) n) (B8 (by omega) m) h
   rw [em,en] at hv
   rw [decide_eq_false (show ¬ ((AM 4294967296 m).length:Int)<(AM 4294967296 n).length by omega),AJ,Int.sign_eq_one_of_pos (by omega)]
def Cc (n:Nat) (x:F):Bool:=A4 x&&BD n x&&ND (AS x)
theorem GZ {n:Nat} {x:F} (h:Cc n x=true):A4 x=true∧val 4294967296 (AS x)<4294967296 ^ n∧AM 4294967296 (val 4294967296 (AS x))=AS x:=by
 simp only [Cc,Bool.and_eq_true] at h
 obtain ⟨⟨h1,h2⟩,h3⟩:=h
 refine ⟨h1,?_,OX h1 (Dl.1 h3)⟩
 exact Nat.lt_of_lt_of_le (Jo _ (Ca h1)) (Nat.pow_le_pow_right (by omega) (GA h1 h2))
theorem CQ {m n:Nat} (h:m<4294967296 ^ n):Cc n (AN (AM 4294967296 m))=true:=by
 simp only [Cc,Bool.and_eq_true]
 exact ⟨⟨ED m,DS h (Nat.le_refl _)⟩,by rw [C6];exact Dl.2 (B8 (by omega) m)⟩
def TO:List F→Bool | [x,y]=>Cc 800 x&&Cc 800 y | _=>false
def bL:List F→F | [x,y]=>.int .i64 ((val 4294967296 (AS x):Int)-val 4294967296 (AS y)).sign | _=>.dflt
theorem okCmp3:Ai Tryz.prog 85 TO bL :=
 Ae (c:=AR Tryz.f85) Tryz.func85 (by kernel_rfl) (by kernel_rfl) fun xs hp=>match xs,hp with
 | [x,y],hp=>by
  simp only [TO,Bool.and_eq_true] at hp
  obtain ⟨x1,x2,x3⟩:=GZ hp.1
  obtain ⟨y1,y2,y3⟩:=GZ hp.2
  have e:=qE x2 y2
  rw [x3,y3] at e
  exact ⟨[AN (AS x),AN (AS y)],_,⟨(Bk x1).1,(Bk y1).1,trivial⟩,t85 1000 _ _ _ e,.refl _⟩
/-! ### function 84 -/
def rH (a:List Nat) (b:List Nat) (m:Nat) (g:Nat→F) (c:Int) (i:Int):St:=⟨(U.f (AN a)) :: (U.f (AN b)) :: Ag 3 ((U.hs 0 m 0 m) :: (U.f (F.int .u64 c)) :: (U.f (F.int .i64 i)) :: Ag 50 []),[HO.arr 1 m g]⟩
def dG {ρ:Type} (ret:Kh ρ) (c6:Ow ρ) (a:List Nat) (b:List Nat) (m:Nat) (g:Nat→F) (c:Int) (i:Int):Option ρ :=
 (AC (decide (i<(↑a.length:Int)))
 (AC (decide (0≤i))
 (AC (decide (i<(↑a.length:Int)))
 (AC (decide (i<(↑b.length:Int)))
 (AC (decide (0≤i))
 (AC (decide (i<(↑b.length:Int)))
 (AC (decide (m=m))
 (AC (decide (m=m))
 (AC (decide ((↑(m+1):Int)*(((4:Nat):Int)+1)≤(↑BC:Int)))
 (c6 (a) (b) (m+1) (fun j ↦ if j<m then g j else F.int .u32 (IntKind.u32.wrap (IntKind.u64.wrap (IntKind.u64.wrap (c+IntKind.u64.wrap (↑(a.getD i.toNat 0):Int))+IntKind.u64.wrap (↑(b.getD i.toNat 0):Int))))) ((IntKind.u64.wrap (IntKind.u64.wrap (c+IntKind.u64.wrap (↑(a.getD i.toNat 0):Int))+IntKind.u64.wrap (↑(b.getD i.toNat 0):Int))).fdiv (2 ^ min (Int.toNat 32) IntKind.u64.bits)) (IntKind.i64.wrap (i+1)))
 none)
 none)
 none)
 none)
 none)
 (AC (decide (m=m))
 (AC (decide (m=m))
 (AC (decide ((↑(m+1):Int)*(((4:Nat):Int)+1)≤(↑BC:Int)))
 (c6 (a) (b) (m+1) (fun j ↦ if j<m then g j else F.int .u32 (IntKind.u32.wrap (IntKind.u64.wrap (c+IntKind.u64.wrap (↑(a.getD i.toNat 0):Int))))) ((IntKind.u64.wrap (c+IntKind.u64.wrap (↑(a.getD i.toNat 0):Int))).fdiv (2 ^ min (Int.toNat 32) IntKind.u64.bits)) (IntKind.i64.wrap (i+1)))
 none)
 none)
 none))
 none)
 none)
 (AC (decide (c > 0))
 (AC (decide (m=m))
 (AC (decide (m=m))
 (AC (decide ((↑(m+1):Int)*(((4:Nat):Int)+1)≤(↑BC:Int)))
 (AC (decide (m+1=m+1))
 (ret (F.sl (m+1) fun j ↦ if j<m then g j else F.int .u32 (IntKind.u32.wrap c)))
 none)
 none)
 none)
 none)
 (AC (decide (m=m))
 (ret (F.sl m g))
 none)))
def Qt:Nat→(List Nat)→(List Nat)→(Nat)→(Nat→F)→(Int)→(Int)→Option (F)
 | 0,_,_,_,_,_,_=>none
 | k+1,a,b,m,g,c,i=>dG some (Qt k) a b m g c i
def T84 {ρ:Type} (ret:Kh ρ) (c6:Ow ρ) (a:List Nat) (b:List Nat):Option ρ :=
 (AC (decide ((↑a.length:Int)<(↑b.length:Int)))
 (AC (decide (0≤IntKind.i64.wrap ((↑b.length:Int)+1)))
 (AC (decide (IntKind.i64.wrap ((↑b.length:Int)+1)*(((4:Nat):Int)+1)≤(↑BC:Int)))
 (c6 (b) (a) (0) (fun x ↦ F.int .u32 0) (0) (0))
 none)
 none)
 (AC (decide (0≤IntKind.i64.wrap ((↑a.length:Int)+1)))
 (AC (decide (IntKind.i64.wrap ((↑a.length:Int)+1)*(((4:Nat):Int)+1)≤(↑BC:Int)))
 (c6 (a) (b) (0) (fun x ↦ F.int .u32 0) (0) (0))
 none)
 none))
def G84 (k:Nat) (a:List Nat) (b:List Nat):Option (F):=T84 some (Qt k) a b
theorem aG:∀ (k:Nat) (a:List Nat) (b:List Nat) (m:Nat) (g:Nat→F) (c:Int) (i:Int) (r:F),Qt k a b m g c i=some r→AY Tryz.prog Tryz.f84.results.toList (at_ Tryz.f84 6) (rH a b m g c i) (r)
 | 0,_,_,_,_,_,_,_,h=>nomatch h
 | k+1,a,b,m,g,c,i,r,h=>by
  refine AY.of_cut Ap EG (T:=[(6,[0,1,5,6,7],1000)]) (n:=200) ?_
  refine gE (Y:=dG (fun r=>some (.ret (r))) (fun a b m g c i=>some (.cut (at_ Tryz.f84 6) (rH a b m g c i))) a b m g c i) (by kernel_rfl) ?_
  exact (gS h (fun _ h=>(gS h (fun _ h=>(gS h (fun _ h=>(gS h (fun _ h=>(gS h (fun _ h=>(gS h (fun _ h=>(gS h (fun _ h=>(gS h (fun _ h=>(gS h (fun _ h=>gC (aG k _ _ _ _ _ _ r h)) gN)) gN)) gN)) gN)) gN)) (fun _ h=>(gS h (fun _ h=>(gS h (fun _ h=>(gS h (fun _ h=>gC (aG k _ _ _ _ _ _ r h)) gN)) gN)) gN)))) gN)) gN)) (fun _ h=>(gS h (fun _ h=>(gS h (fun _ h=>(gS h (fun _ h=>(gS h (fun _ h=>(gS h (fun _ h=>gR (by cases h;rfl)) gN)) gN)) gN)) gN)) (fun _ h=>(gS h (fun _ h=>gR (by cases h;rfl)) gN)))))
theorem t84 (k:Nat) (a:List Nat) (b:List Nat) (r:F) (h:G84 k a b=some r):AY Tryz.prog Tryz.f84.results.toList [.code (AR Tryz.f84)] (start Tryz.f84.ntmps ([AN a,AN b].map .f)) (r):=by
 refine AY.of_run Ap EG (T:=[(6,[0,1,5,6,7],1000)]) (n:=200) ?_
 refine gE (Y:=T84 (fun r=>some (.ret (r))) (fun a b m g c i=>some (.cut (at_ Tryz.f84 6) (rH a b m g c i))) a b) (by kernel_rfl) ?_
 exact (gS h (fun _ h=>(gS h (fun _ h=>(gS h (fun _ h=>gC (aG k _ _ _ _ _ _ r h)) gN)) gN)) (fun _ h=>(gS h (fun _ h=>(gS h (fun _ h=>gC (aG k _ _ _ _ _ _ r h)) gN)) gN)))
theorem DK {n:Nat} (h:n≤3000):(n:Int)*(((4:Nat):Int)+1)≤((BC:Nat):Int):=by
 rw [DL]
 omega
theorem Nw {a b:List Nat} (oa:okD 4294967296 a) (ob:okD 4294967296 b) (hn:a.length≤2000):∀ (rest:List Nat) (i c k m:Nat) (o:List Nat) (g:Nat→F),a.drop i=rest→o.length=i→i+rest.length=a.length→c≤1 →
  EK Cn 0 m g o→rest.length<k→∃ rn rg,Qt k a b m g c i=some (F.sl rn rg)∧EK Cn 0 rn rg (o++Jj 4294967296 rest (b.drop i) c)
 | _,_,_,0,_,_,_,_,_,_,_,_,h=>by omega
 | [],i,c,k+1,m,o,g,hr,ho,hi,hc,hg,_=>by
  simp only [List.length_nil,Nat.add_zero] at hi
  subst hi
  obtain ⟨rfl,hg'⟩:=hg
  rw [Qt]
  unfold dG
  rw [decide_eq_false (show ¬ (a.length:Int)<a.length by omega),AJ]
  by_cases h0:c=0
  ·subst h0
   rw [decide_eq_false (show ¬ ((0:Nat):Int) > 0 by omega),AJ,Ez,AF]
   exact ⟨_,_,rfl,by simp only [Jj,if_true,List.append_nil];exact ⟨rfl,hg'⟩⟩
  ·rw [decide_eq_true (show (c:Int) > 0 by omega),AF,Ez,AF,AF,decide_eq_true (DK (show o.length+1≤3000 by omega)),AF,Ez,AF]
   refine ⟨_,_,rfl,?_⟩
   simp only [Jj,if_neg h0]
   have:=EK.push (enc:=Cn) (d:=0) ⟨rfl,hg'⟩ c
   have e:IntKind.u32.wrap (c:Int)=(c:Int):=by rw [HE];omega
   rw [e]
   exact this
 | x :: rest,i,c,k+1,m,o,g,hr,ho,hi,hc,hg,hk=>by
  obtain ⟨hx,hr',hia⟩:=Im hr
  have hxb:=DC oa hia
  have hyb:=HS (by omega) ob i
  have hm:m=o.length:=hg.1
  obtain ⟨rn,rg,e1,e2⟩:=Nw oa ob hn rest (i+1) ((x+b.getD i 0+c) / 4294967296) k (m+1) (o++[(x+b.getD i 0+c) % 4294967296]) _ hr' (by simp [ho]) (by simp only [List.length_cons] at hi;omega) (by omega) (hg.push _) (by simp at hk;omega)
  have ei:IntKind.i64.wrap ((i:Int)+1)=((i+1:Nat):Int):=by rw [Av (by omega) (by omega)];omega
  have w0:IntKind.u64.wrap ((a.getD i 0:Nat):Int)=(a.getD i 0:Nat):=CJ (by omega)
  have w1:IntKind.u64.wrap ((b.getD i 0:Nat):Int)=(b.getD i 0:Nat):=CJ (by omega)
  have w2:IntKind.u64.wrap ((c:Int)+(a.getD i 0:Nat))=((c+a.getD i 0:Nat):Int):=by rw [DR];omega
  have w3:IntKind.u64.wrap (((c+a.getD i 0:Nat):Int)+(b.getD i 0:Nat))=((c+a.getD i 0+b.getD i 0:Nat):Int):=by rw [DR];omega
  have w4:∀ t:Nat,F.int .u32 (IntKind.u32.wrap (t:Int))=Cn (t % 4294967296):=fun t=>congrArg (F.int .u32) (by rw [HE];omega)
  have goal:Qt k a b (m+1) (fun j=>if j<m then g j else F.int .u32 (IntKind.u32.wrap ((c+a.getD i 0+b.getD i 0:Nat):Int))) (((c+a.getD i 0+b.getD i 0:Nat):Int).fdiv (2 ^ min (Int.toNat 32) IntKind.u64.bits)) ((i+1:Nat):Int)=some (F.sl rn rg):=by
   rw [w4,Jw,hx,show c+x+b.getD i 0=x+b.getD i 0+c by omega]
   exact e1
  have fin:EK Cn 0 rn rg (o++Jj 4294967296 (x :: rest) (b.drop i) c):=by
   simp only [Jj,I9,Km]
   rw [List.append_cons]
   exact e2
  refine ⟨rn,rg,?_,fin⟩
  rw [Qt]
  unfold dG
  rw [Int.toNat_natCast,w0,w1,w2,w3,ei,decide_eq_true (show (i:Int)<a.length by omega),decide_eq_true (show (0:Int)≤i by omega),decide_eq_true (DK (show m+1≤3000 by omega))]
  simp only [AF,decide_true]
  rcases Nat.lt_or_ge i b.length with hib | hib
  ·rw [decide_eq_true (show (i:Int)<b.length by omega)]
   exact goal
  ·rw [decide_eq_false (show ¬ (i:Int)<b.length by omega)]
   rw [DT hib,Nat.add_zero] at goal
   exact goal
theorem qM {a b:List Nat} (oa:okD 4294967296 a) (ob:okD 4294967296 b) (ha:a.length≤1900) (hb:b.length≤1900):∃ rn rg,G84 3000 a b=some (F.sl rn rg)∧EK Cn 0 rn rg (Q3 a b):=by
 have e:∀ l:List Nat,l.length≤1900→IntKind.i64.wrap ((l.length:Int)+1)=((l.length+1:Nat):Int):=fun l hl=>by rw [Av (by omega) (by omega)];omega
 unfold G84 T84 Q3
 rw [e a ha,e b hb,decide_eq_true (DK (show a.length+1≤3000 by omega)),decide_eq_true (DK (show b.length+1≤3000 by omega))]
 rw [decide_eq_true (show (0:Int)≤((a.length+1:Nat):Int) by omega),decide_eq_true (show (0:Int)≤((b.length+1:Nat):Int) by omega)]
 simp only [AF]
 by_cases h:a.length<b.length
 ·rw [decide_eq_true (show (a.length:Int)<b.length by omega),AF,if_pos h]
  exact Nw ob oa (by omega) b 0 0 3000 0 [] _ rfl rfl (by simp) (by omega) EK.nil (by omega)
 ·rw [decide_eq_false (show ¬ (a.length:Int)<b.length by omega),AJ,if_neg h]
  exact Nw oa ob (by omega) a 0 0 3000 0 [] _ rfl rfl (by simp) (by omega) EK.nil (by omega)
def Kx:List F→Bool | [x,y]=>A4 x&&BD 1900 x&&(A4 y&&BD 1900 y) | _=>false
def Kt:List F→F | [x,y]=>AN (Q3 (AS x) (AS y)) | _=>.dflt
def Dv:List F→F | [x,y]=>AN (Gh 4294967296 (AS x) (AS y) 0) | _=>.dflt
theorem okAdd3:Ai Tryz.prog 84 Kx Kt :=
 Ae (c:=AR Tryz.f84) Tryz.func84 (by kernel_rfl) (by kernel_rfl) fun xs hp=>match xs,hp with
 | [x,y],hp=>by
  simp only [Kx,Bool.and_eq_true] at hp
  obtain ⟨⟨hx,hxl⟩,hy,hyl⟩:=hp
  obtain ⟨rn,rg,e,h⟩:=qM (Ca hx) (Ca hy) (GA hx hxl) (GA hy hyl)
  exact ⟨[AN (AS x),AN (AS y)],_,⟨(Bk hx).1,(Bk hy).1,trivial⟩,t84 3000 _ _ _ e,h.le⟩
/-! ### function 86 -/
def rF (a:List Nat) (b:List Nat) (m:Nat) (g:Nat→F) (c:Int) (i:Int):St:=⟨(U.f (AN a)) :: (U.f (AN b)) :: Ag 3 ((U.hs 0 m 0 m) :: (U.f (F.int .u64 c)) :: (U.f (F.int .i64 i)) :: Ag 41 []),[HO.arr 1 m g]⟩
def dE {ρ:Type} (ret:Kh ρ) (c4:Ow ρ) (a:List Nat) (b:List Nat) (m:Nat) (g:Nat→F) (c:Int) (i:Int):Option ρ :=
 (AC (decide (i<(↑a.length:Int)))
 (AC (decide (0≤i))
 (AC (decide (i<(↑a.length:Int)))
 (AC (decide (i<(↑b.length:Int)))
 (AC (decide (0≤i))
 (AC (decide (i<(↑b.length:Int)))
 (AC (decide (IntKind.u64.wrap (↑(a.getD i.toNat 0):Int)<IntKind.u64.wrap (c+IntKind.u64.wrap (↑(b.getD i.toNat 0):Int))))
 (AC (decide (m=m))
 (AC (decide (m=m))
 (AC (decide ((↑(m+1):Int)*(((4:Nat):Int)+1)≤(↑BC:Int)))
 (c4 (a) (b) (m+1) (fun j ↦ if j<m then g j else F.int .u32 (IntKind.u32.wrap (IntKind.u64.wrap (IntKind.u64.wrap (IntKind.u64.wrap (↑(a.getD i.toNat 0):Int)+4294967296)-IntKind.u64.wrap (c+IntKind.u64.wrap (↑(b.getD i.toNat 0):Int)))))) (1) (IntKind.i64.wrap (i+1)))
 none)
 none)
 none)
 (AC (decide (m=m))
 (AC (decide (m=m))
 (AC (decide ((↑(m+1):Int)*(((4:Nat):Int)+1)≤(↑BC:Int)))
 (c4 (a) (b) (m+1) (fun j ↦ if j<m then g j else F.int .u32 (IntKind.u32.wrap (IntKind.u64.wrap (IntKind.u64.wrap (↑(a.getD i.toNat 0):Int)-IntKind.u64.wrap (c+IntKind.u64.wrap (↑(b.getD i.toNat 0):Int)))))) (0) (IntKind.i64.wrap (i+1)))
 none)
 none)
 none))
 none)
 none)
 (AC (decide (IntKind.u64.wrap (↑(a.getD i.toNat 0):Int)<c))
 (AC (decide (m=m))
 (AC (decide (m=m))
 (AC (decide ((↑(m+1):Int)*(((4:Nat):Int)+1)≤(↑BC:Int)))
 (c4 (a) (b) (m+1) (fun j ↦ if j<m then g j else F.int .u32 (IntKind.u32.wrap (IntKind.u64.wrap (IntKind.u64.wrap (IntKind.u64.wrap (↑(a.getD i.toNat 0):Int)+4294967296)-c)))) (1) (IntKind.i64.wrap (i+1)))
 none)
 none)
 none)
 (AC (decide (m=m))
 (AC (decide (m=m))
 (AC (decide ((↑(m+1):Int)*(((4:Nat):Int)+1)≤(↑BC:Int)))
 (c4 (a) (b) (m+1) (fun j ↦ if j<m then g j else F.int .u32 (IntKind.u32.wrap (IntKind.u64.wrap (IntKind.u64.wrap (↑(a.getD i.toNat 0):Int)-c)))) (0) (IntKind.i64.wrap (i+1)))
 none)
 none)
 none)))
 none)
 none)
 (AC (decide (m=m))
 (ret (F.sl m g))
 none))
def Sq:Nat→(List Nat)→(List Nat)→(Nat)→(Nat→F)→(Int)→(Int)→Option (F)
 | 0,_,_,_,_,_,_=>none
 | k+1,a,b,m,g,c,i=>dE some (Sq k) a b m g c i
def T86 {ρ:Type} (ret:Kh ρ) (c4:Ow ρ) (a:List Nat) (b:List Nat):Option ρ :=
 (AC (decide ((↑a.length:Int)*(((4:Nat):Int)+1)≤(↑BC:Int)))
 (c4 (a) (b) (0) (fun x ↦ F.int .u32 0) (0) (0))
 none)
def G86 (k:Nat) (a:List Nat) (b:List Nat):Option (F):=T86 some (Sq k) a b
theorem VZ:∀ (k:Nat) (a:List Nat) (b:List Nat) (m:Nat) (g:Nat→F) (c:Int) (i:Int) (r:F),Sq k a b m g c i=some r→AY Tryz.prog Tryz.f86.results.toList (at_ Tryz.f86 4) (rF a b m g c i) (r)
 | 0,_,_,_,_,_,_,_,h=>nomatch h
 | k+1,a,b,m,g,c,i,r,h=>by
  refine AY.of_cut Ap EG (T:=[(4,[0,1,5,6,7],1000)]) (n:=200) ?_
  refine gE (Y:=dE (fun r=>some (.ret (r))) (fun a b m g c i=>some (.cut (at_ Tryz.f86 4) (rF a b m g c i))) a b m g c i) (by kernel_rfl) ?_
  exact (gS h (fun _ h=>(gS h (fun _ h=>(gS h (fun _ h=>(gS h (fun _ h=>(gS h (fun _ h=>(gS h (fun _ h=>(gS h (fun _ h=>(gS h (fun _ h=>(gS h (fun _ h=>(gS h (fun _ h=>gC (VZ k _ _ _ _ _ _ r h)) gN)) gN)) gN)) (fun _ h=>(gS h (fun _ h=>(gS h (fun _ h=>(gS h (fun _ h=>gC (VZ k _ _ _ _ _ _ r h)) gN)) gN)) gN)))) gN)) gN)) (fun _ h=>(gS h (fun _ h=>(gS h (fun _ h=>(gS h (fun _ h=>(gS h (fun _ h=>gC (VZ k _ _ _ _ _ _ r h)) gN)) gN)) gN)) (fun _ h=>(gS h (fun _ h=>(gS h (fun _ h=>(gS h (fun _ h=>gC (VZ k _ _ _ _ _ _ r h)) gN)) gN)) gN)))))) gN)) gN)) (fun _ h=>(gS h (fun _ h=>gR (by cases h;rfl)) gN)))
theorem t86 (k:Nat) (a:List Nat) (b:List Nat) (r:F) (h:G86 k a b=some r):AY Tryz.prog Tryz.f86.results.toList [.code (AR Tryz.f86)] (start Tryz.f86.ntmps ([AN a,AN b].map .f)) (r):=by
 refine AY.of_run Ap EG (T:=[(4,[0,1,5,6,7],1000)]) (n:=200) ?_
 refine gE (Y:=T86 (fun r=>some (.ret (r))) (fun a b m g c i=>some (.cut (at_ Tryz.f86 4) (rF a b m g c i))) a b) (by kernel_rfl) ?_
 exact (gS h (fun _ h=>gC (VZ k _ _ _ _ _ _ r h)) gN)
theorem RX {a b:List Nat} (oa:okD 4294967296 a) (ob:okD 4294967296 b) (hn:a.length≤2000):∀ (rest:List Nat) (i c k m:Nat) (o:List Nat) (g:Nat→F),a.drop i=rest→o.length=i→i+rest.length=a.length→c≤1 →
  EK Cn 0 m g o→rest.length<k→∃ rn rg,Sq k a b m g c i=some (F.sl rn rg)∧EK Cn 0 rn rg (o++Gh 4294967296 rest (b.drop i) c)
 | _,_,_,0,_,_,_,_,_,_,_,_,h=>by omega
 | [],i,c,k+1,m,o,g,hr,ho,hi,hc,hg,_=>by
  simp only [List.length_nil,Nat.add_zero] at hi
  subst hi
  rw [Sq]
  unfold dE
  rw [decide_eq_false (show ¬ (a.length:Int)<a.length by omega),AJ,Ez,AF]
  exact ⟨_,_,rfl,by simp only [Gh,List.append_nil];exact hg⟩
 | x :: rest,i,c,k+1,m,o,g,hr,ho,hi,hc,hg,hk=>by
  obtain ⟨hx,hr',hia⟩:=Im hr
  have hxb:=DC oa hia
  have hyb:=HS (by omega) ob i
  have hm:m=o.length:=hg.1
  obtain ⟨rn,rg,e1,e2⟩:=RX oa ob hn rest (i+1) (if x<b.getD i 0+c then 1 else 0) k (m+1) (o++[(x+4294967296-b.getD i 0-c) % 4294967296]) _ hr' (by simp [ho]) (by simp only [List.length_cons] at hi;omega) (by split <;> omega) (hg.push _) (by simp at hk;omega)
  have ei:IntKind.i64.wrap ((i:Int)+1)=((i+1:Nat):Int):=by rw [Av (by omega) (by omega)];omega
  have w0:IntKind.u64.wrap ((a.getD i 0:Nat):Int)=(a.getD i 0:Nat):=CJ (by omega)
  have w1:IntKind.u64.wrap ((b.getD i 0:Nat):Int)=(b.getD i 0:Nat):=CJ (by omega)
  have w2:IntKind.u64.wrap ((c:Int)+(b.getD i 0:Nat))=((c+b.getD i 0:Nat):Int):=by rw [DR];omega
  have w3:IntKind.u64.wrap ((a.getD i 0:Nat)+4294967296)=((a.getD i 0+4294967296:Nat):Int):=by rw [DR];omega
  have fin:EK Cn 0 rn rg (o++Gh 4294967296 (x :: rest) (b.drop i) c):=by
   simp only [Gh,I9,Km]
   rw [List.append_cons]
   exact e2
  have val32:∀ y:Nat,y=b.getD i 0→∀ (t:Int),((x<y+c∧t=((x+4294967296:Nat):Int)-((c+y:Nat):Int)) ∨ (¬ x<y+c∧t=(x:Int)-((c+y:Nat):Int)))→F.int .u32 (IntKind.u32.wrap (IntKind.u64.wrap t))=Cn ((x+4294967296-b.getD i 0-c) % 4294967296):=by
   intro y hy t ht
   subst hy
   refine congrArg (F.int .u32) ?_
   rw [HE,DR]
   rcases ht with ⟨h1,rfl⟩ | ⟨h1,rfl⟩ <;> omega
  refine ⟨rn,rg,?_,fin⟩
  rw [Sq]
  unfold dE
  rw [Int.toNat_natCast,w0,w1,w2,w3,ei,decide_eq_true (show (i:Int)<a.length by omega),decide_eq_true (show (0:Int)≤i by omega),decide_eq_true (DK (show m+1≤3000 by omega)),hx]
  simp only [AF,decide_true]
  rcases Nat.lt_or_ge i b.length with hib | hib
  ·rw [decide_eq_true (show (i:Int)<b.length by omega),AF]
   by_cases hlt:x<b.getD i 0+c
   ·rw [decide_eq_true (show (x:Int)<((c+b.getD i 0:Nat):Int) by omega),AF,val32 _ rfl _ (.inl ⟨hlt,rfl⟩)]
    rw [if_pos hlt] at e1
    exact e1
   ·rw [decide_eq_false (show ¬ (x:Int)<((c+b.getD i 0:Nat):Int) by omega),AJ,val32 _ rfl _ (.inr ⟨hlt,rfl⟩)]
    rw [if_neg hlt] at e1
    exact e1
  ·rw [decide_eq_false (show ¬ (i:Int)<b.length by omega),AJ]
   have hb0:=DT hib
   by_cases hlt:x<b.getD i 0+c
   ·have:=val32 0 hb0.symm (((x+4294967296:Nat):Int)-(c:Int)) (.inl ⟨by rw [← hb0];exact hlt,by omega⟩)
    rw [decide_eq_true (show (x:Int)<(c:Int) by rw [hb0] at hlt;omega),AF,this]
    rw [if_pos hlt] at e1
    exact e1
   ·have:=val32 0 hb0.symm ((x:Int)-(c:Int)) (.inr ⟨by rw [← hb0];exact hlt,by omega⟩)
    rw [decide_eq_false (show ¬ (x:Int)<(c:Int) by rw [hb0] at hlt;omega),AJ,this]
    rw [if_neg hlt] at e1
    exact e1
theorem kB {a b:List Nat} (oa:okD 4294967296 a) (ob:okD 4294967296 b) (ha:a.length≤1900):∃ rn rg,G86 3000 a b=some (F.sl rn rg)∧EK Cn 0 rn rg (Gh 4294967296 a b 0):=by
 unfold G86 T86
 rw [decide_eq_true (DK (show a.length≤3000 by omega)),AF]
 exact RX oa ob (by omega) a 0 0 3000 0 [] _ rfl rfl (by simp) (by omega) EK.nil (by omega)
theorem okSub3:Ai Tryz.prog 86 Kx Dv :=
 Ae (c:=AR Tryz.f86) Tryz.func86 (by kernel_rfl) (by kernel_rfl) fun xs hp=>match xs,hp with
 | [x,y],hp=>by
  simp only [Kx,Bool.and_eq_true] at hp
  obtain ⟨⟨hx,hxl⟩,hy,hyl⟩:=hp
  obtain ⟨rn,rg,e,h⟩:=kB (Ca hx) (Ca hy) (GA hx hxl)
  exact ⟨[AN (AS x),AN (AS y)],_,⟨(Bk hx).1,(Bk hy).1,trivial⟩,t86 3000 _ _ _ e,h.le⟩
def envS2:Env:=(((oE.add 83 (.pure Pk V2)).add 85 (.pure TO bL)).add 84 (.pure Kx Kt)).add 86 (.pure Kx Dv)
theorem Ey:Ax Tryz.prog envS2:=(Env.add_ok (Env.add_ok (Env.add_ok (Env.add_ok EG okTrim3.sp) okCmp3.sp) okAdd3.sp) okSub3.sp)
end
noncomputable section
/-! ### function 87 -/
def T87 {ρ:Type} (ret:Kh ρ) (z:Int):Option ρ :=
 (AC ((↑(AM 4294967296 z.natAbs).length:Int)==0)
 (ret (AX z))
 (ret (F.agg [F.bool !decide (z<0),AN (AM 4294967296 z.natAbs)])))
def G87 (z:Int):Option (F):=T87 some z
theorem t87 (z:Int) (r:F) (h:G87 z=some r):AY Tryz.prog Tryz.f87.results.toList [.code (AR Tryz.f87)] (start Tryz.f87.ntmps ([AX z].map .f)) (r):=by
 refine AY.of_run Ap Ey (T:=[]) (n:=200) ?_
 refine gE (Y:=T87 (fun r=>some (.ret (r))) z) (by kernel_rfl) ?_
 exact (gS h (fun _ h=>gR (by cases h;rfl)) (fun _ h=>gR (by cases h;rfl)))
theorem mM (z:Int):G87 z=some (AX (-z)):=by
 unfold G87 T87
 by_cases h0:z=0
 ·subst h0
  rw [show AM 4294967296 (Int.natAbs 0)=[] from BU _]
  rfl
 ·have:=Dh (n:=z.natAbs).2 (by omega)
  rw [show (((AM 4294967296 z.natAbs).length:Int)==0)=false by simp only [beq_eq_false_iff_ne,ne_eq];omega,AJ]
  unfold AX
  rw [Int.natAbs_neg]
  by_cases hz:z<0
  ·rw [decide_eq_true hz,decide_eq_false (show ¬ -z<0 by omega)];rfl
  ·rw [decide_eq_false hz,decide_eq_true (show -z<0 by omega)];rfl
def MP:List F→F | [x]=>AX (-(AW x)) | _=>.dflt
theorem okNeg3:Ai Tryz.prog 87 (bS 800) MP :=
 Ae (c:=AR Tryz.f87) Tryz.func87 (by kernel_rfl) (by kernel_rfl) fun xs hp=>match xs,hp with
 | [x],hp=>⟨[AX (AW x)],_,⟨(C0 hp).1,trivial⟩,t87 _ _ (mM _),.refl _⟩
/-! ### function 55 -/
def T55 {ρ:Type} (ret:Kh ρ) (n:Int):Option ρ :=
 (AC (decide (n<0))
 (AC (A4 (F.sl 2 (Aj [F.int .u32 (IntKind.u32.wrap (IntKind.u64.wrap (0-IntKind.u64.wrap n))),F.int .u32 (IntKind.u32.wrap ((IntKind.u64.wrap (0-IntKind.u64.wrap n)).fdiv (2 ^ min (Int.toNat 32) IntKind.u64.bits)))]))&&true)
 (ret (AX (sgn (decide (n<0)) (val 4294967296 (AS (F.sl 2 (Aj [F.int .u32 (IntKind.u32.wrap (IntKind.u64.wrap (0-IntKind.u64.wrap n))),F.int .u32 (IntKind.u32.wrap ((IntKind.u64.wrap (0-IntKind.u64.wrap n)).fdiv (2 ^ min (Int.toNat 32) IntKind.u64.bits)))])))))))
 none)
 (AC (A4 (F.sl 2 (Aj [F.int .u32 (IntKind.u32.wrap (IntKind.u64.wrap n)),F.int .u32 (IntKind.u32.wrap ((IntKind.u64.wrap n).fdiv (2 ^ min (Int.toNat 32) IntKind.u64.bits)))]))&&true)
 (ret (AX (sgn (decide (n<0)) (val 4294967296 (AS (F.sl 2 (Aj [F.int .u32 (IntKind.u32.wrap (IntKind.u64.wrap n)),F.int .u32 (IntKind.u32.wrap ((IntKind.u64.wrap n).fdiv (2 ^ min (Int.toNat 32) IntKind.u64.bits)))])))))))
 none))
def G55 (n:Int):Option (F):=T55 some n
theorem t55 (n:Int) (r:F) (h:G55 n=some r):AY Tryz.prog Tryz.f55.results.toList [.code (AR Tryz.f55)] (start Tryz.f55.ntmps ([F.int .i64 n].map .f)) (r):=by
 refine AY.of_run Ap Ey (T:=[]) (n:=200) ?_
 refine gE (Y:=T55 (fun r=>some (.ret (r))) n) (by kernel_rfl) ?_
 exact (gS h (fun _ h=>(gS h (fun _ h=>gR (by cases h;rfl)) gN)) (fun _ h=>(gS h (fun _ h=>gR (by cases h;rfl)) gN)))
theorem PK {u:Nat} (hu:u<18446744073709551616):A4 (F.sl 2 (Aj [F.int .u32 (IntKind.u32.wrap (u:Int)),F.int .u32 (IntKind.u32.wrap ((u:Int).fdiv (2 ^ min (Int.toNat 32) IntKind.u64.bits)))]))=true ∧
  val 4294967296 (AS (F.sl 2 (Aj [F.int .u32 (IntKind.u32.wrap (u:Int)),F.int .u32 (IntKind.u32.wrap ((u:Int).fdiv (2 ^ min (Int.toNat 32) IntKind.u64.bits)))])))=u:=by
 have e1:F.int .u32 (IntKind.u32.wrap (u:Int))=Cn (u % 4294967296):=congrArg (F.int .u32) (by rw [HE];omega)
 have e2:F.int .u32 (IntKind.u32.wrap ((u:Int).fdiv (2 ^ min (Int.toNat 32) IntKind.u64.bits)))=Cn (u / 4294967296):=congrArg (F.int .u32) (by rw [Jw,HE];omega)
 rw [e1,e2]
 have hg:∀ j,j<2→Aj [Cn (u % 4294967296),Cn (u / 4294967296)] j=Cn (([u % 4294967296,u / 4294967296]:List Nat).getD j 0):=fun j hj=>by
  match j,hj with
  | 0,_=>rfl
  | 1,_=>rfl
 have ho:okD 4294967296 [u % 4294967296,u / 4294967296]:=by intro w hw;simp at hw;omega
 refine ⟨EC (l:=[u % 4294967296,u / 4294967296]) rfl hg ho,?_⟩
 rw [EA (m:=2) (l:=[u % 4294967296,u / 4294967296]) rfl hg]
 simp only [val]
 omega
theorem nJ {n:Int} (h:-9223372036854775808≤n∧n≤9223372036854775807):G55 n=some (AX n):=by
 unfold G55 T55
 by_cases hn:n<0
 ·have e:IntKind.u64.wrap (0-IntKind.u64.wrap n)=(n.natAbs:Int):=by simp only [DR];omega
  obtain ⟨h1,h2⟩:=PK (u:=n.natAbs) (by omega)
  rw [e,h1,h2,decide_eq_true hn]
  have:sgn true n.natAbs=n:=by simp only [sgn,if_true];omega
  rw [this]
  rfl
 ·have e:IntKind.u64.wrap n=(n.natAbs:Int):=by simp only [DR];omega
  obtain ⟨h1,h2⟩:=PK (u:=n.natAbs) (by omega)
  rw [e,h1,h2,decide_eq_false hn]
  have:sgn false n.natAbs=n:=by simp only [sgn,Bool.false_eq_true,if_false];omega
  rw [this]
  rfl
def A0:List F→F | [.int .i64 n]=>AX n | _=>.dflt
theorem okInt3:Ai Tryz.prog 55 NT A0 :=
 Bm (c:=AR Tryz.f55) Tryz.func55 (by kernel_rfl) (by kernel_rfl) fun xs hp=>match xs,hp with
 | [.int .i64 n],hp=>t55 n _ (nJ (BG.1 hp))
/-! ### function 56 -/
def T56 {ρ:Type} (ret:Kh ρ) (x:Int) (y:Int):Option ρ :=
 (AC (decide (x<0)==decide (y<0))
 (AC (A4 (AN (AM 4294967296 x.natAbs))&&BD 1900 (AN (AM 4294967296 x.natAbs))&&(A4 (AN (AM 4294967296 y.natAbs))&&BD 1900 (AN (AM 4294967296 y.natAbs))))
 (AC (A4 (Kt [AN (AM 4294967296 x.natAbs),AN (AM 4294967296 y.natAbs)])&&BD 2000 (Kt [AN (AM 4294967296 x.natAbs),AN (AM 4294967296 y.natAbs)]))
 (ret (AX (sgn (decide (x<0)) (val 4294967296 (AS (Kt [AN (AM 4294967296 x.natAbs),AN (AM 4294967296 y.natAbs)]))))))
 none)
 none)
 (AC (Cc 800 (AN (AM 4294967296 x.natAbs))&&Cc 800 (AN (AM 4294967296 y.natAbs)))
 (AC (decide (((↑(val 4294967296 (AS (AN (AM 4294967296 x.natAbs)))):Int)-(↑(val 4294967296 (AS (AN (AM 4294967296 y.natAbs)))):Int)).sign ≥ 0))
 (AC (A4 (AN (AM 4294967296 x.natAbs))&&BD 1900 (AN (AM 4294967296 x.natAbs))&&(A4 (AN (AM 4294967296 y.natAbs))&&BD 1900 (AN (AM 4294967296 y.natAbs))))
 (AC (A4 (Dv [AN (AM 4294967296 x.natAbs),AN (AM 4294967296 y.natAbs)])&&BD 2000 (Dv [AN (AM 4294967296 x.natAbs),AN (AM 4294967296 y.natAbs)]))
 (ret (AX (sgn (decide (x<0)) (val 4294967296 (AS (Dv [AN (AM 4294967296 x.natAbs),AN (AM 4294967296 y.natAbs)]))))))
 none)
 none)
 (AC (A4 (AN (AM 4294967296 y.natAbs))&&BD 1900 (AN (AM 4294967296 y.natAbs))&&(A4 (AN (AM 4294967296 x.natAbs))&&BD 1900 (AN (AM 4294967296 x.natAbs))))
 (AC (A4 (Dv [AN (AM 4294967296 y.natAbs),AN (AM 4294967296 x.natAbs)])&&BD 2000 (Dv [AN (AM 4294967296 y.natAbs),AN (AM 4294967296 x.natAbs)]))
 (ret (AX (sgn (decide (y<0)) (val 4294967296 (AS (Dv [AN (AM 4294967296 y.natAbs),AN (AM 4294967296 x.natAbs)]))))))
 none)
 none))
 none))
def G56 (x:Int) (y:Int):Option (F):=T56 some x y
theorem t56 (x:Int) (y:Int) (r:F) (h:G56 x y=some r):AY Tryz.prog Tryz.f56.results.toList [.code (AR Tryz.f56)] (start Tryz.f56.ntmps ([AX x,AX y].map .f)) (r):=by
 refine AY.of_run Ap Ey (T:=[]) (n:=200) ?_
 refine gE (Y:=T56 (fun r=>some (.ret (r))) x y) (by kernel_rfl) ?_
 exact (gS h (fun _ h=>(gS h (fun _ h=>(gS h (fun _ h=>gR (by cases h;rfl)) gN)) gN)) (fun _ h=>(gS h (fun _ h=>(gS h (fun _ h=>(gS h (fun _ h=>(gS h (fun _ h=>gR (by cases h;rfl)) gN)) gN)) (fun _ h=>(gS h (fun _ h=>(gS h (fun _ h=>gR (by cases h;rfl)) gN)) gN)))) gN)))
theorem add3Z {x y:Int} (hx:x.natAbs<4294967296 ^ 800) (hy:y.natAbs<4294967296 ^ 800):G56 x y=some (AX (x+y)):=by
 have lx:=Cw hx
 have ly:=Cw hy
 have ox:=BH (B:=4294967296) (by omega) x.natAbs
 have oy:=BH (B:=4294967296) (by omega) y.natAbs
 have tx:=CQ hx
 have ty:=CQ hy
 have bx:BD 1900 (AN (AM 4294967296 x.natAbs))=true:=DS hx (by omega)
 have bY:BD 1900 (AN (AM 4294967296 y.natAbs))=true:=DS hy (by omega)
 clear hx hy
 have ble:∀ l:List Nat,l.length≤2000→BD 2000 (AN l)=true:=fun l hl=>by rw [GQ,Nat.ble_eq];exact hl
 have s1:=Cj (mD ox oy)
 have s2:=ble _ (show (Q3 (AM 4294967296 x.natAbs) (AM 4294967296 y.natAbs)).length≤2000 by have:=mZ (AM 4294967296 x.natAbs) (AM 4294967296 y.natAbs);omega)
 have d1:=Cj (J8 (B:=4294967296) (by omega) (AM 4294967296 x.natAbs) (AM 4294967296 y.natAbs) 0)
 have d2:=ble _ (show (Gh 4294967296 (AM 4294967296 x.natAbs) (AM 4294967296 y.natAbs) 0).length≤2000 by rw [Mg];omega)
 have e1:=Cj (J8 (B:=4294967296) (by omega) (AM 4294967296 y.natAbs) (AM 4294967296 x.natAbs) 0)
 have e2:=ble _ (show (Gh 4294967296 (AM 4294967296 y.natAbs) (AM 4294967296 x.natAbs) 0).length≤2000 by rw [Mg];omega)
 have long:∀ m n:Nat,n≤m→(AM 4294967296 n).length≤(AM 4294967296 m).length:=fun m n h=>by
  rcases Nat.lt_or_ge (AM 4294967296 m).length (AM 4294967296 n).length with h1 | h1
  ·have:=DW (B:=4294967296) (by omega) (BH (by omega) m) (B8 (by omega) n) h1
   rw [BV,BV] at this
   omega
  ·exact h1
 have subv:∀ m n:Nat,n≤m→val 4294967296 (Gh 4294967296 (AM 4294967296 m) (AM 4294967296 n) 0)=m-n:=fun m n h=>by
  have:=Jn (B:=4294967296) (by omega) (AM 4294967296 m) (AM 4294967296 n) 0 (BH (by omega) m) (BH (by omega) n) (by omega) (long m n h) (by rw [BV,BV];omega)
  rw [BV,BV] at this
  omega
 unfold G56 T56
 simp only [ED,bx,bY,tx,ty,Kt,Dv,C6,DF,BV,jD,s1,s2,d1,d2,e1,e2,Bool.and_self,AF]
 by_cases hs:(decide (x<0)==decide (y<0))=true
 ·rw [hs,AF]
  have:sgn (decide (x<0)) (x.natAbs+y.natAbs)=x+y:=by
   rw [beq_iff_eq,decide_eq_decide] at hs
   by_cases hx:x<0
   ·rw [decide_eq_true hx];simp only [sgn,if_true];omega
   ·rw [decide_eq_false hx];simp only [sgn,Bool.false_eq_true,if_false];omega
  rw [this]
 ·have hs':(decide (x<0)==decide (y<0))=false:=by simpa using hs
  rw [hs',AJ]
  have hxy:¬ (x<0 ↔ y<0):=by rw [← decide_eq_decide,← beq_iff_eq];exact hs
  by_cases hc:y.natAbs≤x.natAbs
  ·rw [decide_eq_true (show ((x.natAbs:Int)-y.natAbs).sign ≥ 0 from Int.sign_nonneg_iff.2 (by omega)),AF,subv _ _ hc]
   have:sgn (decide (x<0)) (x.natAbs-y.natAbs)=x+y:=by
    by_cases hx:x<0
    ·rw [decide_eq_true hx];simp only [sgn,if_true];omega
    ·rw [decide_eq_false hx];simp only [sgn,Bool.false_eq_true,if_false];omega
   rw [this]
  ·rw [decide_eq_false (show ¬ ((x.natAbs:Int)-y.natAbs).sign ≥ 0 from fun h=>by have:=Int.sign_nonneg_iff.1 h;omega),AJ,subv _ _ (by omega)]
   have:sgn (decide (y<0)) (y.natAbs-x.natAbs)=x+y:=by
    by_cases hy:y<0
    ·rw [decide_eq_true hy];simp only [sgn,if_true];omega
    ·rw [decide_eq_false hy];simp only [sgn,Bool.false_eq_true,if_false];omega
   rw [this]
def bM:List F→F | [x,y]=>AX (AW x+AW y) | _=>.dflt
theorem okAddZ:Ai Tryz.prog 56 (Jd 800) bM :=
 Ae (c:=AR Tryz.f56) Tryz.func56 (by kernel_rfl) (by kernel_rfl) fun xs hp=>match xs,hp with
 | [x,y],hp=>by
  obtain ⟨hx,hy⟩:=IR hp
  exact ⟨[AX (AW x),AX (AW y)],_,⟨(C0 hx).1,(C0 hy).1,trivial⟩,t56 _ _ _ (add3Z (BJ hx) (BJ hy)),.refl _⟩
/-! ### function 105 -/
def T105 {ρ:Type} (ret:(Int)→Option ρ) (z:Int):Option ρ :=
 (AC ((↑(AM 4294967296 z.natAbs).length:Int)==0)
 (ret (0))
 (AC (decide (z<0))
 (ret (-1))
 (ret (1))))
def G105 (z:Int):Option (Int):=T105 some z
theorem t105 (z:Int) (r:Int) (h:G105 z=some r):AY Tryz.prog Tryz.f105.results.toList [.code (AR Tryz.f105)] (start Tryz.f105.ntmps ([AX z].map .f)) (F.int .i64 r):=by
 refine AY.of_run Ap Ey (T:=[]) (n:=200) ?_
 refine gE (Y:=T105 (fun r=>some (.ret (F.int .i64 r))) z) (by kernel_rfl) ?_
 exact (gS h (fun _ h=>gR (by cases h;rfl)) (fun _ h=>(gS h (fun _ h=>gR (by cases h;rfl)) (fun _ h=>gR (by cases h;rfl)))))
theorem fA (z:Int):G105 z=some z.sign:=by
 unfold G105 T105
 by_cases h0:z=0
 ·subst h0
  rw [show AM 4294967296 (Int.natAbs 0)=[] from BU _]
  rfl
 ·have:=Dh (n:=z.natAbs).2 (by omega)
  rw [show (((AM 4294967296 z.natAbs).length:Int)==0)=false by simp only [beq_eq_false_iff_ne,ne_eq];omega,AJ]
  by_cases hz:z<0
  ·rw [decide_eq_true hz,AF,Int.sign_eq_neg_one_of_neg hz]
  ·rw [decide_eq_false hz,AJ,Int.sign_eq_one_of_pos (by omega)]
def V5:List F→F | [x]=>.int .i64 (AW x).sign | _=>.dflt
theorem okSign3:Ai Tryz.prog 105 (bS 900) V5 :=
 Ae (c:=AR Tryz.f105) Tryz.func105 (by kernel_rfl) (by kernel_rfl) fun xs hp=>match xs,hp with
 | [x],hp=>⟨[AX (AW x)],_,⟨(C0 hp).1,trivial⟩,t105 _ _ (fA _),.refl _⟩
/-! ### function 120 -/
def Z7 (n:Int) (x:Int):St:=⟨Ag 3 ((U.f (F.int .i64 n)) :: (U.f (F.int .u32 x)) :: Ag 20 []),[]⟩
def VG {ρ:Type} (ret:(Int)→Option ρ) (c5:Qy ρ) (n:Int) (x:Int):Option ρ :=
 (AC (decide (x > 0))
 (c5 (IntKind.i64.wrap (n+1)) (x.fdiv (2 ^ min (Int.toNat 1) IntKind.u32.bits)))
 (ret (n)))
def N7:Nat→(Int)→(Int)→Option (Int)
 | 0,_,_=>none
 | k+1,n,x=>VG some (N7 k) n x
def T120 {ρ:Type} (ret:(Int)→Option ρ) (c5:Qy ρ) (d:List Nat):Option ρ :=
 (AC ((↑d.length:Int)==0)
 (ret (0))
 (AC (decide (0≤IntKind.i64.wrap ((↑d.length:Int)-1)))
 (AC (decide (IntKind.i64.wrap ((↑d.length:Int)-1)<(↑d.length:Int)))
 (c5 (IntKind.i64.wrap (IntKind.i64.wrap ((↑d.length:Int)-1)*32)) ((↑(d.getD (IntKind.i64.wrap ((↑d.length:Int)-1)).toNat 0):Int)))
 none)
 none))
def G120 (k:Nat) (d:List Nat):Option (Int):=T120 some (N7 k) d
theorem jZ:∀ (k:Nat) (n:Int) (x:Int) (r:Int),N7 k n x=some r→AY Tryz.prog Tryz.f120.results.toList (at_ Tryz.f120 5) (Z7 n x) (F.int .i64 r)
 | 0,_,_,_,h=>nomatch h
 | k+1,n,x,r,h=>by
  refine AY.of_cut Ap Ey (T:=[(5,[3,4],1000)]) (n:=200) ?_
  refine gE (Y:=VG (fun r=>some (.ret (F.int .i64 r))) (fun n x=>some (.cut (at_ Tryz.f120 5) (Z7 n x))) n x) (by kernel_rfl) ?_
  exact (gS h (fun _ h=>gC (jZ k _ _ r h)) (fun _ h=>gR (by cases h;rfl)))
theorem t120 (k:Nat) (d:List Nat) (r:Int) (h:G120 k d=some r):AY Tryz.prog Tryz.f120.results.toList [.code (AR Tryz.f120)] (start Tryz.f120.ntmps ([AN d].map .f)) (F.int .i64 r):=by
 refine AY.of_run Ap Ey (T:=[(5,[3,4],1000)]) (n:=200) ?_
 refine gE (Y:=T120 (fun r=>some (.ret (F.int .i64 r))) (fun n x=>some (.cut (at_ Tryz.f120 5) (Z7 n x))) d) (by kernel_rfl) ?_
 exact (gS h (fun _ h=>gR (by cases h;rfl)) (fun _ h=>(gS h (fun _ h=>(gS h (fun _ h=>gC (jZ k _ _ r h)) gN)) gN)))
theorem X0 {x:Nat} (h:0<x):bitLen x=bitLen (x / 2)+1:=by
 by_cases h1:x=1
 ·subst h1;decide
 ·have:=G1 (n:=x) (k:=1) (by rw [Nat.pow_one];omega)
  rw [Nat.pow_one] at this
  omega
theorem Qi:∀ (k x n:Nat),x<2 ^ k→n+k≤100000→k≤64→N7 (k+1) n x=some ((n+bitLen x:Nat):Int)
 | k,0,n,_,_,_=>by
  rw [N7]
  unfold VG
  rw [decide_eq_false (by omega),AJ]
  rfl
 | 0,x+1,n,h,_,_=>by simp at h
 | k+1,x+1,n,h,hn,hk=>by
  rw [N7]
  unfold VG
  have e1:(((x+1:Nat):Int)).fdiv (2 ^ min (Int.toNat 1) IntKind.u32.bits)=(((x+1) / 2:Nat):Int):=by
   rw [show min (Int.toNat 1) IntKind.u32.bits=1 from rfl,Mq]
  have e2:IntKind.i64.wrap ((n:Int)+1)=((n+1:Nat):Int):=by rw [Av (by omega) (by omega)];omega
  rw [decide_eq_true (show ((x+1:Nat):Int) > 0 by omega),AF,e1,e2,Qi k ((x+1) / 2) (n+1) (by rw [Nat.pow_succ] at h;omega) (by omega) (by omega),X0 (x:=x+1) (by omega)]
  congr 1
  omega
theorem VN (k:Nat):4294967296 ^ k=2 ^ (32*k):=by rw [show 4294967296=2 ^ 32 from rfl,← Nat.pow_mul]
theorem iQ {m:Nat} (h:m<4294967296 ^ 800):G120 33 (AM 4294967296 m)=some ((bitLen m:Nat):Int):=by
 have hl:=Cw h
 have hlow:∀ k,k<(AM 4294967296 m).length→4294967296 ^ k≤m:=fun k hk=>by
  rcases Nat.lt_or_ge m (4294967296 ^ k) with h1 | h1
  ·have:=Cw h1
   omega
  ·exact h1
 clear h
 unfold G120 T120
 by_cases h0:m=0
 ·subst h0
  rw [BU]
  rfl
 ·have hp:=Dh (n:=m).2 h0
  have e1:IntKind.i64.wrap (((AM 4294967296 m).length:Int)-1)=(((AM 4294967296 m).length-1:Nat):Int):=by rw [Av (by omega) (by omega)];omega
  have e2:IntKind.i64.wrap ((((AM 4294967296 m).length-1:Nat):Int)*32)=((32*((AM 4294967296 m).length-1):Nat):Int):=by rw [Av (by omega) (by omega)];omega
  have hb:=HS (show 0<4294967296 by omega) (BH (B:=4294967296) (by omega) m) ((AM 4294967296 m).length-1)
  rw [show (((AM 4294967296 m).length:Int)==0)=false by simp only [beq_eq_false_iff_ne,ne_eq];omega,AJ,e1,decide_eq_true (show (0:Int)≤(((AM 4294967296 m).length-1:Nat):Int) by omega),decide_eq_true (show (((AM 4294967296 m).length-1:Nat):Int)<(AM 4294967296 m).length by omega),Int.toNat_natCast,AF,AF,e2,Qi 32 _ _ hb (by omega) (by omega)]
  have hlo:=hlow ((AM 4294967296 m).length-1) (by omega)
  have hhi:m<4294967296 ^ (AM 4294967296 m).length:=by
   have:=Jo (AM 4294967296 m) (BH (by omega) m)
   rwa [BV] at this
  rw [KV (by omega) _ _ (BH (by omega) m),BV]
  have hlt:m / 4294967296 ^ ((AM 4294967296 m).length-1)<4294967296:=by
   rw [Nat.div_lt_iff_lt_mul (Nat.pow_pos (by omega)),Nat.mul_comm,← Nat.pow_succ,show ((AM 4294967296 m).length-1).succ=(AM 4294967296 m).length by omega]
   exact hhi
  rw [Nat.mod_eq_of_lt hlt]
  rw [VN] at hlo ⊢
  rw [← G1 hlo]
def WV:List F→Bool | [x]=>Cc 800 x | _=>false
def WJ:List F→F | [x]=>.int .i64 (bitLen (val 4294967296 (AS x)):Nat) | _=>.dflt
theorem okBits3:Ai Tryz.prog 120 WV WJ :=
 Ae (c:=AR Tryz.f120) Tryz.func120 (by kernel_rfl) (by kernel_rfl) fun xs hp=>match xs,hp with
 | [x],hp=>by
  obtain ⟨x1,x2,x3⟩:=GZ hp
  have e:=iQ x2
  rw [x3] at e
  exact ⟨[AN (AS x)],_,⟨(Bk x1).1,trivial⟩,t120 33 _ _ e,.refl _⟩
/-! ### function 121 -/
def Z6 (d:List Nat) (m:Nat) (g:Nat→F) (s:Int) (c:Int) (i:Int):St:=⟨(U.f (AN d)) :: Ag 4 ((U.hs 0 m 0 m) :: (U.f (F.int .u64 s)) :: (U.f (F.int .u64 c)) :: (U.f (F.int .i64 i)) :: Ag 38 []),[HO.arr 1 m g]⟩
def VF {ρ:Type} (ret:Kh ρ) (c5:(List Nat)→(Nat)→(Nat→F)→(Int)→(Int)→(Int)→Option ρ) (d:List Nat) (m:Nat) (g:Nat→F) (s:Int) (c:Int) (i:Int):Option ρ :=
 (AC (decide (i<(↑d.length:Int)))
 (AC (decide (0≤i))
 (AC (decide (i<(↑d.length:Int)))
 (AC (decide (0≤s))
 (AC (decide (m=m))
 (AC (decide (m=m))
 (AC (decide ((↑(m+1):Int)*(((4:Nat):Int)+1)≤(↑BC:Int)))
 (c5 (d) (m+1) (fun j ↦ if j<m then g j else F.int .u32 (IntKind.u32.wrap (Bz BinOp.or IntKind.u64 c (IntKind.u64.wrap (IntKind.u64.wrap (↑(d.getD i.toNat 0):Int)*2 ^ min s.toNat IntKind.u64.bits))))) (s) ((Bz BinOp.or IntKind.u64 c (IntKind.u64.wrap (IntKind.u64.wrap (↑(d.getD i.toNat 0):Int)*2 ^ min s.toNat IntKind.u64.bits))).fdiv (2 ^ min (Int.toNat 32) IntKind.u64.bits)) (IntKind.i64.wrap (i+1)))
 none)
 none)
 none)
 none)
 none)
 none)
 (AC (decide (c > 0))
 (AC (decide (m=m))
 (AC (decide (m=m))
 (AC (decide ((↑(m+1):Int)*(((4:Nat):Int)+1)≤(↑BC:Int)))
 (AC (decide (m+1=m+1))
 (AC (A4 (F.sl (m+1) (B3 0 fun j ↦ if j<m then g j else F.int .u32 (IntKind.u32.wrap c)))&&BD 2000 (F.sl (m+1) (B3 0 fun j ↦ if j<m then g j else F.int .u32 (IntKind.u32.wrap c))))
 (ret (AN (AM 4294967296 (sgn false (val 4294967296 (AS (F.sl (m+1) (B3 0 fun j ↦ if j<m then g j else F.int .u32 (IntKind.u32.wrap c)))))).natAbs)))
 none)
 none)
 none)
 none)
 none)
 (AC (decide (m=m))
 (AC (A4 (F.sl m (B3 0 g))&&BD 2000 (F.sl m (B3 0 g)))
 (ret (AN (AM 4294967296 (sgn false (val 4294967296 (AS (F.sl m (B3 0 g))))).natAbs)))
 none)
 none)))
def N6:Nat→(List Nat)→(Nat)→(Nat→F)→(Int)→(Int)→(Int)→Option (F)
 | 0,_,_,_,_,_,_=>none
 | k+1,d,m,g,s,c,i=>VF some (N6 k) d m g s c i
def T121 {ρ:Type} (ret:Kh ρ) (c5:(List Nat)→(Nat)→(Nat→F)→(Int)→(Int)→(Int)→Option ρ) (d:List Nat) (n:Int):Option ρ :=
 (AC (decide (0≤IntKind.i64.wrap (n.tdiv 32)))
 (AC (decide (IntKind.i64.wrap (n.tdiv 32)≤IntKind.i64.wrap (n.tdiv 32)))
 (AC (decide (IntKind.i64.wrap (n.tdiv 32)*(((4:Nat):Int)+1)≤(↑BC:Int)))
 (c5 (d) ((IntKind.i64.wrap (n.tdiv 32)).toNat) (fun x ↦ F.int .u32 0) (IntKind.u64.wrap (n.tmod 32)) (0) (0))
 none)
 none)
 none)
def G121 (k:Nat) (d:List Nat) (n:Int):Option (F):=T121 some (N6 k) d n
theorem jY:∀ (k:Nat) (d:List Nat) (m:Nat) (g:Nat→F) (s:Int) (c:Int) (i:Int) (r:F),N6 k d m g s c i=some r→AY Tryz.prog Tryz.f121.results.toList (at_ Tryz.f121 5) (Z6 d m g s c i) (r)
 | 0,_,_,_,_,_,_,_,h=>nomatch h
 | k+1,d,m,g,s,c,i,r,h=>by
  refine AY.of_cut Ap Ey (T:=[(5,[0,5,6,7,8],1000)]) (n:=200) ?_
  refine gE (Y:=VF (fun r=>some (.ret (r))) (fun d m g s c i=>some (.cut (at_ Tryz.f121 5) (Z6 d m g s c i))) d m g s c i) (by kernel_rfl) ?_
  exact (gS h (fun _ h=>(gS h (fun _ h=>(gS h (fun _ h=>(gS h (fun _ h=>(gS h (fun _ h=>(gS h (fun _ h=>(gS h (fun _ h=>gC (jY k _ _ _ _ _ _ r h)) gN)) gN)) gN)) gN)) gN)) gN)) (fun _ h=>(gS h (fun _ h=>(gS h (fun _ h=>(gS h (fun _ h=>(gS h (fun _ h=>(gS h (fun _ h=>(gS h (fun _ h=>gR (by cases h;rfl)) gN)) gN)) gN)) gN)) gN)) (fun _ h=>(gS h (fun _ h=>(gS h (fun _ h=>gR (by cases h;rfl)) gN)) gN)))))
theorem t121 (k:Nat) (d:List Nat) (n:Int) (r:F) (h:G121 k d n=some r):AY Tryz.prog Tryz.f121.results.toList [.code (AR Tryz.f121)] (start Tryz.f121.ntmps ([AN d,F.int .i64 n].map .f)) (r):=by
 refine AY.of_run Ap Ey (T:=[(5,[0,5,6,7,8],1000)]) (n:=200) ?_
 refine gE (Y:=T121 (fun r=>some (.ret (r))) (fun d m g s c i=>some (.cut (at_ Tryz.f121 5) (Z6 d m g s c i))) d n) (by kernel_rfl) ?_
 exact (gS h (fun _ h=>(gS h (fun _ h=>(gS h (fun _ h=>gC (jY k _ _ _ _ _ _ r h)) gN)) gN)) gN)
def Vl (k:Nat):List Nat→Nat→List Nat
 | [],c=>if c=0 then [] else [c]
 | x :: d,c=>((c+x*2 ^ k) % 4294967296) :: Vl k d ((c+x*2 ^ k) / 4294967296)
theorem VU (k:Nat):∀ (d:List Nat) (c:Nat),val 4294967296 (Vl k d c)=val 4294967296 d*2 ^ k+c
 | [],c=>by by_cases h:c=0 <;> simp [Vl,val,h]
 | x :: d,c=>by
  simp only [Vl,val,VU k d]
  have h:=Nat.mod_add_div (c+x*2 ^ k) 4294967296
  rw [Nat.add_mul,Nat.mul_add,Nat.mul_assoc]
  omega
theorem fB {k c x:Nat} (hk:k<32) (hc:c<2 ^ k) (hx:x<4294967296):c+x*2 ^ k<4294967296*2 ^ k∧(c+x*2 ^ k) / 4294967296<2 ^ k:=by
 have h1:c+x*2 ^ k<4294967296*2 ^ k:=by
  have:=Nat.mul_le_mul_right (2 ^ k) (show x+1≤4294967296 from hx)
  rw [Nat.add_mul] at this
  omega
 exact ⟨h1,Nat.div_lt_of_lt_mul h1⟩
theorem fK (a b:Int):Bz .or .u64 a b=Bz .or .u64 b a:=by rw [bOr,bOr,BitVec.or_comm]
theorem R6 {d:List Nat} {s:Nat} (od:okD 4294967296 d) (hs:s<32):∀ (rest:List Nat) (i c k m:Nat) (o:List Nat) (g:Nat→F),d.drop i=rest→i+rest.length=d.length→c<2 ^ s→okD 4294967296 o→o.length+rest.length≤1900 →
  EK Cn 0 m g o→rest.length<k→d.length≤1900→N6 k d m g s c i=some (AN (AM 4294967296 (val 4294967296 (o++Vl s rest c))))
 | _,_,_,0,_,_,_,_,_,_,_,_,_,h,_=>by omega
 | [],i,c,k+1,m,o,g,hr,hi,hc,oo,hlen,hg,_,hd=>by
  simp only [List.length_nil,Nat.add_zero] at hi hlen
  subst hi
  have sg:∀ n:Nat,(sgn false n).natAbs=n:=DZ false
  rw [N6]
  unfold VF
  rw [decide_eq_false (show ¬ (d.length:Int)<d.length by omega),AJ]
  have hc2:2 ^ s≤2 ^ 31:=Nat.pow_le_pow_right (by omega) (by omega)
  by_cases h0:c=0
  ·subst h0
   have hl:o.length=m:=hg.1.symm
   have ho:B3 0 g=g:=rfl
   rw [decide_eq_false (show ¬ ((0:Nat):Int) > 0 by omega),AJ,Ez,AF,ho,EC hl hg.2 oo,EA hl hg.2,show BD 2000 (F.sl m g)=true by simp only [BD,Nat.ble_eq];omega,sg]
   simp only [Vl,if_true,List.append_nil]
   rfl
  ·have hp:=hg.push c
   have e:IntKind.u32.wrap (c:Int)=(c:Int):=by rw [HE];omega
   have hl:(o++[c]).length=m+1:=by rw [List.length_append,hg.1];rfl
   have ho:B3 0 (fun j=>if j<m then g j else F.int .u32 (c:Int))=(fun j=>if j<m then g j else Cn c):=rfl
   have oc:okD 4294967296 (o++[c]):=Ma oo (by intro w hw;simp at hw;omega)
   have hm:=hg.1
   rw [decide_eq_true (show (c:Int) > 0 by omega),AF,Ez,AF,AF,decide_eq_true (DK (show m+1≤3000 by omega)),AF,Ez,AF,e,ho,EC hl hp.2 oc,EA hl hp.2,show BD 2000 (F.sl (m+1) fun j=>if j<m then g j else Cn c)=true by simp only [BD,Nat.ble_eq];omega,sg]
   simp only [Vl,if_neg h0]
   rfl
 | x :: rest,i,c,k+1,m,o,g,hr,hi,hc,oo,hlen,hg,hk,hd=>by
  obtain ⟨hx,hr',hia⟩:=Im hr
  have hxb:=DC od hia
  rw [hx] at hxb
  obtain ⟨hc1,hc2⟩:=fB hs hc hxb
  have hsb:2 ^ s≤2 ^ 31:=Nat.pow_le_pow_right (by omega) (by omega)
  have hBB:4294967296*2 ^ s<18446744073709551616:=Nat.lt_of_le_of_lt (Nat.mul_le_mul_left _ hsb) (by omega)
  have ih:=R6 od hs rest (i+1) ((c+x*2 ^ s) / 4294967296) k (m+1) (o++[(c+x*2 ^ s) % 4294967296]) _ hr' (by simp only [List.length_cons] at hi;omega) hc2 (Ma oo (by intro w hw;simp at hw;omega)) (by simp only [List.length_cons,List.length_append,List.length_nil] at hlen ⊢;omega) (hg.push _) (by simp at hk;omega) hd
  have ei:IntKind.i64.wrap ((i:Int)+1)=((i+1:Nat):Int):=by rw [Av (by omega) (by omega)];omega
  have w0:IntKind.u64.wrap ((x:Nat):Int)=(x:Nat):=CJ (by omega)
  have ms:min ((s:Nat):Int).toNat IntKind.u64.bits=s:=by rw [Int.toNat_natCast];exact Nat.min_eq_left (by show s≤64;omega)
  have w1:Bz .or .u64 (c:Int) (IntKind.u64.wrap ((x:Int)*2 ^ s))=((c+x*2 ^ s:Nat):Int):=by
   have h:=cB (i:=s) (a:=x) (b:=c) (by omega) hc (by rw [Nat.mul_comm];omega)
   rw [Nat.mul_comm (2 ^ s) x] at h
   rw [wshl,Nat.mod_eq_of_lt (show x*2 ^ s<18446744073709551616 by omega),fK,h,Nat.add_comm]
  have w4:F.int .u32 (IntKind.u32.wrap ((c+x*2 ^ s:Nat):Int))=Cn ((c+x*2 ^ s) % 4294967296):=congrArg (F.int .u32) (by rw [HE];omega)
  have hm:=hg.1
  rw [N6]
  unfold VF
  rw [Int.toNat_natCast (n:=i),hx,w0,ms,w1,w4,Jw,ei,decide_eq_true (show (i:Int)<d.length by omega),decide_eq_true (show (0:Int)≤i by omega),decide_eq_true (show (0:Int)≤s by omega),decide_eq_true (DK (show m+1≤3000 by simp only [List.length_cons] at hlen;omega))]
  simp only [AF,decide_true]
  refine Eq.trans ih ?_
  simp only [Vl]
  rw [List.append_assoc]
  rfl
theorem nC {d:List Nat} {n:Nat} (od:okD 4294967296 d) (hl:n / 32+d.length≤1900):G121 2000 d n=some (AN (AM 4294967296 (val 4294967296 d*2 ^ n))):=by
 unfold G121 T121
 have hn:n / 32≤1900:=by omega
 have e1:IntKind.i64.wrap ((n:Int).tdiv 32)=((n / 32:Nat):Int):=by
  rw [show (n:Int).tdiv 32=((n / 32:Nat):Int) from rfl,Av (by omega) (by omega)]
 have e2:IntKind.u64.wrap ((n:Int).tmod 32)=((n % 32:Nat):Int):=by
  rw [show (n:Int).tmod 32=((n % 32:Nat):Int) from rfl,CJ (by omega)]
 rw [e1,e2,decide_eq_true (show (0:Int)≤((n / 32:Nat):Int) by omega),decide_eq_true (Int.le_refl _),decide_eq_true (DK (show n / 32≤3000 by omega)),Int.toNat_natCast]
 simp only [AF]
 have h:=R6 (d:=d) (s:=n % 32) od (Nat.mod_lt _ (by omega)) d 0 0 2000 (n / 32) (List.replicate (n / 32) 0) (fun _=>F.int .u32 0) rfl (by omega) (Nat.two_pow_pos _) (fun w hw=>by have:=(List.mem_replicate.1 hw).2;omega) (by rw [List.length_replicate];omega)
  ⟨by rw [List.length_replicate],fun j hj=>by simp only [List.getD,List.getElem?_replicate,if_pos hj];rfl⟩ (by omega) (by omega)
 refine Eq.trans h ?_
 rw [Ir,Ki,VU,List.length_replicate,Nat.zero_add,Nat.add_zero]
 congr 3
 rw [Hy n,Nat.mul_left_comm]
def P8 (l:Nat) (n:Int):Bool:=decide (0≤n)&&Nat.ble (n.toNat / 32+l) 1900
def TK:List F→Bool | [x,.int .i64 n]=>A4 x&&P8 (AS x).length n | _=>false
def bA:List F→F | [x,.int .i64 n]=>AN (AM 4294967296 (val 4294967296 (AS x)*2 ^ n.toNat)) | _=>.dflt
theorem okLeft:Ai Tryz.prog 121 TK bA :=
 Ae (c:=AR Tryz.f121) Tryz.func121 (by kernel_rfl) (by kernel_rfl) fun xs hp=>match xs,hp with
 | [x,.int .i64 n],hp=>by
  simp only [TK,P8,Bool.and_eq_true,decide_eq_true_eq,Nat.ble_eq] at hp
  obtain ⟨hx,h0,hl⟩:=hp
  obtain ⟨n,rfl⟩:=Int.eq_ofNat_of_zero_le h0
  rw [Int.toNat_natCast] at hl
  have e:=nC (n:=n) (Ca hx) hl
  exact ⟨[AN (AS x),.int .i64 n],_,⟨(Bk hx).1,.refl _,trivial⟩,t121 2000 _ _ _ e,.refl _⟩
def envS3:Env:=(((((envS2.add 87 (.pure (bS 800) MP)).add 55 (.pure NT A0)).add 56 (.pure (Jd 800) bM)).add 105 (.pure (bS 900) V5)).add 120 (.pure WV WJ)).add 121 (.pure TK bA)
theorem HV:Ax Tryz.prog envS3:=(Env.add_ok (Env.add_ok (Env.add_ok (Env.add_ok (Env.add_ok (Env.add_ok Ey okNeg3.sp) okInt3.sp) okAddZ.sp) okSign3.sp) okBits3.sp) okLeft.sp)
end
end Go.Proofs.YtlefbocihikaoaaGreat.R
