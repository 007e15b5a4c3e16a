/-
 The own walk and what it shows,part 5 of 10.
-/
import Derived.Test.YtonmnfkibnflnaaGreatJ1
import Derived.Test.YtonmnfkibnflnaaGreatJ2
import Derived.Test.YtonmnfkibnflnaaGreatJ3
import Derived.Test.YtonmnfkibnflnaaGreatJ4
set_option linter.unusedVariables false
set_option linter.unusedSimpArgs false
set_option maxRecDepth 100000
set_option exponentiation.threshold 30000
namespace Go.Proofs.YtonmnfkibnflnaaGreat.R
open Go
noncomputable section
/-! ### function 85 -/
def OR (a:List Nat) (b:List Nat) (m:Nat) (g:Nat→F) (c:Int) (i:Int):St:=⟨(U.f (AL a)) :: (U.f (AL b)) :: Al 5 ((U.hs 0 m 0 m) :: (U.f (F.int .u64 c)) :: (U.f (F.int .i64 i)) :: Al 316 []),[HO.arr 1 m g]⟩
def KU :St:=⟨Al 326 [],[]⟩
def KV :St:=⟨Al 326 [],[]⟩
def KW :St:=⟨Al 326 [],[]⟩
def KX :St:=⟨Al 326 [],[]⟩
def KY :St:=⟨Al 326 [],[]⟩
def KZ :St:=⟨Al 326 [],[]⟩
abbrev QN (ρ:Type):=(List Nat)→(List Nat)→(Nat)→(Nat→F)→(Int)→(Int)→Option ρ
abbrev Xf (ρ:Type):=(F)→(F)→Option ρ
def jK {ρ:Type} (ret:Xf ρ) (c7:QN ρ) (c51:Option ρ) (c42:Option ρ) (c38:Option ρ) (c29:Option ρ) (c21:Option ρ) (c15:Option ρ) (a:List Nat) (b:List Nat) (m:Nat) (g:Nat→F) (c:Int) (i:Int):Option ρ :=
 (AD (decide (i ≥ 0))
 (AD (decide (0≤i))
 (AD (decide (i<(↑a.length:Int)))
 (AD (decide (0<(↑b.length:Int)))
 (AD (ZL c (↑(a.getD i.toNat 0):Int) (↑(b.getD (Int.toNat 0) 0):Int))
 (AD (decide (m=m))
 (AD (decide (0≤i))
 (AD (decide (i<(↑m:Int)))
 (AD (decide (m=m))
 (AD (decide (0+i.toNat<m))
 (AD (decide ((g (0+i.toNat)).cells.length=1))
 (AD ((Cd (g (0+i.toNat)) || true)&&true)
 (c7 (a) (b) (m) (fun j ↦ if j=0+i.toNat then F.int .u64 (divQ c (↑(a.getD i.toNat 0):Int) (↑(b.getD (Int.toNat 0) 0):Int)) else g j) (divR c (↑(a.getD i.toNat 0):Int) (↑(b.getD (Int.toNat 0) 0):Int)) (IntKind.i64.wrap (i-1)))
 none)
 none)
 none)
 none)
 none)
 none)
 none)
 none)
 none)
 none)
 none)
 (AD (decide (m=m))
 (AD (Ay (F.sl m (B9 0 g))&&decide ((AS (F.sl m (B9 0 g))).length≤1000))
 (AD (Ay (F.sl 1 (Ar [F.int .u64 c]))&&true)
 (ret (AL (CF (AS (F.sl m (B9 0 g))))) (AL (CF (AS (F.sl 1 (Ar [F.int .u64 c]))))))
 none)
 none)
 none))
def wI {ρ:Type} (ret:Xf ρ) (c7:QN ρ) (c51:Option ρ) (c42:Option ρ) (c38:Option ρ) (c29:Option ρ) (c21:Option ρ) (c15:Option ρ) :Option ρ :=
 none
def wJ {ρ:Type} (ret:Xf ρ) (c7:QN ρ) (c51:Option ρ) (c42:Option ρ) (c38:Option ρ) (c29:Option ρ) (c21:Option ρ) (c15:Option ρ) :Option ρ :=
 none
def wK {ρ:Type} (ret:Xf ρ) (c7:QN ρ) (c51:Option ρ) (c42:Option ρ) (c38:Option ρ) (c29:Option ρ) (c21:Option ρ) (c15:Option ρ) :Option ρ :=
 none
def wL {ρ:Type} (ret:Xf ρ) (c7:QN ρ) (c51:Option ρ) (c42:Option ρ) (c38:Option ρ) (c29:Option ρ) (c21:Option ρ) (c15:Option ρ) :Option ρ :=
 none
def wM {ρ:Type} (ret:Xf ρ) (c7:QN ρ) (c51:Option ρ) (c42:Option ρ) (c38:Option ρ) (c29:Option ρ) (c21:Option ρ) (c15:Option ρ) :Option ρ :=
 none
def wN {ρ:Type} (ret:Xf ρ) (c7:QN ρ) (c51:Option ρ) (c42:Option ρ) (c38:Option ρ) (c29:Option ρ) (c21:Option ρ) (c15:Option ρ) :Option ρ :=
 none
mutual
def Jr:Nat→(List Nat)→(List Nat)→(Nat)→(Nat→F)→(Int)→(Int)→Option ((F) × (F))
 | 0,_,_,_,_,_,_=>none
 | k+1,a,b,m,g,c,i=>jK (fun r1 r2=>some (r1,r2)) (Jr k) (Kb k) (Kc k) (Kd k) (Ke k) (Kf k) (Kg k) a b m g c i
 termination_by structural k=>k
def Kb:Nat→Option ((F) × (F))
 | 0=>none
 | k+1=>wI (fun r1 r2=>some (r1,r2)) (Jr k) (Kb k) (Kc k) (Kd k) (Ke k) (Kf k) (Kg k)
 termination_by structural k=>k
def Kc:Nat→Option ((F) × (F))
 | 0=>none
 | k+1=>wJ (fun r1 r2=>some (r1,r2)) (Jr k) (Kb k) (Kc k) (Kd k) (Ke k) (Kf k) (Kg k)
 termination_by structural k=>k
def Kd:Nat→Option ((F) × (F))
 | 0=>none
 | k+1=>wK (fun r1 r2=>some (r1,r2)) (Jr k) (Kb k) (Kc k) (Kd k) (Ke k) (Kf k) (Kg k)
 termination_by structural k=>k
def Ke:Nat→Option ((F) × (F))
 | 0=>none
 | k+1=>wL (fun r1 r2=>some (r1,r2)) (Jr k) (Kb k) (Kc k) (Kd k) (Ke k) (Kf k) (Kg k)
 termination_by structural k=>k
def Kf:Nat→Option ((F) × (F))
 | 0=>none
 | k+1=>wM (fun r1 r2=>some (r1,r2)) (Jr k) (Kb k) (Kc k) (Kd k) (Ke k) (Kf k) (Kg k)
 termination_by structural k=>k
def Kg:Nat→Option ((F) × (F))
 | 0=>none
 | k+1=>wN (fun r1 r2=>some (r1,r2)) (Jr k) (Kb k) (Kc k) (Kd k) (Ke k) (Kf k) (Kg k)
 termination_by structural k=>k
end
def T85 {ρ:Type} (ret:Xf ρ) (c7:QN ρ) (c51:Option ρ) (c42:Option ρ) (c38:Option ρ) (c29:Option ρ) (c21:Option ρ) (c15:Option ρ) (a:List Nat) (b:List Nat):Option ρ :=
 (AD (Ay (AL a)&&decide ((AS (AL a)).length≤1000)&&(Ay (AL b)&&decide ((AS (AL b)).length≤1000)))
 (AD (decide (Kq (AS (AL a)) (AS (AL b))<0))
 (ret (F.sl 0 fun x ↦ F.bool false) (AL a))
 (AD ((↑b.length:Int)==1)
 (AD (decide ((↑a.length:Int)≤(↑a.length:Int)))
 (AD (decide ((↑a.length:Int)*(((8:Nat):Int)+1)≤(↑Bs:Int)))
 (c7 (a) (b) ((↑a.length:Int).toNat) (fun x ↦ F.int .u64 0) (0) (IntKind.i64.wrap ((↑a.length:Int)-1)))
 none)
 none)
 (AD (decide (0≤IntKind.i64.wrap ((↑b.length:Int)-1)))
 (AD (decide (IntKind.i64.wrap ((↑b.length:Int)-1)<(↑b.length:Int)))
 (AD (I7 (↑(b.getD (IntKind.i64.wrap ((↑b.length:Int)-1)).toNat 0):Int))
 none
 none)
 none)
 none)))
 none)
def G85 (k:Nat) (a:List Nat) (b:List Nat):Option ((F) × (F)):=T85 (fun r1 r2=>some (r1,r2)) (Jr k) (Kb k) (Kc k) (Kd k) (Ke k) (Kf k) (Kg k) a b
mutual
theorem t85_7:∀ (k:Nat) (a:List Nat) (b:List Nat) (m:Nat) (g:Nat→F) (c:Int) (i:Int) (r1:F) (r2:F),Jr k a b m g c i=some (r1,r2)→AX Tryz.prog Tryz.f85.results.toList (at_ Tryz.f85 7) (OR a b m g c i) (F.tup [r1,r2])
 | 0,_,_,_,_,_,_,_,_,h=>nomatch h
 | k+1,a,b,m,g,c,i,r1,r2,h=>by
  refine AX.of_cut Au Eh (T:=[(7,[0,1,7,8,9],1000),(51,[10,13,28,289,290],1000),(42,[6,10,11,12,13,14,15,20,26,236,237],1000),(38,[6,10,11,12,13,14,15,20],1000),(29,[6,10,11,12,13,14,15,20,21,175,176],1000),(21,[6,10,11,12,13,14,15,16],1000),(15,[6,10,11,12,13,14],1000)]) (n:=200) ?_
  refine gE (Y:=jK (fun r1 r2=>some (.ret (F.tup [r1,r2]))) (fun a b m g c i=>some (.cut (at_ Tryz.f85 7) (OR a b m g c i))) (some (.cut (at_ Tryz.f85 51) (KU ))) (some (.cut (at_ Tryz.f85 42) (KV ))) (some (.cut (at_ Tryz.f85 38) (KW ))) (some (.cut (at_ Tryz.f85 29) (KX ))) (some (.cut (at_ Tryz.f85 21) (KY ))) (some (.cut (at_ Tryz.f85 15) (KZ ))) a b m g c i) (by kernel_rfl) ?_
  exact (gS h (fun _ h=>(gS h (fun _ h=>(gS h (fun _ h=>(gS h (fun _ h=>(gS h (fun _ h=>(gS h (fun _ h=>(gS h (fun _ h=>(gS h (fun _ h=>(gS h (fun _ h=>(gS h (fun _ h=>(gS h (fun _ h=>(gS h (fun _ h=>gC (t85_7 k _ _ _ _ _ _ r1 r2 h)) gN)) gN)) gN)) gN)) gN)) gN)) gN)) gN)) gN)) gN)) gN)) (fun _ h=>(gS h (fun _ h=>(gS h (fun _ h=>(gS h (fun _ h=>gR (by cases h;rfl)) gN)) gN)) gN)))
theorem t85_51:∀ (k:Nat)  (r1:F) (r2:F),Kb k =some (r1,r2)→AX Tryz.prog Tryz.f85.results.toList (at_ Tryz.f85 51) (KU ) (F.tup [r1,r2])
 | 0,_,_,h=>nomatch h
 | k+1,r1,r2,h=>by
  refine AX.of_cut Au Eh (T:=[(7,[0,1,7,8,9],1000),(51,[10,13,28,289,290],1000),(42,[6,10,11,12,13,14,15,20,26,236,237],1000),(38,[6,10,11,12,13,14,15,20],1000),(29,[6,10,11,12,13,14,15,20,21,175,176],1000),(21,[6,10,11,12,13,14,15,16],1000),(15,[6,10,11,12,13,14],1000)]) (n:=200) ?_
  refine gE (Y:=wI (fun r1 r2=>some (.ret (F.tup [r1,r2]))) (fun a b m g c i=>some (.cut (at_ Tryz.f85 7) (OR a b m g c i))) (some (.cut (at_ Tryz.f85 51) (KU ))) (some (.cut (at_ Tryz.f85 42) (KV ))) (some (.cut (at_ Tryz.f85 38) (KW ))) (some (.cut (at_ Tryz.f85 29) (KX ))) (some (.cut (at_ Tryz.f85 21) (KY ))) (some (.cut (at_ Tryz.f85 15) (KZ ))) ) (by kernel_rfl) ?_
  exact nomatch h
theorem t85_42:∀ (k:Nat)  (r1:F) (r2:F),Kc k =some (r1,r2)→AX Tryz.prog Tryz.f85.results.toList (at_ Tryz.f85 42) (KV ) (F.tup [r1,r2])
 | 0,_,_,h=>nomatch h
 | k+1,r1,r2,h=>by
  refine AX.of_cut Au Eh (T:=[(7,[0,1,7,8,9],1000),(51,[10,13,28,289,290],1000),(42,[6,10,11,12,13,14,15,20,26,236,237],1000),(38,[6,10,11,12,13,14,15,20],1000),(29,[6,10,11,12,13,14,15,20,21,175,176],1000),(21,[6,10,11,12,13,14,15,16],1000),(15,[6,10,11,12,13,14],1000)]) (n:=200) ?_
  refine gE (Y:=wJ (fun r1 r2=>some (.ret (F.tup [r1,r2]))) (fun a b m g c i=>some (.cut (at_ Tryz.f85 7) (OR a b m g c i))) (some (.cut (at_ Tryz.f85 51) (KU ))) (some (.cut (at_ Tryz.f85 42) (KV ))) (some (.cut (at_ Tryz.f85 38) (KW ))) (some (.cut (at_ Tryz.f85 29) (KX ))) (some (.cut (at_ Tryz.f85 21) (KY ))) (some (.cut (at_ Tryz.f85 15) (KZ ))) ) (by kernel_rfl) ?_
  exact nomatch h
theorem t85_38:∀ (k:Nat)  (r1:F) (r2:F),Kd k =some (r1,r2)→AX Tryz.prog Tryz.f85.results.toList (at_ Tryz.f85 38) (KW ) (F.tup [r1,r2])
 | 0,_,_,h=>nomatch h
 | k+1,r1,r2,h=>by
  refine AX.of_cut Au Eh (T:=[(7,[0,1,7,8,9],1000),(51,[10,13,28,289,290],1000),(42,[6,10,11,12,13,14,15,20,26,236,237],1000),(38,[6,10,11,12,13,14,15,20],1000),(29,[6,10,11,12,13,14,15,20,21,175,176],1000),(21,[6,10,11,12,13,14,15,16],1000),(15,[6,10,11,12,13,14],1000)]) (n:=200) ?_
  refine gE (Y:=wK (fun r1 r2=>some (.ret (F.tup [r1,r2]))) (fun a b m g c i=>some (.cut (at_ Tryz.f85 7) (OR a b m g c i))) (some (.cut (at_ Tryz.f85 51) (KU ))) (some (.cut (at_ Tryz.f85 42) (KV ))) (some (.cut (at_ Tryz.f85 38) (KW ))) (some (.cut (at_ Tryz.f85 29) (KX ))) (some (.cut (at_ Tryz.f85 21) (KY ))) (some (.cut (at_ Tryz.f85 15) (KZ ))) ) (by kernel_rfl) ?_
  exact nomatch h
theorem t85_29:∀ (k:Nat)  (r1:F) (r2:F),Ke k =some (r1,r2)→AX Tryz.prog Tryz.f85.results.toList (at_ Tryz.f85 29) (KX ) (F.tup [r1,r2])
 | 0,_,_,h=>nomatch h
 | k+1,r1,r2,h=>by
  refine AX.of_cut Au Eh (T:=[(7,[0,1,7,8,9],1000),(51,[10,13,28,289,290],1000),(42,[6,10,11,12,13,14,15,20,26,236,237],1000),(38,[6,10,11,12,13,14,15,20],1000),(29,[6,10,11,12,13,14,15,20,21,175,176],1000),(21,[6,10,11,12,13,14,15,16],1000),(15,[6,10,11,12,13,14],1000)]) (n:=200) ?_
  refine gE (Y:=wL (fun r1 r2=>some (.ret (F.tup [r1,r2]))) (fun a b m g c i=>some (.cut (at_ Tryz.f85 7) (OR a b m g c i))) (some (.cut (at_ Tryz.f85 51) (KU ))) (some (.cut (at_ Tryz.f85 42) (KV ))) (some (.cut (at_ Tryz.f85 38) (KW ))) (some (.cut (at_ Tryz.f85 29) (KX ))) (some (.cut (at_ Tryz.f85 21) (KY ))) (some (.cut (at_ Tryz.f85 15) (KZ ))) ) (by kernel_rfl) ?_
  exact nomatch h
theorem t85_21:∀ (k:Nat)  (r1:F) (r2:F),Kf k =some (r1,r2)→AX Tryz.prog Tryz.f85.results.toList (at_ Tryz.f85 21) (KY ) (F.tup [r1,r2])
 | 0,_,_,h=>nomatch h
 | k+1,r1,r2,h=>by
  refine AX.of_cut Au Eh (T:=[(7,[0,1,7,8,9],1000),(51,[10,13,28,289,290],1000),(42,[6,10,11,12,13,14,15,20,26,236,237],1000),(38,[6,10,11,12,13,14,15,20],1000),(29,[6,10,11,12,13,14,15,20,21,175,176],1000),(21,[6,10,11,12,13,14,15,16],1000),(15,[6,10,11,12,13,14],1000)]) (n:=200) ?_
  refine gE (Y:=wM (fun r1 r2=>some (.ret (F.tup [r1,r2]))) (fun a b m g c i=>some (.cut (at_ Tryz.f85 7) (OR a b m g c i))) (some (.cut (at_ Tryz.f85 51) (KU ))) (some (.cut (at_ Tryz.f85 42) (KV ))) (some (.cut (at_ Tryz.f85 38) (KW ))) (some (.cut (at_ Tryz.f85 29) (KX ))) (some (.cut (at_ Tryz.f85 21) (KY ))) (some (.cut (at_ Tryz.f85 15) (KZ ))) ) (by kernel_rfl) ?_
  exact nomatch h
theorem t85_15:∀ (k:Nat)  (r1:F) (r2:F),Kg k =some (r1,r2)→AX Tryz.prog Tryz.f85.results.toList (at_ Tryz.f85 15) (KZ ) (F.tup [r1,r2])
 | 0,_,_,h=>nomatch h
 | k+1,r1,r2,h=>by
  refine AX.of_cut Au Eh (T:=[(7,[0,1,7,8,9],1000),(51,[10,13,28,289,290],1000),(42,[6,10,11,12,13,14,15,20,26,236,237],1000),(38,[6,10,11,12,13,14,15,20],1000),(29,[6,10,11,12,13,14,15,20,21,175,176],1000),(21,[6,10,11,12,13,14,15,16],1000),(15,[6,10,11,12,13,14],1000)]) (n:=200) ?_
  refine gE (Y:=wN (fun r1 r2=>some (.ret (F.tup [r1,r2]))) (fun a b m g c i=>some (.cut (at_ Tryz.f85 7) (OR a b m g c i))) (some (.cut (at_ Tryz.f85 51) (KU ))) (some (.cut (at_ Tryz.f85 42) (KV ))) (some (.cut (at_ Tryz.f85 38) (KW ))) (some (.cut (at_ Tryz.f85 29) (KX ))) (some (.cut (at_ Tryz.f85 21) (KY ))) (some (.cut (at_ Tryz.f85 15) (KZ ))) ) (by kernel_rfl) ?_
  exact nomatch h
end
theorem t85 (k:Nat) (a:List Nat) (b:List Nat) (r1:F) (r2:F) (h:G85 k a b=some (r1,r2)):AX Tryz.prog Tryz.f85.results.toList [.code (AT Tryz.f85)] (start Tryz.f85.ntmps ([AL a,AL b].map .f)) (F.tup [r1,r2]):=by
 refine AX.of_run Au Eh (T:=[(7,[0,1,7,8,9],1000),(51,[10,13,28,289,290],1000),(42,[6,10,11,12,13,14,15,20,26,236,237],1000),(38,[6,10,11,12,13,14,15,20],1000),(29,[6,10,11,12,13,14,15,20,21,175,176],1000),(21,[6,10,11,12,13,14,15,16],1000),(15,[6,10,11,12,13,14],1000)]) (n:=200) ?_
 refine gE (Y:=T85 (fun r1 r2=>some (.ret (F.tup [r1,r2]))) (fun a b m g c i=>some (.cut (at_ Tryz.f85 7) (OR a b m g c i))) (some (.cut (at_ Tryz.f85 51) (KU ))) (some (.cut (at_ Tryz.f85 42) (KV ))) (some (.cut (at_ Tryz.f85 38) (KW ))) (some (.cut (at_ Tryz.f85 29) (KX ))) (some (.cut (at_ Tryz.f85 21) (KY ))) (some (.cut (at_ Tryz.f85 15) (KZ ))) a b) (by kernel_rfl) ?_
 exact (gS h (fun _ h=>(gS h (fun _ h=>gR (by cases h;rfl)) (fun _ h=>(gS h (fun _ h=>(gS h (fun _ h=>(gS h (fun _ h=>gC (t85_7 k _ _ _ _ _ _ r1 r2 h)) gN)) gN)) (fun _ h=>(gS h (fun _ h=>(gS h (fun _ h=>(gS h gN gN)) gN)) gN)))))) gN)
theorem nK {B y:Nat} {a:List Nat} {i:Nat} (hi:i<a.length):Ej B y (a.drop i)=(((Ej B y (a.drop (i+1))).2*B+a.getD i 0) / y :: (Ej B y (a.drop (i+1))).1,((Ej B y (a.drop (i+1))).2*B+a.getD i 0) % y):=by
 rw [List.drop_eq_getElem_cons hi]
 simp only [Ej,List.getD,List.getElem?_eq_getElem hi,Option.getD_some]
theorem rep_set (i v:Nat) (q:List Nat):(List.replicate (i+1) 0++q).set i v=List.replicate i 0++v :: q:=by
 rw [List.replicate_succ',List.append_assoc]
 simp [List.set_append]
theorem div_end {a b:List Nat} {m k c:Nat} {g:Nat→F} {l:List Nat} (hl:l.length=m) (ol:okD 18446744073709551616 l) (hm:m≤900) (hc:c<18446744073709551616) (hg:∀ j,j<m→g j=BK (l.getD j 0)) :
  Jr (k+1) a b m g c (-1)=some (AL (CF l),AL (CF [c])):=by
 rw [Jr]
 unfold jK
 have e1:AS (F.sl m (B9 0 g))=l:=D3 hl hg
 have e2:AS (F.sl 1 (Ar [F.int .u64 (c:Int)]))=[c]:=rfl
 have e3:Ay (F.sl 1 (Ar [F.int .u64 (c:Int)]))=true:=DZ (l:=[c]) rfl (fun j hj=>by rw [show j=0 by omega];rfl) (by intro w hw;simp at hw;omega)
 have e4:Ay (F.sl m (B9 0 g))=true:=DZ hl hg ol
 rw [e1,e2,e3,e4,decide_eq_false (show ¬ (-1:Int) ≥ 0 by omega),AJ,decide_eq_true (show m=m from rfl),decide_eq_true (show l.length≤1000 by omega)]
 rfl
theorem aD {a:List Nat} {y:Nat} (oa:okD 18446744073709551616 a) (ha:a.length≤900) (hy0:0<y) (hy:y<18446744073709551616):∀ (n k:Nat) (g:Nat→F),n≤a.length→n<k→(∀ j,j<a.length→g j=BK ((List.replicate n 0++(Ej 18446744073709551616 y (a.drop n)).1).getD j 0)) →
  Jr k a [y] a.length g ((Ej 18446744073709551616 y (a.drop n)).2:Nat) ((n:Int)-1)=some (AL (CF (Ej 18446744073709551616 y a).1),AL (CF [(Ej 18446744073709551616 y a).2]))
 | _,0,_,_,hk,_=>by omega
 | 0,k+1,g,_,_,hg=>by
  have h2:=(Lk 18446744073709551616 hy0 a).2
  simp only [List.drop_zero,List.replicate_zero,List.nil_append] at hg ⊢
  exact div_end (by rw [SN]) (W6 hy0 a oa) ha (by omega) hg
 | n+1,k+1,g,hn,hk,hg=>by
  have hlt:n<a.length:=by omega
  have hx:=Dk oa hlt
  have hr:=(Lk 18446744073709551616 hy0 (a.drop (n+1))).2
  have hd:=nK (B:=18446744073709551616) (y:=y) hlt
  have hlen:(List.replicate (n+1) 0++(Ej 18446744073709551616 y (a.drop (n+1))).1).length=a.length:=by
   rw [List.length_append,List.length_replicate,SN,List.length_drop];omega
  have ih:=aD oa ha hy0 hy n k (fun j=>if j=0+n then F.int .u64 (((Ej 18446744073709551616 y (a.drop n)).1.headD 0:Nat):Int) else g j) (by omega) (by omega) (fun j hj=>by
   have:=OZ (v:=(Ej 18446744073709551616 y (a.drop n)).1.headD 0) hlen hlt hg j hj
   rw [rep_set] at this
   refine this.trans ?_
   rw [hd]
   rfl)
  rw [Jr]
  unfold jK
  have ei:((n+1:Nat):Int)-1=(n:Int):=by omega
  rw [ei,Int.toNat_natCast,show Int.toNat 0=0 from rfl]
  have ed:ZL ((Ej 18446744073709551616 y (a.drop (n+1))).2:Nat) (a.getD n 0:Nat) (([y]:List Nat).getD 0 0:Nat)=true:=VJ.2 (by
   show (0≤_∧_)∧(_∧_)∧(0≤((y:Nat):Int)∧((y:Nat):Int)<_)∧_<((y:Nat):Int)
   omega)
  rw [ed,hg (0+n) (by omega),EW]
  rw [decide_eq_true (show (n:Int) ≥ 0 by omega),decide_eq_true (show (n:Int)<a.length by omega),decide_eq_true (show (0:Int)<(([y]:List Nat).length:Int) by simp),decide_eq_true (show 0+n<a.length by omega),decide_eq_true (DO _),decide_eq_true (show a.length=a.length from rfl)]
  simp only [AH]
  rw [show ([y]:List Nat).getD 0 0=y from rfl,aF,aE,As (by omega) (by omega)]
  rw [hd] at ih
  exact ih
theorem vR {n:Nat} (h0:n ≠ 0) (h:n<18446744073709551616):AM 18446744073709551616 n=[n]:=by
 rw [Ll (by omega) h0,Nat.mod_eq_of_lt h,Nat.div_eq_of_lt h,BU]
theorem vP {m n:Nat} (hn:n ≠ 0) (h:n<18446744073709551616 ∨ m<n) (hm:m<18446744073709551616 ^ 400) (hnb:n<18446744073709551616 ^ 400):∃ r1 r2,G85 1000 (AM 18446744073709551616 m) (AM 18446744073709551616 n)=some (r1,r2)∧FLe r1 (AL (AM 18446744073709551616 (m / n)))∧FLe r2 (AL (AM 18446744073709551616 (m % n))):=by
 have lm:=EX hm
 have ln:=EX hnb
 clear hm hnb
 unfold G85 T85
 rw [CR,CR,C2,C2,decide_eq_true (show (AM 18446744073709551616 m).length≤1000 by omega),decide_eq_true (show (AM 18446744073709551616 n).length≤1000 by omega)]
 simp only [Bool.and_self,AH]
 have hc:=(NA m n).2
 by_cases hlt:m<n
 ·rw [decide_eq_true (hc.2 hlt),AH]
  refine ⟨_,_,rfl,?_,?_⟩
  ·rw [Nat.div_eq_of_lt hlt,BU]
   exact FLe.sl fun j hj=>by omega
  ·rw [Nat.mod_eq_of_lt hlt];exact .refl _
 ·have hB:n<18446744073709551616:=by omega
  rw [decide_eq_false (fun hx=>hlt (hc.1 hx)),AJ,vR hn hB]
  rw [show ((([n]:List Nat).length:Int)==1)=true from rfl,AH,decide_eq_true (Int.le_refl _),decide_eq_true (GW (show (AM 18446744073709551616 m).length≤1000 by omega)),Int.toNat_natCast]
  simp only [AH]
  have hl:=aD (a:=AM 18446744073709551616 m) (y:=n) (BG (by omega) m) (by omega) (by omega) hB (AM 18446744073709551616 m).length 1000 (fun _=>F.int .u64 0) (Nat.le_refl _) (by omega) (fun j hj=>by
   rw [List.drop_length]
   simp only [Ej,List.append_nil,List.getD,List.getElem?_replicate,if_pos hj]
   rfl)
  rw [List.drop_length] at hl
  rw [As (by omega) (by omega)]
  obtain ⟨v1,v2⟩:=Lk 18446744073709551616 (show 0<n by omega) (AM 18446744073709551616 m)
  rw [DN] at v1
  obtain ⟨q1,q2⟩:=SM v1 v2
  refine ⟨_,_,hl,?_,?_⟩
  ·rw [IX (by omega) (W6 (by omega) _ (BG (by omega) m)),q1];exact .refl _
  ·have ok1:okD 18446744073709551616 [(Ej 18446744073709551616 n (AM 18446744073709551616 m)).2]:=by intro w hw;simp at hw;omega
   have v3:val 18446744073709551616 [(Ej 18446744073709551616 n (AM 18446744073709551616 m)).2]=(Ej 18446744073709551616 n (AM 18446744073709551616 m)).2:=by simp [val]
   rw [IX (by omega) ok1,v3,q2];exact .refl _
def Lj (m n:Nat):Bool:=!(Nat.beq n 0)&&(Nat.ble (n+1) 18446744073709551616 || Nat.ble (m+1) n)
theorem HE {m n:Nat}:Lj m n=true ↔ n ≠ 0∧(n<18446744073709551616 ∨ m<n):=by
 unfold Lj
 rw [Bool.and_eq_true,Bool.or_eq_true,Nat.ble_eq,Nat.ble_eq,Bool.not_eq_true']
 constructor
 ·rintro ⟨h1,h2⟩
  exact ⟨fun e=>(by subst e;cases h1),by omega⟩
 ·rintro ⟨h1,h2⟩
  refine ⟨?_,by omega⟩
  cases hb:Nat.beq n 0 with
  | false=>rfl
  | true=>exact absurd (Nat.eq_of_beq_eq_true hb) h1
def G0 (n:Nat) (x:F):Bool:=Ay x&&BB n x&&Oe (AS x)
theorem Rm {n:Nat} {x:F} (h:G0 n x=true):Ay x=true∧val 18446744073709551616 (AS x)<18446744073709551616 ^ n∧AM 18446744073709551616 (val 18446744073709551616 (AS x))=AS x:=by
 simp only [G0,Bool.and_eq_true] at h
 obtain ⟨⟨h1,h2⟩,h3⟩:=h
 refine ⟨h1,?_,SO h1 (EM.1 h3)⟩
 exact Nat.lt_of_lt_of_le (K1 _ (C7 h1)) (Nat.pow_le_pow_right (by omega) (H3 h1 h2))
theorem HS {m n:Nat} (h:m<18446744073709551616 ^ n):G0 n (AL (AM 18446744073709551616 m))=true:=by
 simp only [G0,Bool.and_eq_true]
 exact ⟨⟨C2 m,Cv h (Nat.le_refl _)⟩,by rw [DS];exact EM.2 (CS (by omega) m)⟩
def Wd:List F→Bool | [x,y]=>G0 400 x&&G0 400 y&&Lj (val 18446744073709551616 (AS x)) (val 18446744073709551616 (AS y)) | _=>false
def gU:List F→F | [x,y]=>.tup [AL (AM 18446744073709551616 (val 18446744073709551616 (AS x) / val 18446744073709551616 (AS y))),AL (AM 18446744073709551616 (val 18446744073709551616 (AS x) % val 18446744073709551616 (AS y)))] | _=>.dflt
theorem okDivW:Ak Tryz.prog 85 Wd gU :=
 Ad (c:=AT Tryz.f85) Tryz.func85 (by kernel_rfl) (by kernel_rfl) fun xs hp=>match xs,hp with
 | [x,y],hp=>by
  simp only [Wd,Bool.and_eq_true] at hp
  obtain ⟨⟨hx,hy⟩,hd⟩:=hp
  obtain ⟨x1,x2,x3⟩:=Rm hx
  obtain ⟨y1,y2,y3⟩:=Rm hy
  obtain ⟨d1,d2⟩:=HE.1 hd
  obtain ⟨r1,r2,e,f1,f2⟩:=vP d1 d2 x2 y2
  rw [x3,y3] at e
  exact ⟨[AL (AS x),AL (AS y)],_,⟨(CC x1).1,(CC y1).1,trivial⟩,t85 1000 _ _ _ _ e,FLe.tup ⟨f1,f2,trivial⟩⟩
def uU:Env:=uV.add 85 (.pure Wd gU)
theorem GN:Az Tryz.prog uU:=(Env.add_ok Eh okDivW.sp)
end
noncomputable section
/-! ### function 70 -/
def T70 {ρ:Type} (ret:Xf ρ) (x:Int) (y:Int):Option ρ :=
 (AD (G0 400 (AL (AM 18446744073709551616 x.natAbs))&&G0 400 (AL (AM 18446744073709551616 y.natAbs))&&Lj (val 18446744073709551616 (AS (AL (AM 18446744073709551616 x.natAbs)))) (val 18446744073709551616 (AS (AL (AM 18446744073709551616 y.natAbs)))))
 (AD (Ay (AL (AM 18446744073709551616 (val 18446744073709551616 (AS (AL (AM 18446744073709551616 x.natAbs))) / val 18446744073709551616 (AS (AL (AM 18446744073709551616 y.natAbs))))))&&BB 1000 (AL (AM 18446744073709551616 (val 18446744073709551616 (AS (AL (AM 18446744073709551616 x.natAbs))) / val 18446744073709551616 (AS (AL (AM 18446744073709551616 y.natAbs)))))))
 (AD (Ay (AL (AM 18446744073709551616 (val 18446744073709551616 (AS (AL (AM 18446744073709551616 x.natAbs))) % val 18446744073709551616 (AS (AL (AM 18446744073709551616 y.natAbs))))))&&BB 1000 (AL (AM 18446744073709551616 (val 18446744073709551616 (AS (AL (AM 18446744073709551616 x.natAbs))) % val 18446744073709551616 (AS (AL (AM 18446744073709551616 y.natAbs)))))))
 (AD (decide (sgn (decide (x<0)) (val 18446744073709551616 (AS (AL (AM 18446744073709551616 (val 18446744073709551616 (AS (AL (AM 18446744073709551616 x.natAbs))) % val 18446744073709551616 (AS (AL (AM 18446744073709551616 y.natAbs))))))))<0))
 (AD (Aq 400 (AF y))
 (AD (Aq 400 (AF (sgn (decide (x<0)) (val 18446744073709551616 (AS (AL (AM 18446744073709551616 (val 18446744073709551616 (AS (AL (AM 18446744073709551616 x.natAbs))) % val 18446744073709551616 (AS (AL (AM 18446744073709551616 y.natAbs))))))))))&&Aq 400 (Ot [AF y]))
 (AD (decide (y<0))
 (AD (Aq 400 (AF (sgn (!decide (x<0)==decide (y<0)) (val 18446744073709551616 (AS (AL (AM 18446744073709551616 (val 18446744073709551616 (AS (AL (AM 18446744073709551616 x.natAbs))) / val 18446744073709551616 (AS (AL (AM 18446744073709551616 y.natAbs))))))))))&&true)
 (ret (AF (AG (AF (sgn (!decide (x<0)==decide (y<0)) (val 18446744073709551616 (AS (AL (AM 18446744073709551616 (val 18446744073709551616 (AS (AL (AM 18446744073709551616 x.natAbs))) / val 18446744073709551616 (AS (AL (AM 18446744073709551616 y.natAbs))))))))))+AG (AC [F.int .i64 1]))) (AF (AG (AF (sgn (decide (x<0)) (val 18446744073709551616 (AS (AL (AM 18446744073709551616 (val 18446744073709551616 (AS (AL (AM 18446744073709551616 x.natAbs))) % val 18446744073709551616 (AS (AL (AM 18446744073709551616 y.natAbs))))))))))+AG (Ot [AF y]))))
 none)
 (AD (Aq 400 (AF (sgn (!decide (x<0)==decide (y<0)) (val 18446744073709551616 (AS (AL (AM 18446744073709551616 (val 18446744073709551616 (AS (AL (AM 18446744073709551616 x.natAbs))) / val 18446744073709551616 (AS (AL (AM 18446744073709551616 y.natAbs))))))))))&&true)
 (ret (AF (AG (AF (sgn (!decide (x<0)==decide (y<0)) (val 18446744073709551616 (AS (AL (AM 18446744073709551616 (val 18446744073709551616 (AS (AL (AM 18446744073709551616 x.natAbs))) / val 18446744073709551616 (AS (AL (AM 18446744073709551616 y.natAbs))))))))))-AG (AC [F.int .i64 1]))) (AF (AG (AF (sgn (decide (x<0)) (val 18446744073709551616 (AS (AL (AM 18446744073709551616 (val 18446744073709551616 (AS (AL (AM 18446744073709551616 x.natAbs))) % val 18446744073709551616 (AS (AL (AM 18446744073709551616 y.natAbs))))))))))+AG (Ot [AF y]))))
 none))
 none)
 none)
 (ret (AF (sgn (!decide (x<0)==decide (y<0)) (val 18446744073709551616 (AS (AL (AM 18446744073709551616 (val 18446744073709551616 (AS (AL (AM 18446744073709551616 x.natAbs))) / val 18446744073709551616 (AS (AL (AM 18446744073709551616 y.natAbs)))))))))) (AF (sgn (decide (x<0)) (val 18446744073709551616 (AS (AL (AM 18446744073709551616 (val 18446744073709551616 (AS (AL (AM 18446744073709551616 x.natAbs))) % val 18446744073709551616 (AS (AL (AM 18446744073709551616 y.natAbs))))))))))))
 none)
 none)
 none)
def G70 (x:Int) (y:Int):Option ((F) × (F)):=T70 (fun a b=>some (a,b)) x y
theorem t70 (x:Int) (y:Int) (a:F) (b:F) (h:G70 x y=some (a,b)):AX Tryz.prog Tryz.f70.results.toList [.code (AT Tryz.f70)] (start Tryz.f70.ntmps ([AF x,AF y].map .f)) (F.tup [a,b]):=by
 refine AX.of_run Au GN (T:=[]) (n:=200) ?_
 refine gE (Y:=T70 (fun a b=>some (.ret (F.tup [a,b]))) x y) (by kernel_rfl) ?_
 exact (gS h (fun _ h=>(gS h (fun _ h=>(gS h (fun _ h=>(gS h (fun _ h=>(gS h (fun _ h=>(gS h (fun _ h=>(gS h (fun _ h=>(gS h (fun _ h=>gR (by cases h;rfl)) gN)) (fun _ h=>(gS h (fun _ h=>gR (by cases h;rfl)) gN)))) gN)) gN)) (fun _ h=>gR (by cases h;rfl)))) gN)) gN)) gN)
theorem fY (x y:Int) (hy:y ≠ 0):sgn (!(decide (x<0)==decide (y<0))) (x.natAbs / y.natAbs)=x.tdiv y:=by
 have key:∀ a b:Nat,((a / b:Nat):Int)=(a:Int).tdiv b:=fun a b=>rfl
 rcases Int.natAbs_eq x with hx | hx <;> rcases Int.natAbs_eq y with hy' | hy'
 ·rw [decide_eq_false (show ¬ x<0 by omega),decide_eq_false (show ¬ y<0 by omega)]
  conv=>rhs;rw [hx,hy']
  exact key _ _
 ·rw [decide_eq_false (show ¬ x<0 by omega),decide_eq_true (show y<0 by omega)]
  conv=>rhs;rw [hx,hy',Int.tdiv_neg]
  exact congrArg (- ·) (key _ _)
 ·by_cases h0:x=0
  ·subst h0;simp [sgn]
  rw [decide_eq_true (show x<0 by omega),decide_eq_false (show ¬ y<0 by omega)]
  conv=>rhs;rw [hx,hy',Int.neg_tdiv]
  exact congrArg (- ·) (key _ _)
 ·by_cases h0:x=0
  ·subst h0;simp [sgn]
  rw [decide_eq_true (show x<0 by omega),decide_eq_true (show y<0 by omega)]
  conv=>rhs;rw [hx,hy',Int.neg_tdiv,Int.tdiv_neg,Int.neg_neg]
  exact key _ _
theorem fX (x y:Int):sgn (decide (x<0)) (x.natAbs % y.natAbs)=x.tmod y:=by
 have key:∀ a b:Nat,((a % b:Nat):Int)=(a:Int).tmod b:=fun a b=>rfl
 have hy:x.tmod y=x.tmod (y.natAbs:Int):=by
  rcases Int.natAbs_eq y with hy | hy
  ·rw [← hy]
  ·conv=>lhs;rw [hy,Int.tmod_neg]
 rw [hy]
 rcases Int.natAbs_eq x with hx | hx
 ·rw [decide_eq_false (show ¬ x<0 by omega)]
  conv=>rhs;rw [hx]
  exact key _ _
 ·by_cases h0:x=0
  ·subst h0;simp [sgn]
  rw [decide_eq_true (show x<0 by omega)]
  conv=>rhs;rw [hx,Int.neg_tmod]
  exact congrArg (- ·) (key _ _)
theorem Lh {x y q r:Int} (h:q*y+r=x) (h0:0≤r) (hr:r<y.natAbs):q=x / y∧r=x % y:=by
 have hy:y ≠ 0:=by omega
 have h1:(r+q*y) / y=r / y+q:=Int.add_mul_ediv_right _ _ hy
 have h2:(r+q*y) % y=r % y:=by rw [Int.add_mul_emod_self_right]
 have e:r+q*y=x:=by omega
 rw [e] at h1 h2
 have h3:r % y=r:=by
  rcases Int.lt_or_lt_of_ne hy with hy | hy
  ·rw [← Int.emod_neg];exact Int.emod_eq_of_lt h0 (by omega)
  ·exact Int.emod_eq_of_lt h0 (by omega)
 have h4:r / y=0:=by
  have:=Int.emod_add_mul_ediv r y
  rw [h3] at this
  have h5:y*(r / y)=0:=by omega
  rcases Int.mul_eq_zero.1 h5 with h6 | h6
  ·exact absurd h6 hy
  ·exact h6
 exact ⟨by omega,by rw [h2,h3]⟩
theorem Yv {x y:Int} (hy:y ≠ 0) :
  (x.tmod y<0→y<0→x.tdiv y+1=x / y∧x.tmod y+y.natAbs=x % y) ∧
  (x.tmod y<0→¬ y<0→x.tdiv y-1=x / y∧x.tmod y+y.natAbs=x % y) ∧
  (¬ x.tmod y<0→x.tdiv y=x / y∧x.tmod y=x % y):=by
 have h1:=Int.tmod_add_mul_tdiv x y
 have h2:(x.tmod y).natAbs<y.natAbs:=by
  rw [Int.natAbs_tmod]
  exact Nat.mod_lt _ (by omega)
 rw [Int.mul_comm] at h1
 refine ⟨fun hr hn=>Lh ?_ (by omega) (by omega),fun hr hn=>Lh ?_ (by omega) (by omega),fun hr=>Lh (by omega) (by omega) (by omega)⟩
 ·rw [Int.add_mul,Int.one_mul];omega
 ·rw [Int.sub_mul,Int.one_mul];omega
theorem rO {x y:Int} (hy:y ≠ 0) (h:y.natAbs<18446744073709551616 ∨ x.natAbs<y.natAbs) (hx:x.natAbs<18446744073709551616 ^ 399) (hyb:y.natAbs<18446744073709551616 ^ 399):∃ a b,G70 x y=some (a,b)∧a=AF (x / y)∧b=AF (x % y):=by
 have p:18446744073709551616 ^ 399≤18446744073709551616 ^ 400:=Nat.pow_le_pow_right (by omega) (by omega)
 have p1:18446744073709551616 ^ 399+18446744073709551616 ^ 399≤18446744073709551616 ^ 400:=by rw [Nat.pow_succ 18446744073709551616 399];generalize 18446744073709551616 ^ 399=t;omega
 have p2:1≤18446744073709551616 ^ 399:=Nat.pow_pos (by omega)
 have q1:x.natAbs / y.natAbs<18446744073709551616 ^ 400:=Nat.lt_of_le_of_lt (Nat.div_le_self _ _) (Nat.lt_of_lt_of_le hx p)
 have q2:x.natAbs % y.natAbs<18446744073709551616 ^ 400:=Nat.lt_of_le_of_lt (Nat.mod_le _ _) (Nat.lt_of_lt_of_le hx p)
 have q1':(x.tdiv y).natAbs<18446744073709551616 ^ 400:=by rw [Int.natAbs_tdiv];exact q1
 have q2':(x.tmod y).natAbs<18446744073709551616 ^ 400:=by rw [Int.natAbs_tmod];exact q2
 have hx':=Nat.lt_of_lt_of_le hx p
 have hy':=Nat.lt_of_lt_of_le hyb p
 have d:Lj x.natAbs y.natAbs=true:=HE.2 ⟨by omega,h⟩
 unfold G70 T70
 simp only [DS,DN,HS hx',HS hy',d,C2,Cv q1 (show 400≤1000 by omega),Cv q2 (show 400≤1000 by omega),Bool.and_self,Bool.and_true,AH,fY x y hy,fX,B6 hy',B6 q1',B6 q2',Ot,AC,B4]
 have ha:Aq 400 (AF ((y.natAbs:Nat):Int))=true:=B6 (by rw [Int.natAbs_natCast];exact hy')
 obtain ⟨f1,f2,f3⟩:=Yv (x:=x) hy
 rw [ha]
 by_cases hr:x.tmod y<0
 ·rw [decide_eq_true hr,AH,Bool.true_and,AH]
  by_cases hn:y<0
  ·obtain ⟨g1,g2⟩:=f1 hr hn
   rw [decide_eq_true hn,AH]
   exact ⟨_,_,rfl,by rw [g1],by rw [g2]⟩
  ·obtain ⟨g1,g2⟩:=f2 hr hn
   rw [decide_eq_false hn,AJ]
   exact ⟨_,_,rfl,by rw [g1],by rw [g2]⟩
 ·obtain ⟨g1,g2⟩:=f3 hr
  rw [decide_eq_false hr,AJ]
  exact ⟨_,_,rfl,by rw [g1],by rw [g2]⟩
def KB (x y:Int):Bool:=Lj x.natAbs y.natAbs
def WZ:List F→Bool | [x,y]=>Aq 399 x&&Aq 399 y&&KB (AG x) (AG y) | _=>false
def gH:List F→F | [x,y]=>.tup [AF (AG x / AG y),AF (AG x % AG y)] | _=>.dflt
theorem okOver:Ak Tryz.prog 70 WZ gH :=
 Ad (c:=AT Tryz.f70) Tryz.func70 (by kernel_rfl) (by kernel_rfl) fun xs hp=>match xs,hp with
 | [x,y],hp=>by
  simp only [WZ,Bool.and_eq_true] at hp
  obtain ⟨⟨hx,hy⟩,hd⟩:=hp
  obtain ⟨d1,d2⟩:=HE.1 hd
  obtain ⟨a,b,e,rfl,rfl⟩:=rO (by omega) d2 (BA hx) (BA hy)
  exact ⟨[AF (AG x),AF (AG y)],_,⟨(D8 hx).1,(D8 hy).1,trivial⟩,t70 _ _ _ _ e,.refl _⟩
/-! ### function 68 -/
def NG (l:List Int) (n:Int) (i:Int):St:=⟨Al 2 ((U.hp 0 0) :: (U.hp 1 0) :: Al 7 ((U.f (slF AF 0 l)) :: (U.f (F.int .i64 n)) :: (U.f (F.int .i64 i)) :: Al 23 [])),[HO.box [(U.f (F.bool false)),U.nils],HO.box [(U.f (F.bool false)),U.nils]]⟩
def Si (l:List Int) (o:List Nat) (n:Int) (i:Int):St:=⟨Al 2 ((U.hp 0 0) :: (U.hp 1 0) :: Al 7 ((U.f (slF AF 0 l)) :: (U.f (F.int .i64 n)) :: (U.f (F.int .i64 i)) :: Al 23 [])),[HO.box [(U.f (F.bool false)),U.nils],HO.box [(U.f (F.bool false)),(U.f (AL o))]]⟩
def NE (l:List Int) (y:List Nat) (n:Int) (i:Int):St:=⟨Al 2 ((U.hp 0 0) :: (U.hp 1 0) :: Al 2 (U.nils :: (U.f (AL y)) :: Al 3 ((U.f (slF AF 0 l)) :: (U.f (F.int .i64 n)) :: (U.f (F.int .i64 i)) :: Al 23 []))),[HO.box [(U.f (F.bool false)),U.nils],HO.box [(U.f (F.bool false)),U.nils]]⟩
def NF (l:List Int) (x:List Nat) (y:List Nat) (n:Int) (i:Int):St:=⟨Al 2 ((U.hp 0 0) :: (U.hp 1 0) :: Al 2 ((U.f (AL x)) :: (U.f (AL y)) :: Al 3 ((U.f (slF AF 0 l)) :: (U.f (F.int .i64 n)) :: (U.f (F.int .i64 i)) :: Al 23 []))),[HO.box [(U.f (F.bool false)),U.nils],HO.box [(U.f (F.bool false)),U.nils]]⟩
def Sh (l:List Int) (o:List Nat) (x:List Nat) (y:List Nat) (n:Int) (i:Int):St:=⟨Al 2 ((U.hp 0 0) :: (U.hp 1 0) :: Al 2 ((U.f (AL x)) :: (U.f (AL y)) :: Al 3 ((U.f (slF AF 0 l)) :: (U.f (F.int .i64 n)) :: (U.f (F.int .i64 i)) :: Al 23 []))),[HO.box [(U.f (F.bool false)),U.nils],HO.box [(U.f (F.bool false)),(U.f (AL o))]]⟩
abbrev QM (ρ:Type):=(List Int)→(List Nat)→(Int)→(Int)→Option ρ
abbrev oJ (ρ:Type):=(List Int)→(List Nat)→(List Nat)→(List Nat)→(Int)→(Int)→Option ρ
abbrev oI (ρ:Type):=(List Int)→(List Nat)→(List Nat)→(Int)→(Int)→Option ρ
abbrev L3 (ρ:Type):=(F)→Option ρ
abbrev oH (ρ:Type):=(List Int)→(Int)→(Int)→Option ρ
def XJ {ρ:Type} (ret:L3 ρ) (c3z:oH ρ) (c3:QM ρ) (c6z:QM ρ) (c6y:oI ρ) (c6:oJ ρ) (l:List Int) (n:Int) (i:Int):Option ρ :=
 (AD (decide (i<n))
 (AD (decide (0≤i))
 (AD (decide (i<(↑l.length:Int)))
 (c6z (l) (AM 18446744073709551616 (l.getD i.toNat 0).natAbs) (n) (i))
 none)
 none)
 (ret (F.agg [F.bool false,F.sl 0 fun x ↦ F.bool false])))
def jN {ρ:Type} (ret:L3 ρ) (c3z:oH ρ) (c3:QM ρ) (c6z:QM ρ) (c6y:oI ρ) (c6:oJ ρ) (l:List Int) (o:List Nat) (n:Int) (i:Int):Option ρ :=
 (AD (decide (i<n))
 (AD (decide (0≤i))
 (AD (decide (i<(↑l.length:Int)))
 (c6 (l) (o) (o) (AM 18446744073709551616 (l.getD i.toNat 0).natAbs) (n) (i))
 none)
 none)
 (ret (F.agg [F.bool false,AL o])))
def eZ {ρ:Type} (ret:L3 ρ) (c3z:oH ρ) (c3:QM ρ) (c6z:QM ρ) (c6y:oI ρ) (c6:oJ ρ) (l:List Int) (y:List Nat) (n:Int) (i:Int):Option ρ :=
 (AD (decide ((↑y.length:Int) > 0))
 (AD (G0 400 (AL y)&&Lj (val 18446744073709551616 (AS (F.sl 0 fun x ↦ F.bool false))) (val 18446744073709551616 (AS (AL y))))
 (c6y (l) (y) (AS (AL (AM 18446744073709551616 (val 18446744073709551616 (AS (F.sl 0 fun x ↦ F.bool false)) % val 18446744073709551616 (AS (AL y)))))) (n) (i))
 none)
 (c3z (l) (n) (IntKind.i64.wrap (i+1))))
def fA {ρ:Type} (ret:L3 ρ) (c3z:oH ρ) (c3:QM ρ) (c6z:QM ρ) (c6y:oI ρ) (c6:oJ ρ) (l:List Int) (x:List Nat) (y:List Nat) (n:Int) (i:Int):Option ρ :=
 (AD (decide ((↑y.length:Int) > 0))
 (AD (G0 400 (AL x)&&G0 400 (AL y)&&Lj (val 18446744073709551616 (AS (AL x))) (val 18446744073709551616 (AS (AL y))))
 (AD (Ay (F.sl (AM 18446744073709551616 (val 18446744073709551616 (AS (AL x)) % val 18446744073709551616 (AS (AL y)))).length fun i ↦ BK ((AM 18446744073709551616 (val 18446744073709551616 (AS (AL x)) % val 18446744073709551616 (AS (AL y)))).getD i 0))&&BB 1000 (F.sl (AM 18446744073709551616 (val 18446744073709551616 (AS (AL x)) % val 18446744073709551616 (AS (AL y)))).length fun i ↦ BK ((AM 18446744073709551616 (val 18446744073709551616 (AS (AL x)) % val 18446744073709551616 (AS (AL y)))).getD i 0)))
 (c6y (l) (y) (AS (AL (AM 18446744073709551616 (val 18446744073709551616 (AS (AL x)) % val 18446744073709551616 (AS (AL y)))))) (n) (i))
 none)
 none)
 (c3 (l) (x) (n) (IntKind.i64.wrap (i+1))))
def wR {ρ:Type} (ret:L3 ρ) (c3z:oH ρ) (c3:QM ρ) (c6z:QM ρ) (c6y:oI ρ) (c6:oJ ρ) (l:List Int) (o:List Nat) (x:List Nat) (y:List Nat) (n:Int) (i:Int):Option ρ :=
 (AD (decide ((↑y.length:Int) > 0))
 (AD (G0 400 (AL x)&&G0 400 (AL y)&&Lj (val 18446744073709551616 (AS (AL x))) (val 18446744073709551616 (AS (AL y))))
 (AD (Ay (F.sl (AM 18446744073709551616 (val 18446744073709551616 (AS (AL x)) % val 18446744073709551616 (AS (AL y)))).length fun i ↦ BK ((AM 18446744073709551616 (val 18446744073709551616 (AS (AL x)) % val 18446744073709551616 (AS (AL y)))).getD i 0))&&BB 1000 (F.sl (AM 18446744073709551616 (val 18446744073709551616 (AS (AL x)) % val 18446744073709551616 (AS (AL y)))).length fun i ↦ BK ((AM 18446744073709551616 (val 18446744073709551616 (AS (AL x)) % val 18446744073709551616 (AS (AL y)))).getD i 0)))
 (c6 (l) (o) (y) (AS (AL (AM 18446744073709551616 (val 18446744073709551616 (AS (AL x)) % val 18446744073709551616 (AS (AL y)))))) (n) (i))
 none)
 none)
 (c3 (l) (x) (n) (IntKind.i64.wrap (i+1))))
mutual
def JC:Nat→(List Int)→(Int)→(Int)→Option (F)
 | 0,_,_,_=>none
 | k+1,l,n,i=>XJ some (JC k) (L2 k) (L0 k) (L1 k) (OT k) l n i
 termination_by structural k=>k
def L2:Nat→(List Int)→(List Nat)→(Int)→(Int)→Option (F)
 | 0,_,_,_,_=>none
 | k+1,l,o,n,i=>jN some (JC k) (L2 k) (L0 k) (L1 k) (OT k) l o n i
 termination_by structural k=>k
def L0:Nat→(List Int)→(List Nat)→(Int)→(Int)→Option (F)
 | 0,_,_,_,_=>none
 | k+1,l,y,n,i=>eZ some (JC k) (L2 k) (L0 k) (L1 k) (OT k) l y n i
 termination_by structural k=>k
def L1:Nat→(List Int)→(List Nat)→(List Nat)→(Int)→(Int)→Option (F)
 | 0,_,_,_,_,_=>none
 | k+1,l,x,y,n,i=>fA some (JC k) (L2 k) (L0 k) (L1 k) (OT k) l x y n i
 termination_by structural k=>k
def OT:Nat→(List Int)→(List Nat)→(List Nat)→(List Nat)→(Int)→(Int)→Option (F)
 | 0,_,_,_,_,_,_=>none
 | k+1,l,o,x,y,n,i=>wR some (JC k) (L2 k) (L0 k) (L1 k) (OT k) l o x y n i
 termination_by structural k=>k
end
def T68 {ρ:Type} (ret:L3 ρ) (c3z:oH ρ) (c3:QM ρ) (c6z:QM ρ) (c6y:oI ρ) (c6:oJ ρ) (l:List Int):Option ρ :=
 (c3z (l) ((↑l.length:Int)) (0))
def G68 (k:Nat) (l:List Int):Option (F):=T68 some (JC k) (L2 k) (L0 k) (L1 k) (OT k) l
mutual
theorem oY:∀ (k:Nat) (l:List Int) (n:Int) (i:Int) (r:F),JC k l n i=some r→AX Tryz.prog Tryz.f68.results.toList (at_ Tryz.f68 3) (NG l n i) (r)
 | 0,_,_,_,_,h=>nomatch h
 | k+1,l,n,i,r,h=>by
  refine AX.of_cut Au GN (T:=[(3,[2,3,11,12,13],1000),(6,[2,3,6,7,11,12,13],1000)]) (n:=200) ?_
  refine gE (Y:=XJ (fun r=>some (.ret (r))) (fun l n i=>some (.cut (at_ Tryz.f68 3) (NG l n i))) (fun l o n i=>some (.cut (at_ Tryz.f68 3) (Si l o n i))) (fun l y n i=>some (.cut (at_ Tryz.f68 6) (NE l y n i))) (fun l x y n i=>some (.cut (at_ Tryz.f68 6) (NF l x y n i))) (fun l o x y n i=>some (.cut (at_ Tryz.f68 6) (Sh l o x y n i))) l n i) (by kernel_rfl) ?_
  exact (gS h (fun _ h=>(gS h (fun _ h=>(gS h (fun _ h=>gC (t68_6z k _ _ _ _ r h)) gN)) gN)) (fun _ h=>gR (by cases h;rfl)))
theorem t68_3:∀ (k:Nat) (l:List Int) (o:List Nat) (n:Int) (i:Int) (r:F),L2 k l o n i=some r→AX Tryz.prog Tryz.f68.results.toList (at_ Tryz.f68 3) (Si l o n i) (r)
 | 0,_,_,_,_,_,h=>nomatch h
 | k+1,l,o,n,i,r,h=>by
  refine AX.of_cut Au GN (T:=[(3,[2,3,11,12,13],1000),(6,[2,3,6,7,11,12,13],1000)]) (n:=200) ?_
  refine gE (Y:=jN (fun r=>some (.ret (r))) (fun l n i=>some (.cut (at_ Tryz.f68 3) (NG l n i))) (fun l o n i=>some (.cut (at_ Tryz.f68 3) (Si l o n i))) (fun l y n i=>some (.cut (at_ Tryz.f68 6) (NE l y n i))) (fun l x y n i=>some (.cut (at_ Tryz.f68 6) (NF l x y n i))) (fun l o x y n i=>some (.cut (at_ Tryz.f68 6) (Sh l o x y n i))) l o n i) (by kernel_rfl) ?_
  exact (gS h (fun _ h=>(gS h (fun _ h=>(gS h (fun _ h=>gC (t68_6 k _ _ _ _ _ _ r h)) gN)) gN)) (fun _ h=>gR (by cases h;rfl)))
theorem t68_6z:∀ (k:Nat) (l:List Int) (y:List Nat) (n:Int) (i:Int) (r:F),L0 k l y n i=some r→AX Tryz.prog Tryz.f68.results.toList (at_ Tryz.f68 6) (NE l y n i) (r)
 | 0,_,_,_,_,_,h=>nomatch h
 | k+1,l,y,n,i,r,h=>by
  refine AX.of_cut Au GN (T:=[(3,[2,3,11,12,13],1000),(6,[2,3,6,7,11,12,13],1000)]) (n:=200) ?_
  refine gE (Y:=eZ (fun r=>some (.ret (r))) (fun l n i=>some (.cut (at_ Tryz.f68 3) (NG l n i))) (fun l o n i=>some (.cut (at_ Tryz.f68 3) (Si l o n i))) (fun l y n i=>some (.cut (at_ Tryz.f68 6) (NE l y n i))) (fun l x y n i=>some (.cut (at_ Tryz.f68 6) (NF l x y n i))) (fun l o x y n i=>some (.cut (at_ Tryz.f68 6) (Sh l o x y n i))) l y n i) (by kernel_rfl) ?_
  exact (gS h (fun _ h=>(gS h (fun _ h=>gC (oX k _ _ _ _ _ r h)) gN)) (fun _ h=>gC (oY k _ _ _ r h)))
theorem oX:∀ (k:Nat) (l:List Int) (x:List Nat) (y:List Nat) (n:Int) (i:Int) (r:F),L1 k l x y n i=some r→AX Tryz.prog Tryz.f68.results.toList (at_ Tryz.f68 6) (NF l x y n i) (r)
 | 0,_,_,_,_,_,_,h=>nomatch h
 | k+1,l,x,y,n,i,r,h=>by
  refine AX.of_cut Au GN (T:=[(3,[2,3,11,12,13],1000),(6,[2,3,6,7,11,12,13],1000)]) (n:=200) ?_
  refine gE (Y:=fA (fun r=>some (.ret (r))) (fun l n i=>some (.cut (at_ Tryz.f68 3) (NG l n i))) (fun l o n i=>some (.cut (at_ Tryz.f68 3) (Si l o n i))) (fun l y n i=>some (.cut (at_ Tryz.f68 6) (NE l y n i))) (fun l x y n i=>some (.cut (at_ Tryz.f68 6) (NF l x y n i))) (fun l o x y n i=>some (.cut (at_ Tryz.f68 6) (Sh l o x y n i))) l x y n i) (by kernel_rfl) ?_
  exact (gS h (fun _ h=>(gS h (fun _ h=>(gS h (fun _ h=>gC (oX k _ _ _ _ _ r h)) gN)) gN)) (fun _ h=>gC (t68_3 k _ _ _ _ r h)))
theorem t68_6:∀ (k:Nat) (l:List Int) (o:List Nat) (x:List Nat) (y:List Nat) (n:Int) (i:Int) (r:F),OT k l o x y n i=some r→AX Tryz.prog Tryz.f68.results.toList (at_ Tryz.f68 6) (Sh l o x y n i) (r)
 | 0,_,_,_,_,_,_,_,h=>nomatch h
 | k+1,l,o,x,y,n,i,r,h=>by
  refine AX.of_cut Au GN (T:=[(3,[2,3,11,12,13],1000),(6,[2,3,6,7,11,12,13],1000)]) (n:=200) ?_
  refine gE (Y:=wR (fun r=>some (.ret (r))) (fun l n i=>some (.cut (at_ Tryz.f68 3) (NG l n i))) (fun l o n i=>some (.cut (at_ Tryz.f68 3) (Si l o n i))) (fun l y n i=>some (.cut (at_ Tryz.f68 6) (NE l y n i))) (fun l x y n i=>some (.cut (at_ Tryz.f68 6) (NF l x y n i))) (fun l o x y n i=>some (.cut (at_ Tryz.f68 6) (Sh l o x y n i))) l o x y n i) (by kernel_rfl) ?_
  exact (gS h (fun _ h=>(gS h (fun _ h=>(gS h (fun _ h=>gC (t68_6 k _ _ _ _ _ _ r h)) gN)) gN)) (fun _ h=>gC (t68_3 k _ _ _ _ r h)))
end
theorem t68 (k:Nat) (l:List Int) (r:F) (h:G68 k l=some r):AX Tryz.prog Tryz.f68.results.toList [.code (AT Tryz.f68)] (start Tryz.f68.ntmps ([slF AF 0 l].map .f)) (r):=by
 refine AX.of_run Au GN (T:=[(3,[2,3,11,12,13],1000),(6,[2,3,6,7,11,12,13],1000)]) (n:=200) ?_
 refine gE (Y:=T68 (fun r=>some (.ret (r))) (fun l n i=>some (.cut (at_ Tryz.f68 3) (NG l n i))) (fun l o n i=>some (.cut (at_ Tryz.f68 3) (Si l o n i))) (fun l y n i=>some (.cut (at_ Tryz.f68 6) (NE l y n i))) (fun l x y n i=>some (.cut (at_ Tryz.f68 6) (NF l x y n i))) (fun l o x y n i=>some (.cut (at_ Tryz.f68 6) (Sh l o x y n i))) l) (by kernel_rfl) ?_
 exact gC (oY k _ _ _ r h)
def sI (l:List Int):F:=slF AF 0 l
def LS (n:Nat) (x:F):Bool:=Dq (Aq n) x
def Ag (x:F):List Int:=Gi AG x
theorem tT {l:List Int} {n i:Int} {o:List Nat}:∀ (y x k:Nat),y<18446744073709551616→x<18446744073709551616 ^ 400→y+1≤k →
  ∃ k',k≤k'+(y+1)∧OT k l o (AM 18446744073709551616 x) (AM 18446744073709551616 y) n i=L2 k' l (AM 18446744073709551616 (Nat.gcd x y)) n (IntKind.i64.wrap (i+1)):=by
 intro y
 induction y using Nat.strongRecOn with
 | _ y ih =>
  intro x k hy hx hk
  obtain ⟨k,rfl⟩:∃ j,k=j+1:=⟨k-1,by omega⟩
  rw [OT]
  unfold wR
  by_cases h0:y=0
  ·subst h0
   rw [BU,show decide (((([]:List Nat).length:Nat):Int) > 0)=false from rfl,AJ,Nat.gcd_zero_right]
   exact ⟨k,by omega,rfl⟩
  ·have hyb:y<18446744073709551616 ^ 400:=Nat.lt_of_lt_of_le hy (by rw [← Nat.pow_one 18446744073709551616];exact Nat.pow_le_pow_right (by omega) (by omega))
   have d:Lj x y=true:=HE.2 ⟨h0,.inl hy⟩
   have hm:x % y<y:=Nat.mod_lt _ (by omega)
   have hl:=EX (show x % y<18446744073709551616 ^ 400 by omega)
   have e1:∀ l:List Nat,(F.sl l.length fun i=>BK (l.getD i 0))=AL l:=fun _=>rfl
   rw [decide_eq_true (C5.2 h0),AH,HS hx,HS hyb]
   simp only [DS,DN,d,Bool.and_self,AH,e1,C2,Cv (show x % y<18446744073709551616 ^ 400 by omega) (show 400≤1000 by omega)]
   obtain ⟨k',h1,h2⟩:=ih (x % y) hm y k (by omega) hyb (by omega)
   refine ⟨k',by omega,?_⟩
   rw [h2,← ZV]
theorem mQ {x y b:Nat} (hx:x<b) (hy:y<b):Nat.gcd x y<b:=by
 rcases Nat.eq_zero_or_pos y with h | h
 ·subst h;rwa [Nat.gcd_zero_right]
 ·exact Nat.lt_of_le_of_lt (Nat.gcd_le_right x h) hy
def AY (g:Nat) (l:List Int):Nat:=l.foldl (fun g z=>Nat.gcd g z.natAbs) g
def Hs:List Int→Nat
 | []=>2
 | z :: l=>z.natAbs+5+Hs l
theorem SL {a:List Int} {x:Int} {rest:List Int} {i:Nat} (h:a.drop i=x :: rest):a.getD i 0=x∧a.drop (i+1)=rest∧i<a.length:=by
 have hi:i<a.length:=by
  rcases Nat.lt_or_ge i a.length with h1 | h1
  ·exact h1
  ·rw [List.drop_eq_nil_of_le h1] at h;cases h
 rw [List.drop_eq_getElem_cons hi] at h
 injection h with h1 h2
 exact ⟨by simp [List.getD,List.getElem?_eq_getElem hi,h1],h2,hi⟩
theorem ZU {l:List Int} (hl:l.length≤1000):∀ (rest:List Int) (i g k:Nat),l.drop i=rest→i+rest.length=l.length→g<18446744073709551616 ^ 400→(∀ z ∈ rest,z.natAbs<18446744073709551616)→Hs rest≤k →
  L2 k l (AM 18446744073709551616 g) l.length i=some (.agg [.bool false,AL (AM 18446744073709551616 (AY g rest))])
 | [],i,g,k,hr,hi,hg,hz,hk=>by
  obtain ⟨k,rfl⟩:∃ j,k=j+1:=⟨k-1,by simp [Hs] at hk;omega⟩
  simp only [List.length_nil,Nat.add_zero] at hi
  subst hi
  rw [L2]
  unfold jN
  rw [decide_eq_false (by omega),AJ]
  rfl
 | z :: rest,i,g,k,hr,hi,hg,hz,hk=>by
  simp only [Hs] at hk
  obtain ⟨k,rfl⟩:∃ j,k=j+1:=⟨k-1,by omega⟩
  obtain ⟨hx,hr',hlt⟩:=SL hr
  have hzB:=hz z (by simp)
  obtain ⟨k',h1,h2⟩:=tT (l:=l) (n:=l.length) (i:=i) (o:=AM 18446744073709551616 g) z.natAbs g k hzB hg (by omega)
  rw [L2]
  unfold jN
  rw [decide_eq_true (show (i:Int)<l.length by omega),decide_eq_true (show (0:Int)≤i by omega),Int.toNat_natCast,hx]
  simp only [AH]
  rw [h2,As (by omega) (by omega),show (i:Int)+1=((i+1:Nat):Int) by omega]
  have hzb:z.natAbs<18446744073709551616 ^ 400:=Nat.lt_of_lt_of_le hzB (by rw [← Nat.pow_one 18446744073709551616];exact Nat.pow_le_pow_right (by omega) (by omega))
  exact ZU hl rest (i+1) (Nat.gcd g z.natAbs) k' hr' (by simp only [List.length_cons] at hi;omega) (mQ hg hzb) (fun z hz'=>hz z (by simp [hz'])) (by omega)
theorem ZW {l:List Int} (hl:l.length≤1000):∀ (rest:List Int) (i k:Nat),l.drop i=rest→i+rest.length=l.length→(∀ z ∈ rest,z.natAbs<18446744073709551616 ^ 400)→(∀ z ∈ rest.tail,z.natAbs<18446744073709551616)→Hs rest≤k →
  ∃ r,JC k l l.length i=some r∧FLe r (.agg [.bool false,AL (AM 18446744073709551616 (AY 0 rest))])
 | [],i,k,hr,hi,hb,hz,hk=>by
  obtain ⟨k,rfl⟩:∃ j,k=j+1:=⟨k-1,by simp [Hs] at hk;omega⟩
  simp only [List.length_nil,Nat.add_zero] at hi
  subst hi
  rw [JC]
  unfold XJ
  rw [decide_eq_false (by omega),AJ]
  refine ⟨_,rfl,?_⟩
  rw [show AY 0 []=0 from rfl,BU]
  exact FLe.agg ⟨.refl _,FLe.sl fun j hj=>by omega,trivial⟩
 | z :: rest,i,k,hr,hi,hb,hz,hk=>by
  simp only [Hs] at hk
  obtain ⟨k,rfl⟩:∃ j,k=j+3:=⟨k-3,by omega⟩
  obtain ⟨hx,hr',hlt⟩:=SL hr
  have hzb:=hb z (by simp)
  have hle:i+1+rest.length=l.length:=by simp only [List.length_cons] at hi;omega
  have eg:AY 0 (z :: rest)=AY z.natAbs rest:=by
   show AY (Nat.gcd 0 z.natAbs) rest=_
   rw [Nat.gcd_zero_left]
  rw [eg,JC]
  unfold XJ
  rw [decide_eq_true (show (i:Int)<l.length by omega),decide_eq_true (show (0:Int)≤i by omega),Int.toNat_natCast,hx]
  simp only [AH]
  rw [L0]
  unfold eZ
  have ew:IntKind.i64.wrap ((i:Int)+1)=((i+1:Nat):Int):=by rw [As (by omega) (by omega)];omega
  by_cases h0:z.natAbs=0
  ·rw [h0,BU,show decide (((([]:List Nat).length:Nat):Int) > 0)=false from rfl,AJ,ew]
   exact ZW hl rest (i+1) (k+1) hr' hle (fun z hz'=>hb z (by simp [hz'])) (fun z hz'=>hz z (List.mem_of_mem_tail hz')) (by omega)
  ·have d:Lj 0 z.natAbs=true:=HE.2 ⟨h0,.inr (by omega)⟩
   have e0:val 18446744073709551616 (AS (F.sl 0 fun x=>F.bool false))=0:=rfl
   rw [decide_eq_true (C5.2 h0),AH,HS hzb]
   simp only [e0,DS,DN,d,Bool.and_self,AH,Nat.zero_mod,BU]
   rw [L1]
   unfold fA
   rw [show AS (AL [])=[] from rfl,show decide (((([]:List Nat).length:Nat):Int) > 0)=false from rfl,AJ,ew]
   exact ⟨_,ZU hl rest (i+1) z.natAbs k hr' hle hzb (fun z hz'=>hz z hz') (by omega),.refl _⟩
def ZX (l:List Int):Bool:=decide (l.length≤1000)&&l.tail.all fun z=>Nat.ble (z.natAbs+1) 18446744073709551616
theorem VS {l:List Int}:ZX l=true ↔ l.length≤1000∧∀ z ∈ l.tail,z.natAbs<18446744073709551616:=by
 simp only [ZX,Bool.and_eq_true,decide_eq_true_eq,List.all_eq_true,Nat.ble_eq]
 rfl
theorem sH {n:Nat} {x:F} (h:LS n x=true):FLe x (sI (Ag x))∧FLe (sI (Ag x)) x:=X1 (fun _ h=>num_el h) h
theorem cX {n:Nat} {x:F} (h:LS n x=true):∀ z ∈ Ag x,z.natAbs<18446744073709551616 ^ n:=by
 cases x with
 | sl m g =>
  simp only [LS,Dq,List.all_eq_true,List.mem_range] at h
  intro z hz
  simp only [Ag,Gi,List.mem_map,List.mem_range] at hz
  obtain ⟨i,hi,rfl⟩:=hz
  exact BA (h i hi)
 | _=>simp [LS,Dq] at h
theorem sJ (n:Nat):AF (n:Int)=.agg [.bool false,AL (AM 18446744073709551616 n)]:=by
 unfold AF
 rw [decide_eq_false (by omega),Int.natAbs_natCast]
def cP:List F→Bool | [x]=>LS 400 x&&ZX (Ag x) | _=>false
def qS:List F→F | [x]=>AF (AY 0 (Ag x):Nat) | _=>.dflt
theorem okGcd:Ak Tryz.prog 68 cP qS :=
 Ad (c:=AT Tryz.f68) Tryz.func68 (by kernel_rfl) (by kernel_rfl) fun xs hp=>match xs,hp with
 | [x],hp=>by
  simp only [cP,Bool.and_eq_true] at hp
  obtain ⟨h1,h2⟩:=VS.1 hp.2
  obtain ⟨r,e,hr⟩:=ZW h1 (Ag x) 0 (Hs (Ag x)) rfl (by omega) (cX hp.1) h2 (Nat.le_refl _)
  rw [← sJ] at hr
  exact ⟨[sI (Ag x)],_,⟨(sH hp.1).1,trivial⟩,t68 (Hs (Ag x)) _ _ e,hr⟩
def eG:Env:=(uU.add 70 (.pure WZ gH)).add 68 (.pure cP qS)
theorem VZ:Az Tryz.prog eG:=(Env.add_ok (Env.add_ok GN okOver.sp) okGcd.sp)
end
noncomputable section
def envN16:Env:=eG.add 86 (.own HR Mg RR (fun _=>.tup [.tup []]))
theorem Jk:Az Tryz.prog envN16:=(Env.add_ok VZ sC)
end
noncomputable section
/-! ### function 72 -/
def Vu (z:Int) (n:Int):St:=⟨Al 1 ((U.hp 0 0) :: (U.hp 1 0) :: Al 1 ((U.hp 2 0) :: Al 45 [])),[HO.box [(U.f (F.bool (decide (z<0)))),(U.f (AL (AM 18446744073709551616 z.natAbs)))],HO.box [(U.f (F.int .u64 0)),(U.f (F.int .u64 0)),(U.f (F.int .u64 0)),(U.f (F.int .u64 0))],HO.box [(U.f (F.bool (decide (n<0)))),(U.f (AL (AM 18446744073709551616 n.natAbs)))]]⟩
def Vt (z:Int) (m:Nat) (g:Nat→F):St:=⟨Al 1 ((U.hp 0 0) :: (U.hp 1 0) :: Al 2 ((U.hs 2 m 0 m) :: Al 44 [])),[HO.box [(U.f (F.bool (decide (z<0)))),(U.f (AL (AM 18446744073709551616 z.natAbs)))],HO.box [(U.f (F.int .u64 0)),(U.f (F.int .u64 0)),(U.f (F.int .u64 0)),(U.f (F.int .u64 0))],HO.arr 1 m g]⟩
def Vs (m:Nat) (g:Nat→F) (n:Int) (i:Int):St:=⟨Al 2 ((U.hp 0 0) :: Al 2 ((U.hs 1 m 0 m) :: Al 18 ((U.f (F.int .i64 n)) :: (U.f (F.int .i64 i)) :: Al 24 []))),[HO.box [(U.f (F.int .u64 0)),(U.f (F.int .u64 0)),(U.f (F.int .u64 0)),(U.f (F.int .u64 0))],HO.arr 1 m g]⟩
def PR (m:Nat) (g:Nat→F):St:=⟨Al 2 ((U.hp 0 0) :: Al 2 ((U.hs 1 m 0 m) :: Al 44 [])),[HO.box [(U.f (F.int .u64 0)),(U.f (F.int .u64 0)),(U.f (F.int .u64 0)),(U.f (F.int .u64 0))],HO.arr 1 m g]⟩
abbrev xR (ρ:Type):=(Nat)→(Nat→F)→(Int)→(Int)→Option ρ
abbrev xQ (ρ:Type):=(Int)→(Nat)→(Nat→F)→Option ρ
abbrev Su (ρ:Type):=(Int)→(Int)→Option ρ
abbrev bG (ρ:Type):=(Nat)→(Nat→F)→Option ρ
def wQ {ρ:Type} (ret:(F)→(Bool)→Option ρ) (c4:Su ρ) (c7:xQ ρ) (c9:xR ρ) (c13:bG ρ) (z:Int) (n:Int):Option ρ :=
 (AD (Aq 400 (AF n))
 (AD (decide ((↑(Go.Proofs.YtonmnfkibnflnaaGreat.R.AZ (AG (AF n)).natAbs):Int) > 255))
 (ret (F.agg [F.int .u64 0,F.int .u64 0,F.int .u64 0,F.int .u64 0]) (false))
 (AD (Ay (F.sl (AM 18446744073709551616 n.natAbs).length fun i ↦ BK ((AM 18446744073709551616 n.natAbs).getD i 0))&&BB 1000 (F.sl (AM 18446744073709551616 n.natAbs).length fun i ↦ BK ((AM 18446744073709551616 n.natAbs).getD i 0)))
 (AD (decide (0<(AM 18446744073709551616 n.natAbs).length))
 (AD (decide ((AS (AL (AM 18446744073709551616 n.natAbs))).length=(AS (AL (AM 18446744073709551616 n.natAbs))).length))
 (AD (decide ((AS (AL (AM 18446744073709551616 n.natAbs))).length=(AS (AL (AM 18446744073709551616 n.natAbs))).length))
 (AD (decide ((↑((AS (AL (AM 18446744073709551616 n.natAbs))).length+4):Int)*(((8:Nat):Int)+1)≤(↑Bs:Int)))
 (c7 (z) ((AS (AL (AM 18446744073709551616 n.natAbs))).length+4) (fun j ↦ if j<(AS (AL (AM 18446744073709551616 n.natAbs))).length then F.int .u64 (↑((AS (AL (AM 18446744073709551616 n.natAbs))).getD j 0):Int) else F.int .u64 0))
 none)
 none)
 none)
 (AD (decide (((4:Nat):Int)*(((8:Nat):Int)+1)≤(↑Bs:Int)))
 (c7 (z) (4) (fun x ↦ F.int .u64 0))
 none))
 none))
 none)
def wP {ρ:Type} (ret:(F)→(Bool)→Option ρ) (c4:Su ρ) (c7:xQ ρ) (c9:xR ρ) (c13:bG ρ) (z:Int) (m:Nat) (g:Nat→F):Option ρ :=
 (AD (decide (z<0))
 (AD (decide (m=m))
 (c9 (m) (g) ((↑m:Int)) (0))
 none)
 (c13 (m) (g)))
def jM {ρ:Type} (ret:(F)→(Bool)→Option ρ) (c4:Su ρ) (c7:xQ ρ) (c9:xR ρ) (c13:bG ρ) (m:Nat) (g:Nat→F) (n:Int) (i:Int):Option ρ :=
 (AD (decide (i<n))
 (AD (decide (m=m))
 (AD (decide (0≤i))
 (AD (decide (i<(↑m:Int)))
 (AD (decide (m=m))
 (AD (decide (0+i.toNat<m))
 (AD (decide ((g (0+i.toNat)).cells.length=1))
 (AD (okV (Value.int IntKind.u64 0) ((List.drop 0 (g (0+i.toNat)).cells).headD F.dflt)&&true)
 (AD (decide (m=m))
 (AD (decide (0≤i))
 (AD (decide (i<(↑m:Int)))
 (AD (decide (m=m))
 (AD (decide (0+i.toNat<m))
 (AD (decide ((g (0+i.toNat)).cells.length=1))
 (AD ((Cd (g (0+i.toNat)) || true)&&true)
 (c9 (m) (fun j ↦ if j=0+i.toNat then F.int .u64 (B8 BinOp.xor IntKind.u64 (if IntKind.u64.signed=true then -1 else IntKind.u64.max) (Hl ((List.drop 0 (g (0+i.toNat)).cells).headD F.dflt))) else g j) (n) (IntKind.i64.wrap (i+1)))
 none)
 none)
 none)
 none)
 none)
 none)
 none)
 none)
 none)
 none)
 none)
 none)
 none)
 none)
 (c13 (m) (g)))
def eY {ρ:Type} (ret:(F)→(Bool)→Option ρ) (c4:Su ρ) (c7:xQ ρ) (c9:xR ρ) (c13:bG ρ) (m:Nat) (g:Nat→F):Option ρ :=
 (AD (decide (m=m))
 (AD (decide (3<(↑m:Int)))
 (AD (decide (m=m))
 (AD (decide (0+3<m))
 (AD (decide ((g (0+3)).cells.length=1))
 (AD (okV (Value.int IntKind.u64 0) ((List.drop 0 (g (0+Int.toNat 3)).cells).headD F.dflt)&&true)
 (AD (decide (m=m))
 (AD (decide (2<(↑m:Int)))
 (AD (decide (m=m))
 (AD (decide (0+2<m))
 (AD (decide ((g (0+2)).cells.length=1))
 (AD (okV (Value.int IntKind.u64 0) ((List.drop 0 (g (0+Int.toNat 2)).cells).headD F.dflt)&&true)
 (AD (decide (m=m))
 (AD (decide (1<(↑m:Int)))
 (AD (decide (m=m))
 (AD (decide (0+1<m))
 (AD (decide ((g (0+1)).cells.length=1))
 (AD (okV (Value.int IntKind.u64 0) ((List.drop 0 (g (0+Int.toNat 1)).cells).headD F.dflt)&&true)
 (AD (decide (m=m))
 (AD (decide (0<(↑m:Int)))
 (AD (decide (m=m))
 (AD (decide (0+0<m))
 (AD (decide ((g (0+0)).cells.length=1))
 (AD (okV (Value.int IntKind.u64 0) ((List.drop 0 (g (0+Int.toNat 0)).cells).headD F.dflt)&&true)
 (ret (F.agg [F.int .u64 (Hl ((List.drop 0 (g (0+Int.toNat 3)).cells).headD F.dflt)),F.int .u64 (Hl ((List.drop 0 (g (0+Int.toNat 2)).cells).headD F.dflt)),F.int .u64 (Hl ((List.drop 0 (g (0+Int.toNat 1)).cells).headD F.dflt)),F.int .u64 (Hl ((List.drop 0 (g (0+Int.toNat 0)).cells).headD F.dflt))]) (true))
 none)
 none)
 none)
 none)
 none)
 none)
 none)
 none)
 none)
 none)
 none)
 none)
 none)
 none)
 none)
 none)
 none)
 none)
 none)
 none)
 none)
 none)
 none)
 none)
mutual
def P6:Nat→(Int)→(Int)→Option ((F) × (Bool))
 | 0,_,_=>none
 | k+1,z,n=>wQ (fun w b=>some (w,b)) (P6 k) (P5 k) (OS k) (Lz k) z n
 termination_by structural k=>k
def P5:Nat→(Int)→(Nat)→(Nat→F)→Option ((F) × (Bool))
 | 0,_,_,_=>none
 | k+1,z,m,g=>wP (fun w b=>some (w,b)) (P6 k) (P5 k) (OS k) (Lz k) z m g
 termination_by structural k=>k
def OS:Nat→(Nat)→(Nat→F)→(Int)→(Int)→Option ((F) × (Bool))
 | 0,_,_,_,_=>none
 | k+1,m,g,n,i=>jM (fun w b=>some (w,b)) (P6 k) (P5 k) (OS k) (Lz k) m g n i
 termination_by structural k=>k
def Lz:Nat→(Nat)→(Nat→F)→Option ((F) × (Bool))
 | 0,_,_=>none
 | k+1,m,g=>eY (fun w b=>some (w,b)) (P6 k) (P5 k) (OS k) (Lz k) m g
 termination_by structural k=>k
end
def T72 {ρ:Type} (ret:(F)→(Bool)→Option ρ) (c4:Su ρ) (c7:xQ ρ) (c9:xR ρ) (c13:bG ρ) (z:Int):Option ρ :=
 (AD (decide (z<0))
 (AD (Aq 400 (AF z)&&true)
 (c4 (z) (AG (AF z)+AG (AC [F.int .i64 1])))
 none)
 (c4 (z) (z)))
def G72 (k:Nat) (z:Int):Option ((F) × (Bool)):=T72 (fun w b=>some (w,b)) (P6 k) (P5 k) (OS k) (Lz k) z
mutual
theorem t72_4:∀ (k:Nat) (z:Int) (n:Int) (w:F) (b:Bool),P6 k z n=some (w,b)→AX Tryz.prog Tryz.f72.results.toList (at_ Tryz.f72 4) (Vu z n) (F.tup [w,F.bool b])
 | 0,_,_,_,_,h=>nomatch h
 | k+1,z,n,w,b,h=>by
  refine AX.of_cut Au Jk (T:=[(4,[1,2,4],1000),(7,[1,2,5],1000),(9,[2,5,24,25],1000),(13,[2,5],1000)]) (n:=200) ?_
  refine gE (Y:=wQ (fun w b=>some (.ret (F.tup [w,F.bool b]))) (fun z n=>some (.cut (at_ Tryz.f72 4) (Vu z n))) (fun z m g=>some (.cut (at_ Tryz.f72 7) (Vt z m g))) (fun m g n i=>some (.cut (at_ Tryz.f72 9) (Vs m g n i))) (fun m g=>some (.cut (at_ Tryz.f72 13) (PR m g))) z n) (by kernel_rfl) ?_
  exact (gS h (fun _ h=>(gS h (fun _ h=>gR (by cases h;rfl)) (fun _ h=>(gS h (fun _ h=>(gS h (fun _ h=>(gS h (fun _ h=>(gS h (fun _ h=>(gS h (fun _ h=>gC (t72_7 k _ _ _ w b h)) gN)) gN)) gN)) (fun _ h=>(gS h (fun _ h=>gC (t72_7 k _ _ _ w b h)) gN)))) gN)))) gN)
theorem t72_7:∀ (k:Nat) (z:Int) (m:Nat) (g:Nat→F) (w:F) (b:Bool),P5 k z m g=some (w,b)→AX Tryz.prog Tryz.f72.results.toList (at_ Tryz.f72 7) (Vt z m g) (F.tup [w,F.bool b])
 | 0,_,_,_,_,_,h=>nomatch h
 | k+1,z,m,g,w,b,h=>by
  refine AX.of_cut Au Jk (T:=[(4,[1,2,4],1000),(7,[1,2,5],1000),(9,[2,5,24,25],1000),(13,[2,5],1000)]) (n:=200) ?_
  refine gE (Y:=wP (fun w b=>some (.ret (F.tup [w,F.bool b]))) (fun z n=>some (.cut (at_ Tryz.f72 4) (Vu z n))) (fun z m g=>some (.cut (at_ Tryz.f72 7) (Vt z m g))) (fun m g n i=>some (.cut (at_ Tryz.f72 9) (Vs m g n i))) (fun m g=>some (.cut (at_ Tryz.f72 13) (PR m g))) z m g) (by kernel_rfl) ?_
  exact (gS h (fun _ h=>(gS h (fun _ h=>gC (t72_9 k _ _ _ _ w b h)) gN)) (fun _ h=>gC (oW k _ _ w b h)))
theorem t72_9:∀ (k:Nat) (m:Nat) (g:Nat→F) (n:Int) (i:Int) (w:F) (b:Bool),OS k m g n i=some (w,b)→AX Tryz.prog Tryz.f72.results.toList (at_ Tryz.f72 9) (Vs m g n i) (F.tup [w,F.bool b])
 | 0,_,_,_,_,_,_,h=>nomatch h
 | k+1,m,g,n,i,w,b,h=>by
  refine AX.of_cut Au Jk (T:=[(4,[1,2,4],1000),(7,[1,2,5],1000),(9,[2,5,24,25],1000),(13,[2,5],1000)]) (n:=200) ?_
  refine gE (Y:=jM (fun w b=>some (.ret (F.tup [w,F.bool b]))) (fun z n=>some (.cut (at_ Tryz.f72 4) (Vu z n))) (fun z m g=>some (.cut (at_ Tryz.f72 7) (Vt z m g))) (fun m g n i=>some (.cut (at_ Tryz.f72 9) (Vs m g n i))) (fun m g=>some (.cut (at_ Tryz.f72 13) (PR m g))) m g n i) (by kernel_rfl) ?_
  exact (gS h (fun _ h=>(gS h (fun _ h=>(gS h (fun _ h=>(gS h (fun _ h=>(gS h (fun _ h=>(gS h (fun _ h=>(gS h (fun _ h=>(gS h (fun _ h=>(gS h (fun _ h=>(gS h (fun _ h=>(gS h (fun _ h=>(gS h (fun _ h=>(gS h (fun _ h=>(gS h (fun _ h=>(gS h (fun _ h=>gC (t72_9 k _ _ _ _ w b h)) gN)) gN)) gN)) gN)) gN)) gN)) gN)) gN)) gN)) gN)) gN)) gN)) gN)) gN)) (fun _ h=>gC (oW k _ _ w b h)))
theorem oW:∀ (k:Nat) (m:Nat) (g:Nat→F) (w:F) (b:Bool),Lz k m g=some (w,b)→AX Tryz.prog Tryz.f72.results.toList (at_ Tryz.f72 13) (PR m g) (F.tup [w,F.bool b])
 | 0,_,_,_,_,h=>nomatch h
 | k+1,m,g,w,b,h=>by
  refine AX.of_cut Au Jk (T:=[(4,[1,2,4],1000),(7,[1,2,5],1000),(9,[2,5,24,25],1000),(13,[2,5],1000)]) (n:=200) ?_
  refine gE (Y:=eY (fun w b=>some (.ret (F.tup [w,F.bool b]))) (fun z n=>some (.cut (at_ Tryz.f72 4) (Vu z n))) (fun z m g=>some (.cut (at_ Tryz.f72 7) (Vt z m g))) (fun m g n i=>some (.cut (at_ Tryz.f72 9) (Vs m g n i))) (fun m g=>some (.cut (at_ Tryz.f72 13) (PR m g))) m g) (by kernel_rfl) ?_
  exact (gS h (fun _ h=>(gS h (fun _ h=>(gS h (fun _ h=>(gS h (fun _ h=>(gS h (fun _ h=>(gS h (fun _ h=>(gS h (fun _ h=>(gS h (fun _ h=>(gS h (fun _ h=>(gS h (fun _ h=>(gS h (fun _ h=>(gS h (fun _ h=>(gS h (fun _ h=>(gS h (fun _ h=>(gS h (fun _ h=>(gS h (fun _ h=>(gS h (fun _ h=>(gS h (fun _ h=>(gS h (fun _ h=>(gS h (fun _ h=>(gS h (fun _ h=>(gS h (fun _ h=>(gS h (fun _ h=>(gS h (fun _ h=>gR (by cases h;rfl)) gN)) gN)) gN)) gN)) gN)) gN)) gN)) gN)) gN)) gN)) gN)) gN)) gN)) gN)) gN)) gN)) gN)) gN)) gN)) gN)) gN)) gN)) gN)) gN)
end
theorem t72 (k:Nat) (z:Int) (w:F) (b:Bool) (h:G72 k z=some (w,b)):AX Tryz.prog Tryz.f72.results.toList [.code (AT Tryz.f72)] (start Tryz.f72.ntmps ([AF z].map .f)) (F.tup [w,F.bool b]):=by
 refine AX.of_run Au Jk (T:=[(4,[1,2,4],1000),(7,[1,2,5],1000),(9,[2,5,24,25],1000),(13,[2,5],1000)]) (n:=200) ?_
 refine gE (Y:=T72 (fun w b=>some (.ret (F.tup [w,F.bool b]))) (fun z n=>some (.cut (at_ Tryz.f72 4) (Vu z n))) (fun z m g=>some (.cut (at_ Tryz.f72 7) (Vt z m g))) (fun m g n i=>some (.cut (at_ Tryz.f72 9) (Vs m g n i))) (fun m g=>some (.cut (at_ Tryz.f72 13) (PR m g))) z) (by kernel_rfl) ?_
 exact (gS h (fun _ h=>(gS h (fun _ h=>gC (t72_4 k _ _ w b h)) gN)) (fun _ h=>gC (t72_4 k _ _ w b h)))
def EC (z:Int):Bool:=decide (-57896044618658097711785492504343953926634992332820282019728792003956564819968≤z)&&decide (z<57896044618658097711785492504343953926634992332820282019728792003956564819968)
theorem EV {z:Int}:EC z=true ↔ -57896044618658097711785492504343953926634992332820282019728792003956564819968≤z∧z<57896044618658097711785492504343953926634992332820282019728792003956564819968:=by simp only [EC,Bool.and_eq_true,decide_eq_true_eq]
def wd3 (z:Int):Int:=bif EC z then z / 6277101735386680763835789423207666416102355444464034512896 % 18446744073709551616 else 0
def wd2 (z:Int):Int:=bif EC z then z / 340282366920938463463374607431768211456 % 18446744073709551616 else 0
def wd1 (z:Int):Int:=bif EC z then z / 18446744073709551616 % 18446744073709551616 else 0
def wd0 (z:Int):Int:=bif EC z then z % 18446744073709551616 else 0
def Pg (z:Int):F:=.agg [.int .u64 (wd3 z),.int .u64 (wd2 z),.int .u64 (wd1 z),.int .u64 (wd0 z)]
theorem TO {z:Int} (h:EC z=false):Pg z=.agg [.int .u64 0,.int .u64 0,.int .u64 0,.int .u64 0]:=by
 simp only [Pg,wd3,wd2,wd1,wd0,h,cond_false]
theorem not64 {v:Nat} (h:v<18446744073709551616):B8 .xor .u64 (if IntKind.u64.signed=true then -1 else IntKind.u64.max) (v:Int)=((18446744073709551616-1-v:Nat):Int):=by
 rw [show (if IntKind.u64.signed=true then (-1:Int) else IntKind.u64.max)=((18446744073709551615:Nat):Int) from rfl,bXor,JW,JW,Xi]
 rw [show BitVec.ofNat 64 18446744073709551615=BitVec.allOnes 64 from rfl,BitVec.allOnes_xor,BitVec.toNat_not,BitVec.toNat_ofNat]
 omega
theorem Xl {m k:Nat} {g:Nat→F} {v:Nat→Nat} (hm:4≤m) (hg:∀ j,j<m→g j=BK (v j)) :
  Lz (k+1) m g=some (.agg [BK (v 3),BK (v 2),BK (v 1),BK (v 0)],true):=by
 rw [Lz]
 unfold eY
 simp only [Int.toNat_zero,show Int.toNat 3=3 from rfl,show Int.toNat 2=2 from rfl,show Int.toNat 1=1 from rfl,Nat.zero_add,hg 0 (by omega),hg 1 (by omega),hg 2 (by omega),hg 3 (by omega),decide_true]
 rw [decide_eq_true (show (3:Int)<m by omega),decide_eq_true (show (2:Int)<m by omega),decide_eq_true (show (1:Int)<m by omega),decide_eq_true (show (0:Int)<m by omega),
  decide_eq_true (show 3<m by omega),decide_eq_true (show 2<m by omega),decide_eq_true (show 1<m by omega),decide_eq_true (show 0<m by omega),decide_eq_true (DO _),decide_eq_true (DO _),decide_eq_true (DO _),decide_eq_true (DO _)]
 rfl
theorem TP {m:Nat} {v:Nat→Nat} (hv:∀ j,v j<18446744073709551616) (hm:4≤m) (hm2:m≤1000):∀ (d i k:Nat) (g:Nat→F),i+d=m→d+1<k→(∀ j,j<m→g j=BK (if j<i then 18446744073709551616-1-v j else v j)) →
  OS k m g m i=some (.agg [BK (18446744073709551616-1-v 3),BK (18446744073709551616-1-v 2),BK (18446744073709551616-1-v 1),BK (18446744073709551616-1-v 0)],true)
 | 0,i,k,g,hi,hk,hg=>by
  obtain ⟨k,rfl⟩:∃ j,k=j+2:=⟨k-2,by omega⟩
  rw [OS]
  unfold jM
  rw [decide_eq_false (show ¬ (i:Int)<m by omega),AJ]
  exact Xl (v:=fun j=>18446744073709551616-1-v j) hm fun j hj=>by rw [hg j hj,if_pos (by omega)]
 | d+1,i,k,g,hi,hk,hg=>by
  obtain ⟨k,rfl⟩:∃ j,k=j+1:=⟨k-1,by omega⟩
  have e:g i=BK (v i):=by rw [hg i (by omega),if_neg (by omega)]
  rw [OS]
  unfold jM
  rw [Int.toNat_natCast,Nat.zero_add,e,decide_eq_true (show (i:Int)<m by omega),decide_eq_true (show m=m from rfl),decide_eq_true (show (0:Int)≤i by omega),decide_eq_true (show i<m by omega),decide_eq_true (DO _),EW,XE,Wj,PB,not64 (hv i),As (by omega) (by omega)]
  simp only [AH]
  rw [show (i:Int)+1=((i+1:Nat):Int) by omega]
  refine TP hv hm hm2 d (i+1) k _ (by omega) (by omega) fun j hj=>?_
  by_cases hji:j=i
  ·subst hji
   rw [if_pos rfl,if_pos (by omega)]
   rfl
  ·rw [if_neg hji,hg j hj]
   by_cases hlt:j<i
   ·rw [if_pos hlt,if_pos (by omega)]
   ·rw [if_neg hlt,if_neg (by omega)]
theorem pad_get {l:List Nat} {j:Nat} (h:j<l.length+4):(if j<l.length then F.int .u64 ((l.getD j 0:Nat):Int) else F.int .u64 0)=BK (l.getD j 0):=by
 by_cases hj:j<l.length
 ·rw [if_pos hj];rfl
 ·rw [if_neg hj,Dz (by omega)];rfl
theorem Qh {z:Int} {m k:Nat} {g:Nat→F} {v:Nat→Nat} (hv:∀ j,v j<18446744073709551616) (hm:4≤m) (hm2:m≤1000) (hk:2000≤k) (hg:∀ j,j<m→g j=BK (v j)) :
  P5 k z m g=some (if z<0 then .agg [BK (18446744073709551616-1-v 3),BK (18446744073709551616-1-v 2),BK (18446744073709551616-1-v 1),BK (18446744073709551616-1-v 0)] else .agg [BK (v 3),BK (v 2),BK (v 1),BK (v 0)],true):=by
 obtain ⟨k,rfl⟩:∃ j,k=j+2:=⟨k-2,by omega⟩
 rw [P5]
 unfold wP
 by_cases hz:z<0
 ·rw [decide_eq_true hz,if_pos hz,decide_eq_true (show m=m from rfl)]
  exact TP hv hm hm2 m 0 (k+1) g (by omega) (by omega) fun j hj=>by rw [hg j hj,if_neg (by omega)]
 ·rw [decide_eq_false hz,if_neg hz]
  exact Xl (k:=k) hm hg
theorem TQ {z n:Int} {k:Nat} (hn:n.natAbs<18446744073709551616 ^ 400) (hk:2001≤k) :
  P6 k z n=some (if 255<AZ n.natAbs then (.agg [.int .u64 0,.int .u64 0,.int .u64 0,.int .u64 0],false) else
   (if z<0 then .agg [BK (18446744073709551616-1-(AM 18446744073709551616 n.natAbs).getD 3 0),BK (18446744073709551616-1-(AM 18446744073709551616 n.natAbs).getD 2 0),BK (18446744073709551616-1-(AM 18446744073709551616 n.natAbs).getD 1 0),BK (18446744073709551616-1-(AM 18446744073709551616 n.natAbs).getD 0 0)] else .agg [BK ((AM 18446744073709551616 n.natAbs).getD 3 0),BK ((AM 18446744073709551616 n.natAbs).getD 2 0),BK ((AM 18446744073709551616 n.natAbs).getD 1 0),BK ((AM 18446744073709551616 n.natAbs).getD 0 0)],true)):=by
 obtain ⟨k,rfl⟩:∃ j,k=j+1:=⟨k-1,by omega⟩
 have hl:=EX hn
 have e1:∀ l:List Nat,(F.sl l.length fun i=>BK (l.getD i 0))=AL l:=fun _=>rfl
 have hd:=fun j=>HX (show 0<18446744073709551616 by omega) (BG (B:=18446744073709551616) (by omega) n.natAbs) j
 rw [P6]
 unfold wQ
 simp only [B6 hn,B4,AH,e1,C2,Cv hn (show 400≤1000 by omega),Bool.and_self,DS,decide_true]
 clear hn
 by_cases hb:255<AZ n.natAbs
 ·rw [if_pos hb,decide_eq_true (show ((AZ n.natAbs:Nat):Int) > 255 by omega),AH]
 ·rw [if_neg hb,decide_eq_false (show ¬ ((AZ n.natAbs:Nat):Int) > 255 by omega),AJ]
  by_cases h0:0<(AM 18446744073709551616 n.natAbs).length
  ·rw [decide_eq_true h0]
   simp only [AH]
   rw [decide_eq_true (GW (show (AM 18446744073709551616 n.natAbs).length+4≤1000 by omega)),AH]
   exact Qh hd (by omega) (by omega) (by omega) fun j hj=>pad_get hj
  ·have hnil:AM 18446744073709551616 n.natAbs=[]:=List.eq_nil_of_length_eq_zero (by omega)
   rw [decide_eq_false h0,AJ,decide_eq_true (GW (show 4≤1000 by omega)),AH,hnil]
   exact Qh (v:=fun j=>([]:List Nat).getD j 0) (fun j=>by simp) (by omega) (by omega) (by omega) fun j hj=>by rfl
theorem Xj {n:Nat}:(AM 18446744073709551616 n).getD 0 0=n % 18446744073709551616∧(AM 18446744073709551616 n).getD 1 0=n / 18446744073709551616 % 18446744073709551616∧(AM 18446744073709551616 n).getD 2 0=n / 340282366920938463463374607431768211456 % 18446744073709551616∧(AM 18446744073709551616 n).getD 3 0=n / 6277101735386680763835789423207666416102355444464034512896 % 18446744073709551616:=by
 have h:=fun p=>Lm (B:=18446744073709551616) (by omega) (AM 18446744073709551616 n) p (BG (by omega) n)
 rw [DN] at h
 exact ⟨(h 0).trans (by simp),(h 1).trans (by simp),h 2,h 3⟩
theorem oN {z:Int} (hz:z.natAbs<18446744073709551616 ^ 399):G72 3000 z=some (Pg z,EC z):=by
 have p:18446744073709551616 ^ 399≤18446744073709551616 ^ 400:=Nat.pow_le_pow_right (by omega) (by omega)
 have p1:18446744073709551616 ^ 399+18446744073709551616 ^ 399≤18446744073709551616 ^ 400:=by rw [Nat.pow_succ 18446744073709551616 399];generalize 18446744073709551616 ^ 399=t;omega
 have p2:1≤18446744073709551616 ^ 399:=Nat.pow_pos (by omega)
 have hz':=Nat.lt_of_lt_of_le hz p
 have hz1:(z+1).natAbs<18446744073709551616 ^ 400:=by
  have:(z+1).natAbs≤z.natAbs+1:=by omega
  generalize 18446744073709551616 ^ 399=t at *
  generalize 18446744073709551616 ^ 400=u at *
  omega
 have e255:(2:Nat) ^ 255=57896044618658097711785492504343953926634992332820282019728792003956564819968:=rfl
 unfold G72 T72
 simp only [B6 hz',B4,AC,Bool.and_true,AH]
 rw [TQ hz1 (by omega),TQ hz' (by omega)]
 have b1:=CW (n:=(z+1).natAbs) (j:=255)
 have b0:=CW (n:=z.natAbs) (j:=255)
 rw [e255] at b1 b0
 obtain ⟨x0,x1,x2,x3⟩:=Xj (n:=(z+1).natAbs)
 obtain ⟨y0,y1,y2,y3⟩:=Xj (n:=z.natAbs)
 clear hz hz' hz1 p p1 p2 e255
 by_cases hn:z<0
 ·rw [decide_eq_true hn,AH]
  by_cases hw:255<AZ (z+1).natAbs
  ·have hf:EC z=false:=by
    cases h:EC z with
    | false=>rfl
    | true=>have:=EV.1 h;exfalso;omega
   rw [if_pos hw,hf,TO hf]
  ·have ht:EC z=true:=EV.2 (by omega)
   have e3:BK (18446744073709551616-1-(z+1).natAbs / 6277101735386680763835789423207666416102355444464034512896 % 18446744073709551616)=.int .u64 (z / 6277101735386680763835789423207666416102355444464034512896 % 18446744073709551616):=congrArg (F.int .u64) (by omega)
   have e2:BK (18446744073709551616-1-(z+1).natAbs / 340282366920938463463374607431768211456 % 18446744073709551616)=.int .u64 (z / 340282366920938463463374607431768211456 % 18446744073709551616):=congrArg (F.int .u64) (by omega)
   have e1:BK (18446744073709551616-1-(z+1).natAbs / 18446744073709551616 % 18446744073709551616)=.int .u64 (z / 18446744073709551616 % 18446744073709551616):=congrArg (F.int .u64) (by omega)
   have e0:BK (18446744073709551616-1-(z+1).natAbs % 18446744073709551616)=.int .u64 (z % 18446744073709551616):=congrArg (F.int .u64) (by omega)
   rw [if_neg hw,if_pos hn,ht,x0,x1,x2,x3,e0,e1,e2,e3]
   simp only [Pg,wd3,wd2,wd1,wd0,ht,cond_true]
 ·rw [decide_eq_false hn,AJ]
  by_cases hw:255<AZ z.natAbs
  ·have hf:EC z=false:=by
    cases h:EC z with
    | false=>rfl
    | true=>have:=EV.1 h;exfalso;omega
   rw [if_pos hw,hf,TO hf]
  ·have ht:EC z=true:=EV.2 (by omega)
   have e3:BK (z.natAbs / 6277101735386680763835789423207666416102355444464034512896 % 18446744073709551616)=.int .u64 (z / 6277101735386680763835789423207666416102355444464034512896 % 18446744073709551616):=congrArg (F.int .u64) (by omega)
   have e2:BK (z.natAbs / 340282366920938463463374607431768211456 % 18446744073709551616)=.int .u64 (z / 340282366920938463463374607431768211456 % 18446744073709551616):=congrArg (F.int .u64) (by omega)
   have e1:BK (z.natAbs / 18446744073709551616 % 18446744073709551616)=.int .u64 (z / 18446744073709551616 % 18446744073709551616):=congrArg (F.int .u64) (by omega)
   have e0:BK (z.natAbs % 18446744073709551616)=.int .u64 (z % 18446744073709551616):=congrArg (F.int .u64) (by omega)
   rw [if_neg hw,if_neg hn,ht,y0,y1,y2,y3,e0,e1,e2,e3]
   simp only [Pg,wd3,wd2,wd1,wd0,ht,cond_true]
def YD:List F→F | [x]=>.tup [Pg (AG x),.bool (EC (AG x))] | _=>.dflt
theorem okWideN:Ak Tryz.prog 72 (Mf 399) YD :=
 Ad (c:=AT Tryz.f72) Tryz.func72 (by kernel_rfl) (by kernel_rfl) fun xs hp=>match xs,hp with
 | [x],hp=>⟨[AF (AG x)],_,⟨(D8 hp).1,trivial⟩,t72 3000 _ _ _ (oN (BA hp)),.refl _⟩
def uT:Env:=eG.add 72 (.pure (Mf 399) YD)
theorem nC:Az Tryz.prog uT:=(Env.add_ok VZ okWideN.sp)
end
noncomputable section
def Env.or (C D:Env):Env:=fun f=>match C f with
 | .none=>D f
 | s=>s
theorem Env.or_ok {P:Program} {C D:Env} (h:Az P C) (k:Az P D):Az P (C.or D):=by
 intro f
 have h1:=h f
 have k1:=k f
 unfold Env.or
 cases hc:C f <;> rw [hc] at h1 <;> first | exact k1 | exact h1
def jC:Env:=uT.or uH
theorem R4:Az Tryz.prog jC:=Env.or_ok nC E0
end
noncomputable section
def Ai (x y w:Int):F:=.agg [.bool (decide (x<0)),AP (AM 4294967296 x.natAbs),.bool (decide (y<0)),AP (AM 4294967296 y.natAbs),.bool (decide (w<0)),AP (AM 4294967296 w.natAbs)]
end
noncomputable section
theorem H7 {x:Int}:IntKind.u32.wrap x=x % 4294967296:=by
 unfold IntKind.wrap
 simp [IntKind.bits,IntKind.signed]
theorem Gd (n:Nat):decide (n=n)=true:=decide_eq_true rfl
theorem Ph {B:Nat}:∀ l:List Nat,(∀ w ∈ l,w=0)→val B l=0
 | [],_=>rfl
 | x :: l,h=>by
  rw [val,Ph l fun w hw=>h w (by simp [hw]),h x (by simp)]
  simp
theorem lC {d:List Nat} {n:Nat} (od:okD 4294967296 d) (hn:n≤d.length) (hz:∀ j,n≤j→j<d.length→d.getD j 0=0) (hl:n=0 ∨ d.getD (n-1) 0 ≠ 0):AM 4294967296 (val 4294967296 d)=d.take n:=by
 have h1:val 4294967296 d=val 4294967296 (d.take n):=by
  conv=>lhs;rw [← List.take_append_drop n d]
  rw [Jw,Ph (d.drop n) fun w hw=>by
   obtain ⟨j,hj,rfl⟩:=List.getElem_of_mem hw
   rw [List.length_drop] at hj
   have:=hz (n+j) (by omega) (by omega)
   simpa [List.getD,List.getElem?_eq_getElem (show n+j<d.length by omega)] using this]
  omega
 rw [h1]
 refine OG (by omega) (fun w hw=>od w (List.mem_of_mem_take hw)) ?_
 rcases hl with hl | hl
 ·subst hl;simp [Dn]
 ·unfold Dn
  rw [List.getLast?_eq_getElem?,List.length_take,Nat.min_eq_left hn]
  rcases Nat.eq_zero_or_pos n with h0 | h0
  ·subst h0;simp
  ·rw [List.getElem?_take,if_pos (by omega),List.getElem?_eq_getElem (by omega)]
   simp only [List.getD,List.getElem?_eq_getElem (show n-1<d.length by omega),Option.getD_some] at hl
   intro e
   exact hl (Option.some.inj e)
/-! ### function 99 -/
def wU (s:Bool) (d:List Nat) (n:Int):St:=⟨(U.f (F.bool s)) :: (U.f (AP d)) :: Al 2 ((U.hp 0 0) :: (U.f (F.int .i64 n)) :: Al 22 []),[HO.box [(U.f (F.bool false)),U.nils]]⟩
def jH {ρ:Type} (ret:L3 ρ) (c2:(Bool)→(List Nat)→(Int)→Option ρ) (s:Bool) (d:List Nat) (n:Int):Option ρ :=
 (AD (decide (n > 0)==true)
 (AD (decide (0≤IntKind.i64.wrap (n-1)))
 (AD (decide (IntKind.i64.wrap (n-1)<(↑d.length:Int)))
 (AD ((↑(d.getD (IntKind.i64.wrap (n-1)).toNat 0):Int)==0)
 (c2 (s) (d) (IntKind.i64.wrap (n-1)))
 (AD (n==0)
 (ret (F.agg [F.bool false,F.sl 0 fun x ↦ F.bool false]))
 (AD (decide (0≤n))
 (AD (decide (n≤(↑d.length:Int)))
 (ret (F.agg [F.bool s,F.sl (n.toNat-0) fun j ↦ F.int .u32 (↑(d.getD (Int.toNat 0+j) 0):Int)]))
 none)
 none)))
 none)
 none)
 (AD (n==0)
 (ret (F.agg [F.bool false,F.sl 0 fun x ↦ F.bool false]))
 (AD (decide (0≤n))
 (AD (decide (n≤(↑d.length:Int)))
 (ret (F.agg [F.bool s,F.sl (n.toNat-0) fun j ↦ F.int .u32 (↑(d.getD (Int.toNat 0+j) 0):Int)]))
 none)
 none)))
def Vz:Nat→(Bool)→(List Nat)→(Int)→Option (F)
 | 0,_,_,_=>none
 | k+1,s,d,n=>jH some (Vz k) s d n
def T99 {ρ:Type} (ret:L3 ρ) (c2:(Bool)→(List Nat)→(Int)→Option ρ) (s:Bool) (d:List Nat):Option ρ :=
 (c2 (s) (d) ((↑d.length:Int)))
def G99 (k:Nat) (s:Bool) (d:List Nat):Option (F):=T99 some (Vz k) s d
theorem t99_2:∀ (k:Nat) (s:Bool) (d:List Nat) (n:Int) (r:F),Vz k s d n=some r→AX Tryz.prog Tryz.f99.results.toList (at_ Tryz.f99 2) (wU s d n) (r)
 | 0,_,_,_,_,h=>nomatch h
 | k+1,s,d,n,r,h=>by
  refine AX.of_cut Au E0 (T:=[(2,[0,1,4,5],1000)]) (n:=200) ?_
  refine gE (Y:=jH (fun r=>some (.ret (r))) (fun s d n=>some (.cut (at_ Tryz.f99 2) (wU s d n))) s d n) (by kernel_rfl) ?_
  exact (gS h (fun _ h=>(gS h (fun _ h=>(gS h (fun _ h=>(gS h (fun _ h=>gC (t99_2 k _ _ _ r h)) (fun _ h=>(gS h (fun _ h=>gR (by cases h;rfl)) (fun _ h=>(gS h (fun _ h=>(gS h (fun _ h=>gR (by cases h;rfl)) gN)) gN)))))) gN)) gN)) (fun _ h=>(gS h (fun _ h=>gR (by cases h;rfl)) (fun _ h=>(gS h (fun _ h=>(gS h (fun _ h=>gR (by cases h;rfl)) gN)) gN)))))
theorem t99 (k:Nat) (s:Bool) (d:List Nat) (r:F) (h:G99 k s d=some r):AX Tryz.prog Tryz.f99.results.toList [.code (AT Tryz.f99)] (start Tryz.f99.ntmps ([F.bool s,AP d].map .f)) (r):=by
 refine AX.of_run Au E0 (T:=[(2,[0,1,4,5],1000)]) (n:=200) ?_
 refine gE (Y:=T99 (fun r=>some (.ret (r))) (fun s d n=>some (.cut (at_ Tryz.f99 2) (wU s d n))) s d) (by kernel_rfl) ?_
 exact gC (t99_2 k _ _ _ r h)
theorem TS {s:Bool} {d:List Nat} {n:Nat} (od:okD 4294967296 d) (hn:n≤d.length) (hz:∀ j,n≤j→j<d.length→d.getD j 0=0) (hl:n=0 ∨ d.getD (n-1) 0 ≠ 0) :
  ∃ r,(AD ((n:Int)==0) (some (F.agg [F.bool false,F.sl 0 fun x=>F.bool false])) (AD (decide ((0:Int)≤n)) (AD (decide ((n:Int)≤(d.length:Int))) (some (F.agg [F.bool s,F.sl ((n:Int).toNat-0) fun j=>F.int .u32 ((d.getD (Int.toNat 0+j) 0:Nat):Int)])) none) none))=some r∧FLe r (AQ (sgn s (val 4294967296 d))):=by
 have hd:=lC od hn hz hl
 rcases Nat.eq_zero_or_pos n with h0 | h0
 ·subst h0
  have hv:val 4294967296 d=0:=by
   have:=congrArg (val 4294967296) hd
   rw [BV] at this
   simpa [val] using this
  rw [show (((0:Nat):Int)==0)=true from rfl,AH,hv,qD]
  refine ⟨_,rfl,?_⟩
  unfold AQ
  rw [show AM 4294967296 (Int.natAbs 0)=[] from BU _]
  exact FLe.agg ⟨.refl _,FLe.sl fun j hj=>by omega,trivial⟩
 ·have hv:val 4294967296 d ≠ 0:=by
   intro e
   rw [e,BU] at hd
   have:=congrArg List.length hd
   simp at this
   omega
  rw [show ((n:Int)==0)=false by simp only [beq_eq_false_iff_ne,ne_eq];omega,AJ,decide_eq_true (show (0:Int)≤n by omega),decide_eq_true (show (n:Int)≤d.length by omega),AH,AH]
  refine ⟨_,rfl,?_⟩
  rw [tE,hd,decide_eq_true hv,Bool.and_true]
  refine FLe.agg ⟨.refl _,?_,trivial⟩
  have e:AP (d.take n)=F.sl n fun j=>DF ((d.take n).getD j 0):=by
   unfold AP slF
   rw [List.length_take,Nat.min_eq_left hn]
  rw [e,Int.toNat_natCast,Nat.sub_zero]
  exact FLe.sl fun j hj=>by
   rw [show Int.toNat 0+j=j by omega]
   simp [List.getD,List.getElem?_take,hj,DF]
theorem Qp {s:Bool} {d:List Nat} (od:okD 4294967296 d) (hd:d.length≤100000):∀ (n k:Nat),n≤d.length→(∀ j,n≤j→j<d.length→d.getD j 0=0)→n<k→∃ r,Vz k s d n=some r∧FLe r (AQ (sgn s (val 4294967296 d)))
 | _,0,_,_,hk=>by omega
 | 0,k+1,hn,hz,hk=>by
  rw [Vz]
  unfold jH
  rw [show (decide (((0:Nat):Int) > 0)==true)=false from rfl,AJ]
  exact TS od hn hz (.inl rfl)
 | n+1,k+1,hn,hz,hk=>by
  rw [Vz]
  unfold jH
  have ei:IntKind.i64.wrap (((n+1:Nat):Int)-1)=(n:Int):=by rw [As (by omega) (by omega)];omega
  rw [ei,decide_eq_true (show ((n+1:Nat):Int) > 0 by omega),show (true==true)=true from rfl,decide_eq_true (show (0:Int)≤n by omega),decide_eq_true (show (n:Int)<d.length by omega),Int.toNat_natCast (n:=n)]
  simp only [AH]
  by_cases h0:d.getD n 0=0
  ·rw [h0,show (((0:Nat):Int)==0)=true from rfl,AH]
   refine Qp od hd n k (by omega) (fun j h1 h2=>?_) (by omega)
   rcases Nat.eq_or_lt_of_le h1 with rfl | h
   ·exact h0
   ·exact hz j h h2
  ·rw [show ((d.getD n 0:Int)==0)=false by simp only [beq_eq_false_iff_ne,ne_eq];omega,AJ]
   exact TS od hn hz (.inr h0)
def RJ:List F→Bool | [.bool _,x]=>A5 x&&BB 2000 x | _=>false
def YF:List F→F | [.bool s,x]=>AQ (sgn s (val 4294967296 (AV x))) | _=>.dflt
theorem okTrim3:Ak Tryz.prog 99 RJ YF :=
 Ad (c:=AT Tryz.f99) Tryz.func99 (by kernel_rfl) (by kernel_rfl) fun xs hp=>match xs,hp with
 | [.bool s,x],hp=>by
  simp only [RJ,Bool.and_eq_true] at hp
  have hl:=Gy hp.1 hp.2
  obtain ⟨r,e,hr⟩:=Qp (s:=s) (C0 hp.1) (by omega) (AV x).length 3000 (Nat.le_refl _) (fun j h1 h2=>by omega) (by omega)
  exact ⟨[.bool s,AP (AV x)],_,⟨.refl _,(Bq hp.1).1,trivial⟩,t99 3000 _ _ _ e,hr⟩
/-! ### function 105 -/
def fK (a:List Nat) (b:List Nat) (i:Int):St:=⟨(U.f (AP a)) :: (U.f (AP b)) :: Al 3 ((U.f (F.int .i64 i)) :: Al 35 []),[]⟩
def Xa {ρ:Type} (ret:(Int)→Option ρ) (c6:(List Nat)→(List Nat)→(Int)→Option ρ) (a:List Nat) (b:List Nat) (i:Int):Option ρ :=
 (AD (decide (i ≥ 0))
 (AD (decide (0≤i))
 (AD (decide (i<(↑a.length:Int)))
 (AD (decide (0≤i))
 (AD (decide (i<(↑b.length:Int)))
 (AD (decide ((↑(a.getD i.toNat 0):Int)<(↑(b.getD i.toNat 0):Int)))
 (ret (-1))
 (AD (decide (0≤i))
 (AD (decide (i<(↑a.length:Int)))
 (AD (decide (0≤i))
 (AD (decide (i<(↑b.length:Int)))
 (AD (decide ((↑(a.getD i.toNat 0):Int) > (↑(b.getD i.toNat 0):Int)))
 (ret (1))
 (c6 (a) (b) (IntKind.i64.wrap (i-1))))
 none)
 none)
 none)
 none))
 none)
 none)
 none)
 none)
 (ret (0)))
def Pc:Nat→(List Nat)→(List Nat)→(Int)→Option (Int)
 | 0,_,_,_=>none
 | k+1,a,b,i=>Xa some (Pc k) a b i
def T105 {ρ:Type} (ret:(Int)→Option ρ) (c6:(List Nat)→(List Nat)→(Int)→Option ρ) (a:List Nat) (b:List Nat):Option ρ :=
 (AD ((↑a.length:Int) != (↑b.length:Int))
 (AD (decide ((↑a.length:Int)<(↑b.length:Int)))
 (ret (-1))
 (ret (1)))
 (c6 (a) (b) (IntKind.i64.wrap ((↑a.length:Int)-1))))
def G105 (k:Nat) (a:List Nat) (b:List Nat):Option (Int):=T105 some (Pc k) a b
theorem pR:∀ (k:Nat) (a:List Nat) (b:List Nat) (i:Int) (r:Int),Pc k a b i=some r→AX Tryz.prog Tryz.f105.results.toList (at_ Tryz.f105 6) (fK a b i) (F.int .i64 r)
 | 0,_,_,_,_,h=>nomatch h
 | k+1,a,b,i,r,h=>by
  refine AX.of_cut Au E0 (T:=[(6,[0,1,5],1000)]) (n:=200) ?_
  refine gE (Y:=Xa (fun r=>some (.ret (F.int .i64 r))) (fun a b i=>some (.cut (at_ Tryz.f105 6) (fK a b i))) a b i) (by kernel_rfl) ?_
  exact (gS h (fun _ h=>(gS h (fun _ h=>(gS h (fun _ h=>(gS h (fun _ h=>(gS h (fun _ h=>(gS h (fun _ h=>gR (by cases h;rfl)) (fun _ h=>(gS h (fun _ h=>(gS h (fun _ h=>(gS h (fun _ h=>(gS h (fun _ h=>(gS h (fun _ h=>gR (by cases h;rfl)) (fun _ h=>gC (pR k _ _ _ r h)))) gN)) gN)) gN)) gN)))) gN)) gN)) gN)) gN)) (fun _ h=>gR (by cases h;rfl)))
theorem t105 (k:Nat) (a:List Nat) (b:List Nat) (r:Int) (h:G105 k a b=some r):AX Tryz.prog Tryz.f105.results.toList [.code (AT Tryz.f105)] (start Tryz.f105.ntmps ([AP a,AP b].map .f)) (F.int .i64 r):=by
 refine AX.of_run Au E0 (T:=[(6,[0,1,5],1000)]) (n:=200) ?_
 refine gE (Y:=T105 (fun r=>some (.ret (F.int .i64 r))) (fun a b i=>some (.cut (at_ Tryz.f105 6) (fK a b i))) a b) (by kernel_rfl) ?_
 exact (gS h (fun _ h=>(gS h (fun _ h=>gR (by cases h;rfl)) (fun _ h=>gR (by cases h;rfl)))) (fun _ h=>gC (pR k _ _ _ r h)))
theorem Vj {a b:List Nat} (oa:okD 4294967296 a) (ob:okD 4294967296 b) (hl:a.length=b.length) (hn:a.length≤100000) :
  ∀ (n k:Nat) (i:Int),i=(n:Int)-1→n≤a.length→(∀ j,n≤j→j<a.length→a.getD j 0=b.getD j 0)→n<k→Pc k a b i=some ((val 4294967296 a:Int)-val 4294967296 b).sign
 | _,0,_,_,_,_,hk=>by omega
 | 0,k+1,i,hi,_,he,_=>by
  subst hi
  have hab:a=b:=List.ext_getElem hl fun j h1 h2=>by
   have:=he j (Nat.zero_le _) h1
   simpa [List.getD,List.getElem?_eq_getElem h1,List.getElem?_eq_getElem h2] using this
  subst hab
  rw [Pc]
  unfold Xa
  rw [decide_eq_false (by omega),AJ,Int.sub_self]
  rfl
 | n+1,k+1,i,hi,hna,he,hk=>by
  obtain rfl:i=(n:Int):=by omega
  rw [Pc]
  unfold Xa
  rw [decide_eq_true (show (n:Int) ≥ 0 by omega),decide_eq_true (show (n:Int)<a.length by omega),decide_eq_true (show (n:Int)<b.length by omega),Int.toNat_natCast]
  simp only [AH]
  by_cases hlt:a.getD n 0<b.getD n 0
  ·have hv:=NU (by omega) n a b oa ob hl (by omega) (fun j h1 h2=>he j h1 h2) hlt
   rw [decide_eq_true (show (a.getD n 0:Int)<b.getD n 0 by omega),AH,Int.sign_eq_neg_one_of_neg (by omega)]
  ·rw [decide_eq_false (show ¬ (a.getD n 0:Int)<b.getD n 0 by omega),AJ]
   by_cases hgt:b.getD n 0<a.getD n 0
   ·have hv:=NU (B:=4294967296) (by omega) n b a ob oa hl.symm (by omega) (fun j h1 h2=>(he j h1 (by omega)).symm) hgt
    rw [decide_eq_true (show (a.getD n 0:Int) > b.getD n 0 by omega),AH,Int.sign_eq_one_of_pos (by omega)]
   ·rw [decide_eq_false (show ¬ (a.getD n 0:Int) > b.getD n 0 by omega),AJ]
    refine Vj oa ob hl hn n k _ (by rw [As (by omega) (by omega)]) (by omega) (fun j h1 h2=>?_) (by omega)
    rcases Nat.eq_or_lt_of_le h1 with rfl | h
    ·omega
    ·exact he j h h2
theorem vX {m n:Nat} (hm:m<4294967296 ^ 800) (hn:n<4294967296 ^ 800):G105 1000 (AM 4294967296 m) (AM 4294967296 n)=some ((m:Int)-n).sign:=by
 have lm:=DR hm
 have ln:=DR hn
 have em:=BV m
 have en:=BV n
 clear hm hn
 unfold G105 T105
 by_cases hl:(AM 4294967296 m).length=(AM 4294967296 n).length
 ·rw [show (((AM 4294967296 m).length:Int) != ((AM 4294967296 n).length:Int))=false by simp [hl],AJ]
  have:=Vj (BG (B:=4294967296) (by omega) m) (BG (B:=4294967296) (by omega) n) hl (by omega) (AM 4294967296 m).length 1000 _ rfl (Nat.le_refl _) (fun j h1 h2=>by omega) (by omega)
  rw [em,en] at this
  rw [As (by omega) (by omega)]
  exact this
 ·rw [show (((AM 4294967296 m).length:Int) != ((AM 4294967296 n).length:Int))=true by simp only [bne_iff_ne,ne_eq];omega,AH]
  rcases Nat.lt_or_gt_of_ne hl with h | h
  ·have hv:=D2 (B:=4294967296) (by omega) (BG (by omega) m) (CS (by omega) n) h
   rw [em,en] at hv
   rw [decide_eq_true (show ((AM 4294967296 m).length:Int)<(AM 4294967296 n).length by omega),AH,Int.sign_eq_neg_one_of_neg (by omega)]
  ·have hv:=D2 (B:=4294967296) (by omega) (BG (by omega) n) (CS (by omega) m) h
   rw [em,en] at hv
   rw [decide_eq_false (show ¬ ((AM 4294967296 m).length:Int)<(AM 4294967296 n).length by omega),AJ,Int.sign_eq_one_of_pos (by omega)]
def C3 (n:Nat) (x:F):Bool:=A5 x&&BB n x&&Oe (AV x)
theorem HT {n:Nat} {x:F} (h:C3 n x=true):A5 x=true∧val 4294967296 (AV x)<4294967296 ^ n∧AM 4294967296 (val 4294967296 (AV x))=AV x:=by
 simp only [C3,Bool.and_eq_true] at h
 obtain ⟨⟨h1,h2⟩,h3⟩:=h
 refine ⟨h1,?_,Py h1 (EM.1 h3)⟩
 exact Nat.lt_of_lt_of_le (K1 _ (C0 h1)) (Nat.pow_le_pow_right (by omega) (Gy h1 h2))
theorem Cl {m n:Nat} (h:m<4294967296 ^ n):C3 n (AP (AM 4294967296 m))=true:=by
 simp only [C3,Bool.and_eq_true]
 exact ⟨⟨Ex m,Dy h (Nat.le_refl _)⟩,by rw [De];exact EM.2 (CS (by omega) m)⟩
def Wf:List F→Bool | [x,y]=>C3 800 x&&C3 800 y | _=>false
def hJ:List F→F | [x,y]=>.int .i64 ((val 4294967296 (AV x):Int)-val 4294967296 (AV y)).sign | _=>.dflt
theorem okCmp3:Ak Tryz.prog 105 Wf hJ :=
 Ad (c:=AT Tryz.f105) Tryz.func105 (by kernel_rfl) (by kernel_rfl) fun xs hp=>match xs,hp with
 | [x,y],hp=>by
  simp only [Wf,Bool.and_eq_true] at hp
  obtain ⟨x1,x2,x3⟩:=HT hp.1
  obtain ⟨y1,y2,y3⟩:=HT hp.2
  have e:=vX x2 y2
  rw [x3,y3] at e
  exact ⟨[AP (AV x),AP (AV y)],_,⟨(Bq x1).1,(Bq y1).1,trivial⟩,t105 1000 _ _ _ e,.refl _⟩
/-! ### function 104 -/
def fL (a:List Nat) (b:List Nat) (m:Nat) (g:Nat→F) (c:Int) (i:Int):St:=⟨(U.f (AP a)) :: (U.f (AP b)) :: Al 3 ((U.hs 0 m 0 m) :: (U.f (F.int .u64 c)) :: (U.f (F.int .i64 i)) :: Al 50 []),[HO.arr 1 m g]⟩
def Xb {ρ:Type} (ret:L3 ρ) (c6:QN ρ) (a:List Nat) (b:List Nat) (m:Nat) (g:Nat→F) (c:Int) (i:Int):Option ρ :=
 (AD (decide (i<(↑a.length:Int)))
 (AD (decide (0≤i))
 (AD (decide (i<(↑a.length:Int)))
 (AD (decide (i<(↑b.length:Int)))
 (AD (decide (0≤i))
 (AD (decide (i<(↑b.length:Int)))
 (AD (decide (m=m))
 (AD (decide (m=m))
 (AD (decide ((↑(m+1):Int)*(((4:Nat):Int)+1)≤(↑Bs:Int)))
 (c6 (a) (b) (m+1) (fun j ↦ if j<m then g j else F.int .u32 (IntKind.u32.wrap (IntKind.u64.wrap (IntKind.u64.wrap (c+IntKind.u64.wrap (↑(a.getD i.toNat 0):Int))+IntKind.u64.wrap (↑(b.getD i.toNat 0):Int))))) ((IntKind.u64.wrap (IntKind.u64.wrap (c+IntKind.u64.wrap (↑(a.getD i.toNat 0):Int))+IntKind.u64.wrap (↑(b.getD i.toNat 0):Int))).fdiv (2 ^ min (Int.toNat 32) IntKind.u64.bits)) (IntKind.i64.wrap (i+1)))
 none)
 none)
 none)
 none)
 none)
 (AD (decide (m=m))
 (AD (decide (m=m))
 (AD (decide ((↑(m+1):Int)*(((4:Nat):Int)+1)≤(↑Bs:Int)))
 (c6 (a) (b) (m+1) (fun j ↦ if j<m then g j else F.int .u32 (IntKind.u32.wrap (IntKind.u64.wrap (c+IntKind.u64.wrap (↑(a.getD i.toNat 0):Int))))) ((IntKind.u64.wrap (c+IntKind.u64.wrap (↑(a.getD i.toNat 0):Int))).fdiv (2 ^ min (Int.toNat 32) IntKind.u64.bits)) (IntKind.i64.wrap (i+1)))
 none)
 none)
 none))
 none)
 none)
 (AD (decide (c > 0))
 (AD (decide (m=m))
 (AD (decide (m=m))
 (AD (decide ((↑(m+1):Int)*(((4:Nat):Int)+1)≤(↑Bs:Int)))
 (AD (decide (m+1=m+1))
 (ret (F.sl (m+1) fun j ↦ if j<m then g j else F.int .u32 (IntKind.u32.wrap c)))
 none)
 none)
 none)
 none)
 (AD (decide (m=m))
 (ret (F.sl m g))
 none)))
def NP:Nat→(List Nat)→(List Nat)→(Nat)→(Nat→F)→(Int)→(Int)→Option (F)
 | 0,_,_,_,_,_,_=>none
 | k+1,a,b,m,g,c,i=>Xb some (NP k) a b m g c i
def T104 {ρ:Type} (ret:L3 ρ) (c6:QN ρ) (a:List Nat) (b:List Nat):Option ρ :=
 (AD (decide ((↑a.length:Int)<(↑b.length:Int)))
 (AD (decide (0≤IntKind.i64.wrap ((↑b.length:Int)+1)))
 (AD (decide (IntKind.i64.wrap ((↑b.length:Int)+1)*(((4:Nat):Int)+1)≤(↑Bs:Int)))
 (c6 (b) (a) (0) (fun x ↦ F.int .u32 0) (0) (0))
 none)
 none)
 (AD (decide (0≤IntKind.i64.wrap ((↑a.length:Int)+1)))
 (AD (decide (IntKind.i64.wrap ((↑a.length:Int)+1)*(((4:Nat):Int)+1)≤(↑Bs:Int)))
 (c6 (a) (b) (0) (fun x ↦ F.int .u32 0) (0) (0))
 none)
 none))
def G104 (k:Nat) (a:List Nat) (b:List Nat):Option (F):=T104 some (NP k) a b
theorem WJ:∀ (k:Nat) (a:List Nat) (b:List Nat) (m:Nat) (g:Nat→F) (c:Int) (i:Int) (r:F),NP k a b m g c i=some r→AX Tryz.prog Tryz.f104.results.toList (at_ Tryz.f104 6) (fL a b m g c i) (r)
 | 0,_,_,_,_,_,_,_,h=>nomatch h
 | k+1,a,b,m,g,c,i,r,h=>by
  refine AX.of_cut Au E0 (T:=[(6,[0,1,5,6,7],1000)]) (n:=200) ?_
  refine gE (Y:=Xb (fun r=>some (.ret (r))) (fun a b m g c i=>some (.cut (at_ Tryz.f104 6) (fL a b m g c i))) a b m g c i) (by kernel_rfl) ?_
  exact (gS h (fun _ h=>(gS h (fun _ h=>(gS h (fun _ h=>(gS h (fun _ h=>(gS h (fun _ h=>(gS h (fun _ h=>(gS h (fun _ h=>(gS h (fun _ h=>(gS h (fun _ h=>gC (WJ k _ _ _ _ _ _ r h)) gN)) gN)) gN)) gN)) gN)) (fun _ h=>(gS h (fun _ h=>(gS h (fun _ h=>(gS h (fun _ h=>gC (WJ k _ _ _ _ _ _ r h)) gN)) gN)) gN)))) gN)) gN)) (fun _ h=>(gS h (fun _ h=>(gS h (fun _ h=>(gS h (fun _ h=>(gS h (fun _ h=>(gS h (fun _ h=>gR (by cases h;rfl)) gN)) gN)) gN)) gN)) (fun _ h=>(gS h (fun _ h=>gR (by cases h;rfl)) gN)))))
theorem t104 (k:Nat) (a:List Nat) (b:List Nat) (r:F) (h:G104 k a b=some r):AX Tryz.prog Tryz.f104.results.toList [.code (AT Tryz.f104)] (start Tryz.f104.ntmps ([AP a,AP b].map .f)) (r):=by
 refine AX.of_run Au E0 (T:=[(6,[0,1,5,6,7],1000)]) (n:=200) ?_
 refine gE (Y:=T104 (fun r=>some (.ret (r))) (fun a b m g c i=>some (.cut (at_ Tryz.f104 6) (fL a b m g c i))) a b) (by kernel_rfl) ?_
 exact (gS h (fun _ h=>(gS h (fun _ h=>(gS h (fun _ h=>gC (WJ k _ _ _ _ _ _ r h)) gN)) gN)) (fun _ h=>(gS h (fun _ h=>(gS h (fun _ h=>gC (WJ k _ _ _ _ _ _ r h)) gN)) gN)))
theorem Dp {n:Nat} (h:n≤3000):(n:Int)*(((4:Nat):Int)+1)≤((Bs:Nat):Int):=by
 rw [Ev]
 omega
theorem PP {a b:List Nat} (oa:okD 4294967296 a) (ob:okD 4294967296 b) (hn:a.length≤2000):∀ (rest:List Nat) (i c k m:Nat) (o:List Nat) (g:Nat→F),a.drop i=rest→o.length=i→i+rest.length=a.length→c≤1 →
  E4 DF 0 m g o→rest.length<k→∃ rn rg,NP k a b m g c i=some (F.sl rn rg)∧E4 DF 0 rn rg (o++Kv 4294967296 rest (b.drop i) c)
 | _,_,_,0,_,_,_,_,_,_,_,_,h=>by omega
 | [],i,c,k+1,m,o,g,hr,ho,hi,hc,hg,_=>by
  simp only [List.length_nil,Nat.add_zero] at hi
  subst hi
  obtain ⟨rfl,hg'⟩:=hg
  rw [NP]
  unfold Xb
  rw [decide_eq_false (show ¬ (a.length:Int)<a.length by omega),AJ]
  by_cases h0:c=0
  ·subst h0
   rw [decide_eq_false (show ¬ ((0:Nat):Int) > 0 by omega),AJ,Gd,AH]
   exact ⟨_,_,rfl,by simp only [Kv,if_true,List.append_nil];exact ⟨rfl,hg'⟩⟩
  ·rw [decide_eq_true (show (c:Int) > 0 by omega),AH,Gd,AH,AH,decide_eq_true (Dp (show o.length+1≤3000 by omega)),AH,Gd,AH]
   refine ⟨_,_,rfl,?_⟩
   simp only [Kv,if_neg h0]
   have:=E4.push (enc:=DF) (d:=0) ⟨rfl,hg'⟩ c
   have e:IntKind.u32.wrap (c:Int)=(c:Int):=by rw [H7];omega
   rw [e]
   exact this
 | x :: rest,i,c,k+1,m,o,g,hr,ho,hi,hc,hg,hk=>by
  obtain ⟨hx,hr',hia⟩:=Jo hr
  have hxb:=Dk oa hia
  have hyb:=HX (by omega) ob i
  have hm:m=o.length:=hg.1
  obtain ⟨rn,rg,e1,e2⟩:=PP oa ob hn rest (i+1) ((x+b.getD i 0+c) / 4294967296) k (m+1) (o++[(x+b.getD i 0+c) % 4294967296]) _ hr' (by simp [ho]) (by simp only [List.length_cons] at hi;omega) (by omega) (hg.push _) (by simp at hk;omega)
  have ei:IntKind.i64.wrap ((i:Int)+1)=((i+1:Nat):Int):=by rw [As (by omega) (by omega)];omega
  have w0:IntKind.u64.wrap ((a.getD i 0:Nat):Int)=(a.getD i 0:Nat):=Cg (by omega)
  have w1:IntKind.u64.wrap ((b.getD i 0:Nat):Int)=(b.getD i 0:Nat):=Cg (by omega)
  have w2:IntKind.u64.wrap ((c:Int)+(a.getD i 0:Nat))=((c+a.getD i 0:Nat):Int):=by rw [Dw];omega
  have w3:IntKind.u64.wrap (((c+a.getD i 0:Nat):Int)+(b.getD i 0:Nat))=((c+a.getD i 0+b.getD i 0:Nat):Int):=by rw [Dw];omega
  have w4:∀ t:Nat,F.int .u32 (IntKind.u32.wrap (t:Int))=DF (t % 4294967296):=fun t=>congrArg (F.int .u32) (by rw [H7];omega)
  have goal:NP k a b (m+1) (fun j=>if j<m then g j else F.int .u32 (IntKind.u32.wrap ((c+a.getD i 0+b.getD i 0:Nat):Int))) (((c+a.getD i 0+b.getD i 0:Nat):Int).fdiv (2 ^ min (Int.toNat 32) IntKind.u64.bits)) ((i+1:Nat):Int)=some (F.sl rn rg):=by
   rw [w4,K8,hx,show c+x+b.getD i 0=x+b.getD i 0+c by omega]
   exact e1
  have fin:E4 DF 0 rn rg (o++Kv 4294967296 (x :: rest) (b.drop i) c):=by
   simp only [Kv,KJ,L7]
   rw [List.append_cons]
   exact e2
  refine ⟨rn,rg,?_,fin⟩
  rw [NP]
  unfold Xb
  rw [Int.toNat_natCast,w0,w1,w2,w3,ei,decide_eq_true (show (i:Int)<a.length by omega),decide_eq_true (show (0:Int)≤i by omega),decide_eq_true (Dp (show m+1≤3000 by omega))]
  simp only [AH,decide_true]
  rcases Nat.lt_or_ge i b.length with hib | hib
  ·rw [decide_eq_true (show (i:Int)<b.length by omega)]
   exact goal
  ·rw [decide_eq_false (show ¬ (i:Int)<b.length by omega)]
   rw [Dz hib,Nat.add_zero] at goal
   exact goal
theorem wH {a b:List Nat} (oa:okD 4294967296 a) (ob:okD 4294967296 b) (ha:a.length≤1900) (hb:b.length≤1900):∃ rn rg,G104 3000 a b=some (F.sl rn rg)∧E4 DF 0 rn rg (Sy a b):=by
 have e:∀ l:List Nat,l.length≤1900→IntKind.i64.wrap ((l.length:Int)+1)=((l.length+1:Nat):Int):=fun l hl=>by rw [As (by omega) (by omega)];omega
 unfold G104 T104 Sy
 rw [e a ha,e b hb,decide_eq_true (Dp (show a.length+1≤3000 by omega)),decide_eq_true (Dp (show b.length+1≤3000 by omega))]
 rw [decide_eq_true (show (0:Int)≤((a.length+1:Nat):Int) by omega),decide_eq_true (show (0:Int)≤((b.length+1:Nat):Int) by omega)]
 simp only [AH]
 by_cases h:a.length<b.length
 ·rw [decide_eq_true (show (a.length:Int)<b.length by omega),AH,if_pos h]
  exact PP ob oa (by omega) b 0 0 3000 0 [] _ rfl rfl (by simp) (by omega) E4.nil (by omega)
 ·rw [decide_eq_false (show ¬ (a.length:Int)<b.length by omega),AJ,if_neg h]
  exact PP oa ob (by omega) a 0 0 3000 0 [] _ rfl rfl (by simp) (by omega) E4.nil (by omega)
def ML:List F→Bool | [x,y]=>A5 x&&BB 1900 x&&(A5 y&&BB 1900 y) | _=>false
def MF:List F→F | [x,y]=>AP (Sy (AV x) (AV y)) | _=>.dflt
def Eb:List F→F | [x,y]=>AP (Hb 4294967296 (AV x) (AV y) 0) | _=>.dflt
theorem okAdd3:Ak Tryz.prog 104 ML MF :=
 Ad (c:=AT Tryz.f104) Tryz.func104 (by kernel_rfl) (by kernel_rfl) fun xs hp=>match xs,hp with
 | [x,y],hp=>by
  simp only [ML,Bool.and_eq_true] at hp
  obtain ⟨⟨hx,hxl⟩,hy,hyl⟩:=hp
  obtain ⟨rn,rg,e,h⟩:=wH (C0 hx) (C0 hy) (Gy hx hxl) (Gy hy hyl)
  exact ⟨[AP (AV x),AP (AV y)],_,⟨(Bq hx).1,(Bq hy).1,trivial⟩,t104 3000 _ _ _ e,h.le⟩
/-! ### function 106 -/
def fJ (a:List Nat) (b:List Nat) (m:Nat) (g:Nat→F) (c:Int) (i:Int):St:=⟨(U.f (AP a)) :: (U.f (AP b)) :: Al 3 ((U.hs 0 m 0 m) :: (U.f (F.int .u64 c)) :: (U.f (F.int .i64 i)) :: Al 41 []),[HO.arr 1 m g]⟩
def XZ {ρ:Type} (ret:L3 ρ) (c4:QN ρ) (a:List Nat) (b:List Nat) (m:Nat) (g:Nat→F) (c:Int) (i:Int):Option ρ :=
 (AD (decide (i<(↑a.length:Int)))
 (AD (decide (0≤i))
 (AD (decide (i<(↑a.length:Int)))
 (AD (decide (i<(↑b.length:Int)))
 (AD (decide (0≤i))
 (AD (decide (i<(↑b.length:Int)))
 (AD (decide (IntKind.u64.wrap (↑(a.getD i.toNat 0):Int)<IntKind.u64.wrap (c+IntKind.u64.wrap (↑(b.getD i.toNat 0):Int))))
 (AD (decide (m=m))
 (AD (decide (m=m))
 (AD (decide ((↑(m+1):Int)*(((4:Nat):Int)+1)≤(↑Bs:Int)))
 (c4 (a) (b) (m+1) (fun j ↦ if j<m then g j else F.int .u32 (IntKind.u32.wrap (IntKind.u64.wrap (IntKind.u64.wrap (IntKind.u64.wrap (↑(a.getD i.toNat 0):Int)+4294967296)-IntKind.u64.wrap (c+IntKind.u64.wrap (↑(b.getD i.toNat 0):Int)))))) (1) (IntKind.i64.wrap (i+1)))
 none)
 none)
 none)
 (AD (decide (m=m))
 (AD (decide (m=m))
 (AD (decide ((↑(m+1):Int)*(((4:Nat):Int)+1)≤(↑Bs:Int)))
 (c4 (a) (b) (m+1) (fun j ↦ if j<m then g j else F.int .u32 (IntKind.u32.wrap (IntKind.u64.wrap (IntKind.u64.wrap (↑(a.getD i.toNat 0):Int)-IntKind.u64.wrap (c+IntKind.u64.wrap (↑(b.getD i.toNat 0):Int)))))) (0) (IntKind.i64.wrap (i+1)))
 none)
 none)
 none))
 none)
 none)
 (AD (decide (IntKind.u64.wrap (↑(a.getD i.toNat 0):Int)<c))
 (AD (decide (m=m))
 (AD (decide (m=m))
 (AD (decide ((↑(m+1):Int)*(((4:Nat):Int)+1)≤(↑Bs:Int)))
 (c4 (a) (b) (m+1) (fun j ↦ if j<m then g j else F.int .u32 (IntKind.u32.wrap (IntKind.u64.wrap (IntKind.u64.wrap (IntKind.u64.wrap (↑(a.getD i.toNat 0):Int)+4294967296)-c)))) (1) (IntKind.i64.wrap (i+1)))
 none)
 none)
 none)
 (AD (decide (m=m))
 (AD (decide (m=m))
 (AD (decide ((↑(m+1):Int)*(((4:Nat):Int)+1)≤(↑Bs:Int)))
 (c4 (a) (b) (m+1) (fun j ↦ if j<m then g j else F.int .u32 (IntKind.u32.wrap (IntKind.u64.wrap (IntKind.u64.wrap (↑(a.getD i.toNat 0):Int)-c)))) (0) (IntKind.i64.wrap (i+1)))
 none)
 none)
 none)))
 none)
 none)
 (AD (decide (m=m))
 (ret (F.sl m g))
 none))
def Pb:Nat→(List Nat)→(List Nat)→(Nat)→(Nat→F)→(Int)→(Int)→Option (F)
 | 0,_,_,_,_,_,_=>none
 | k+1,a,b,m,g,c,i=>XZ some (Pb k) a b m g c i
def T106 {ρ:Type} (ret:L3 ρ) (c4:QN ρ) (a:List Nat) (b:List Nat):Option ρ :=
 (AD (decide ((↑a.length:Int)*(((4:Nat):Int)+1)≤(↑Bs:Int)))
 (c4 (a) (b) (0) (fun x ↦ F.int .u32 0) (0) (0))
 none)
def G106 (k:Nat) (a:List Nat) (b:List Nat):Option (F):=T106 some (Pb k) a b
theorem Qt:∀ (k:Nat) (a:List Nat) (b:List Nat) (m:Nat) (g:Nat→F) (c:Int) (i:Int) (r:F),Pb k a b m g c i=some r→AX Tryz.prog Tryz.f106.results.toList (at_ Tryz.f106 4) (fJ a b m g c i) (r)
 | 0,_,_,_,_,_,_,_,h=>nomatch h
 | k+1,a,b,m,g,c,i,r,h=>by
  refine AX.of_cut Au E0 (T:=[(4,[0,1,5,6,7],1000)]) (n:=200) ?_
  refine gE (Y:=XZ (fun r=>some (.ret (r))) (fun a b m g c i=>some (.cut (at_ Tryz.f106 4) (fJ a b m g c i))) a b m g c i) (by kernel_rfl) ?_
  exact (gS h (fun _ h=>(gS h (fun _ h=>(gS h (fun _ h=>(gS h (fun _ h=>(gS h (fun _ h=>(gS h (fun _ h=>(gS h (fun _ h=>(gS h (fun _ h=>(gS h (fun _ h=>(gS h (fun _ h=>gC (Qt k _ _ _ _ _ _ r h)) gN)) gN)) gN)) (fun _ h=>(gS h (fun _ h=>(gS h (fun _ h=>(gS h (fun _ h=>gC (Qt k _ _ _ _ _ _ r h)) gN)) gN)) gN)))) gN)) gN)) (fun _ h=>(gS h (fun _ h=>(gS h (fun _ h=>(gS h (fun _ h=>(gS h (fun _ h=>gC (Qt k _ _ _ _ _ _ r h)) gN)) gN)) gN)) (fun _ h=>(gS h (fun _ h=>(gS h (fun _ h=>(gS h (fun _ h=>gC (Qt k _ _ _ _ _ _ r h)) gN)) gN)) gN)))))) gN)) gN)) (fun _ h=>(gS h (fun _ h=>gR (by cases h;rfl)) gN)))
theorem t106 (k:Nat) (a:List Nat) (b:List Nat) (r:F) (h:G106 k a b=some r):AX Tryz.prog Tryz.f106.results.toList [.code (AT Tryz.f106)] (start Tryz.f106.ntmps ([AP a,AP b].map .f)) (r):=by
 refine AX.of_run Au E0 (T:=[(4,[0,1,5,6,7],1000)]) (n:=200) ?_
 refine gE (Y:=T106 (fun r=>some (.ret (r))) (fun a b m g c i=>some (.cut (at_ Tryz.f106 4) (fJ a b m g c i))) a b) (by kernel_rfl) ?_
 exact (gS h (fun _ h=>gC (Qt k _ _ _ _ _ _ r h)) gN)
theorem TY {a b:List Nat} (oa:okD 4294967296 a) (ob:okD 4294967296 b) (hn:a.length≤2000):∀ (rest:List Nat) (i c k m:Nat) (o:List Nat) (g:Nat→F),a.drop i=rest→o.length=i→i+rest.length=a.length→c≤1 →
  E4 DF 0 m g o→rest.length<k→∃ rn rg,Pb k a b m g c i=some (F.sl rn rg)∧E4 DF 0 rn rg (o++Hb 4294967296 rest (b.drop i) c)
 | _,_,_,0,_,_,_,_,_,_,_,_,h=>by omega
 | [],i,c,k+1,m,o,g,hr,ho,hi,hc,hg,_=>by
  simp only [List.length_nil,Nat.add_zero] at hi
  subst hi
  rw [Pb]
  unfold XZ
  rw [decide_eq_false (show ¬ (a.length:Int)<a.length by omega),AJ,Gd,AH]
  exact ⟨_,_,rfl,by simp only [Hb,List.append_nil];exact hg⟩
 | x :: rest,i,c,k+1,m,o,g,hr,ho,hi,hc,hg,hk=>by
  obtain ⟨hx,hr',hia⟩:=Jo hr
  have hxb:=Dk oa hia
  have hyb:=HX (by omega) ob i
  have hm:m=o.length:=hg.1
  obtain ⟨rn,rg,e1,e2⟩:=TY oa ob hn rest (i+1) (if x<b.getD i 0+c then 1 else 0) k (m+1) (o++[(x+4294967296-b.getD i 0-c) % 4294967296]) _ hr' (by simp [ho]) (by simp only [List.length_cons] at hi;omega) (by split <;> omega) (hg.push _) (by simp at hk;omega)
  have ei:IntKind.i64.wrap ((i:Int)+1)=((i+1:Nat):Int):=by rw [As (by omega) (by omega)];omega
  have w0:IntKind.u64.wrap ((a.getD i 0:Nat):Int)=(a.getD i 0:Nat):=Cg (by omega)
  have w1:IntKind.u64.wrap ((b.getD i 0:Nat):Int)=(b.getD i 0:Nat):=Cg (by omega)
  have w2:IntKind.u64.wrap ((c:Int)+(b.getD i 0:Nat))=((c+b.getD i 0:Nat):Int):=by rw [Dw];omega
  have w3:IntKind.u64.wrap ((a.getD i 0:Nat)+4294967296)=((a.getD i 0+4294967296:Nat):Int):=by rw [Dw];omega
  have fin:E4 DF 0 rn rg (o++Hb 4294967296 (x :: rest) (b.drop i) c):=by
   simp only [Hb,KJ,L7]
   rw [List.append_cons]
   exact e2
  have val32:∀ y:Nat,y=b.getD i 0→∀ (t:Int),((x<y+c∧t=((x+4294967296:Nat):Int)-((c+y:Nat):Int)) ∨ (¬ x<y+c∧t=(x:Int)-((c+y:Nat):Int)))→F.int .u32 (IntKind.u32.wrap (IntKind.u64.wrap t))=DF ((x+4294967296-b.getD i 0-c) % 4294967296):=by
   intro y hy t ht
   subst hy
   refine congrArg (F.int .u32) ?_
   rw [H7,Dw]
   rcases ht with ⟨h1,rfl⟩ | ⟨h1,rfl⟩ <;> omega
  refine ⟨rn,rg,?_,fin⟩
  rw [Pb]
  unfold XZ
  rw [Int.toNat_natCast,w0,w1,w2,w3,ei,decide_eq_true (show (i:Int)<a.length by omega),decide_eq_true (show (0:Int)≤i by omega),decide_eq_true (Dp (show m+1≤3000 by omega)),hx]
  simp only [AH,decide_true]
  rcases Nat.lt_or_ge i b.length with hib | hib
  ·rw [decide_eq_true (show (i:Int)<b.length by omega),AH]
   by_cases hlt:x<b.getD i 0+c
   ·rw [decide_eq_true (show (x:Int)<((c+b.getD i 0:Nat):Int) by omega),AH,val32 _ rfl _ (.inl ⟨hlt,rfl⟩)]
    rw [if_pos hlt] at e1
    exact e1
   ·rw [decide_eq_false (show ¬ (x:Int)<((c+b.getD i 0:Nat):Int) by omega),AJ,val32 _ rfl _ (.inr ⟨hlt,rfl⟩)]
    rw [if_neg hlt] at e1
    exact e1
  ·rw [decide_eq_false (show ¬ (i:Int)<b.length by omega),AJ]
   have hb0:=Dz hib
   by_cases hlt:x<b.getD i 0+c
   ·have:=val32 0 hb0.symm (((x+4294967296:Nat):Int)-(c:Int)) (.inl ⟨by rw [← hb0];exact hlt,by omega⟩)
    rw [decide_eq_true (show (x:Int)<(c:Int) by rw [hb0] at hlt;omega),AH,this]
    rw [if_pos hlt] at e1
    exact e1
   ·have:=val32 0 hb0.symm ((x:Int)-(c:Int)) (.inr ⟨by rw [← hb0];exact hlt,by omega⟩)
    rw [decide_eq_false (show ¬ (x:Int)<(c:Int) by rw [hb0] at hlt;omega),AJ,this]
    rw [if_neg hlt] at e1
    exact e1
theorem pU {a b:List Nat} (oa:okD 4294967296 a) (ob:okD 4294967296 b) (ha:a.length≤1900):∃ rn rg,G106 3000 a b=some (F.sl rn rg)∧E4 DF 0 rn rg (Hb 4294967296 a b 0):=by
 unfold G106 T106
 rw [decide_eq_true (Dp (show a.length≤3000 by omega)),AH]
 exact TY oa ob (by omega) a 0 0 3000 0 [] _ rfl rfl (by simp) (by omega) E4.nil (by omega)
theorem okSub3:Ak Tryz.prog 106 ML Eb :=
 Ad (c:=AT Tryz.f106) Tryz.func106 (by kernel_rfl) (by kernel_rfl) fun xs hp=>match xs,hp with
 | [x,y],hp=>by
  simp only [ML,Bool.and_eq_true] at hp
  obtain ⟨⟨hx,hxl⟩,hy,hyl⟩:=hp
  obtain ⟨rn,rg,e,h⟩:=pU (C0 hx) (C0 hy) (Gy hx hxl)
  exact ⟨[AP (AV x),AP (AV y)],_,⟨(Bq hx).1,(Bq hy).1,trivial⟩,t106 3000 _ _ _ e,h.le⟩
def envS2:Env:=(((uH.add 99 (.pure RJ YF)).add 105 (.pure Wf hJ)).add 104 (.pure ML MF)).add 106 (.pure ML Eb)
theorem Gc:Az Tryz.prog envS2:=(Env.add_ok (Env.add_ok (Env.add_ok (Env.add_ok E0 okTrim3.sp) okCmp3.sp) okAdd3.sp) okSub3.sp)
end
noncomputable section
/-! ### function 107 -/
def T107 {ρ:Type} (ret:L3 ρ) (z:Int):Option ρ :=
 (AD ((↑(AM 4294967296 z.natAbs).length:Int)==0)
 (ret (AQ z))
 (ret (F.agg [F.bool !decide (z<0),AP (AM 4294967296 z.natAbs)])))
def G107 (z:Int):Option (F):=T107 some z
theorem t107 (z:Int) (r:F) (h:G107 z=some r):AX Tryz.prog Tryz.f107.results.toList [.code (AT Tryz.f107)] (start Tryz.f107.ntmps ([AQ z].map .f)) (r):=by
 refine AX.of_run Au Gc (T:=[]) (n:=200) ?_
 refine gE (Y:=T107 (fun r=>some (.ret (r))) z) (by kernel_rfl) ?_
 exact (gS h (fun _ h=>gR (by cases h;rfl)) (fun _ h=>gR (by cases h;rfl)))
theorem sN (z:Int):G107 z=some (AQ (-z)):=by
 unfold G107 T107
 by_cases h0:z=0
 ·subst h0
  rw [show AM 4294967296 (Int.natAbs 0)=[] from BU _]
  rfl
 ·have:=EJ (n:=z.natAbs).2 (by omega)
  rw [show (((AM 4294967296 z.natAbs).length:Int)==0)=false by simp only [beq_eq_false_iff_ne,ne_eq];omega,AJ]
  unfold AQ
  rw [Int.natAbs_neg]
  by_cases hz:z<0
  ·rw [decide_eq_true hz,decide_eq_false (show ¬ -z<0 by omega)];rfl
  ·rw [decide_eq_false hz,decide_eq_true (show -z<0 by omega)];rfl
def Nl:List F→F | [x]=>AQ (-(AW x)) | _=>.dflt
theorem okNeg3:Ak Tryz.prog 107 (iE 800) Nl :=
 Ad (c:=AT Tryz.f107) Tryz.func107 (by kernel_rfl) (by kernel_rfl) fun xs hp=>match xs,hp with
 | [x],hp=>⟨[AQ (AW x)],_,⟨(DY hp).1,trivial⟩,t107 _ _ (sN _),.refl _⟩
/-! ### function 78 -/
def T78 {ρ:Type} (ret:L3 ρ) (n:Int):Option ρ :=
 (AD (decide (n<0))
 (AD (A5 (F.sl 2 (Ar [F.int .u32 (IntKind.u32.wrap (IntKind.u64.wrap (0-IntKind.u64.wrap n))),F.int .u32 (IntKind.u32.wrap ((IntKind.u64.wrap (0-IntKind.u64.wrap n)).fdiv (2 ^ min (Int.toNat 32) IntKind.u64.bits)))]))&&true)
 (ret (AQ (sgn (decide (n<0)) (val 4294967296 (AV (F.sl 2 (Ar [F.int .u32 (IntKind.u32.wrap (IntKind.u64.wrap (0-IntKind.u64.wrap n))),F.int .u32 (IntKind.u32.wrap ((IntKind.u64.wrap (0-IntKind.u64.wrap n)).fdiv (2 ^ min (Int.toNat 32) IntKind.u64.bits)))])))))))
 none)
 (AD (A5 (F.sl 2 (Ar [F.int .u32 (IntKind.u32.wrap (IntKind.u64.wrap n)),F.int .u32 (IntKind.u32.wrap ((IntKind.u64.wrap n).fdiv (2 ^ min (Int.toNat 32) IntKind.u64.bits)))]))&&true)
 (ret (AQ (sgn (decide (n<0)) (val 4294967296 (AV (F.sl 2 (Ar [F.int .u32 (IntKind.u32.wrap (IntKind.u64.wrap n)),F.int .u32 (IntKind.u32.wrap ((IntKind.u64.wrap n).fdiv (2 ^ min (Int.toNat 32) IntKind.u64.bits)))])))))))
 none))
def G78 (n:Int):Option (F):=T78 some n
theorem t78 (n:Int) (r:F) (h:G78 n=some r):AX Tryz.prog Tryz.f78.results.toList [.code (AT Tryz.f78)] (start Tryz.f78.ntmps ([F.int .i64 n].map .f)) (r):=by
 refine AX.of_run Au Gc (T:=[]) (n:=200) ?_
 refine gE (Y:=T78 (fun r=>some (.ret (r))) n) (by kernel_rfl) ?_
 exact (gS h (fun _ h=>(gS h (fun _ h=>gR (by cases h;rfl)) gN)) (fun _ h=>(gS h (fun _ h=>gR (by cases h;rfl)) gN)))
theorem Qn {u:Nat} (hu:u<18446744073709551616):A5 (F.sl 2 (Ar [F.int .u32 (IntKind.u32.wrap (u:Int)),F.int .u32 (IntKind.u32.wrap ((u:Int).fdiv (2 ^ min (Int.toNat 32) IntKind.u64.bits)))]))=true ∧
  val 4294967296 (AV (F.sl 2 (Ar [F.int .u32 (IntKind.u32.wrap (u:Int)),F.int .u32 (IntKind.u32.wrap ((u:Int).fdiv (2 ^ min (Int.toNat 32) IntKind.u64.bits)))])))=u:=by
 have e1:F.int .u32 (IntKind.u32.wrap (u:Int))=DF (u % 4294967296):=congrArg (F.int .u32) (by rw [H7];omega)
 have e2:F.int .u32 (IntKind.u32.wrap ((u:Int).fdiv (2 ^ min (Int.toNat 32) IntKind.u64.bits)))=DF (u / 4294967296):=congrArg (F.int .u32) (by rw [K8,H7];omega)
 rw [e1,e2]
 have hg:∀ j,j<2→Ar [DF (u % 4294967296),DF (u / 4294967296)] j=DF (([u % 4294967296,u / 4294967296]:List Nat).getD j 0):=fun j hj=>by
  match j,hj with
  | 0,_=>rfl
  | 1,_=>rfl
 have ho:okD 4294967296 [u % 4294967296,u / 4294967296]:=by intro w hw;simp at hw;omega
 refine ⟨Ew (l:=[u % 4294967296,u / 4294967296]) rfl hg ho,?_⟩
 rw [Et (m:=2) (l:=[u % 4294967296,u / 4294967296]) rfl hg]
 simp only [val]
 omega
theorem tJ {n:Int} (h:-9223372036854775808≤n∧n≤9223372036854775807):G78 n=some (AQ n):=by
 unfold G78 T78
 by_cases hn:n<0
 ·have e:IntKind.u64.wrap (0-IntKind.u64.wrap n)=(n.natAbs:Int):=by simp only [Dw];omega
  obtain ⟨h1,h2⟩:=Qn (u:=n.natAbs) (by omega)
  rw [e,h1,h2,decide_eq_true hn]
  have:sgn true n.natAbs=n:=by simp only [sgn,if_true];omega
  rw [this]
  rfl
 ·have e:IntKind.u64.wrap n=(n.natAbs:Int):=by simp only [Dw];omega
  obtain ⟨h1,h2⟩:=Qn (u:=n.natAbs) (by omega)
  rw [e,h1,h2,decide_eq_false hn]
  have:sgn false n.natAbs=n:=by simp only [sgn,Bool.false_eq_true,if_false];omega
  rw [this]
  rfl
def A2:List F→F | [.int .i64 n]=>AQ n | _=>.dflt
theorem okInt3:Ak Tryz.prog 78 O0 A2 :=
 B2 (c:=AT Tryz.f78) Tryz.func78 (by kernel_rfl) (by kernel_rfl) fun xs hp=>match xs,hp with
 | [.int .i64 n],hp=>t78 n _ (tJ (Bd.1 hp))
/-! ### function 93 -/
def T93 {ρ:Type} (ret:L3 ρ) (x:Int) (y:Int):Option ρ :=
 (AD (decide (x<0)==decide (y<0))
 (AD (A5 (AP (AM 4294967296 x.natAbs))&&BB 1900 (AP (AM 4294967296 x.natAbs))&&(A5 (AP (AM 4294967296 y.natAbs))&&BB 1900 (AP (AM 4294967296 y.natAbs))))
 (AD (A5 (MF [AP (AM 4294967296 x.natAbs),AP (AM 4294967296 y.natAbs)])&&BB 2000 (MF [AP (AM 4294967296 x.natAbs),AP (AM 4294967296 y.natAbs)]))
 (ret (AQ (sgn (decide (x<0)) (val 4294967296 (AV (MF [AP (AM 4294967296 x.natAbs),AP (AM 4294967296 y.natAbs)]))))))
 none)
 none)
 (AD (C3 800 (AP (AM 4294967296 x.natAbs))&&C3 800 (AP (AM 4294967296 y.natAbs)))
 (AD (decide (((↑(val 4294967296 (AV (AP (AM 4294967296 x.natAbs)))):Int)-(↑(val 4294967296 (AV (AP (AM 4294967296 y.natAbs)))):Int)).sign ≥ 0))
 (AD (A5 (AP (AM 4294967296 x.natAbs))&&BB 1900 (AP (AM 4294967296 x.natAbs))&&(A5 (AP (AM 4294967296 y.natAbs))&&BB 1900 (AP (AM 4294967296 y.natAbs))))
 (AD (A5 (Eb [AP (AM 4294967296 x.natAbs),AP (AM 4294967296 y.natAbs)])&&BB 2000 (Eb [AP (AM 4294967296 x.natAbs),AP (AM 4294967296 y.natAbs)]))
 (ret (AQ (sgn (decide (x<0)) (val 4294967296 (AV (Eb [AP (AM 4294967296 x.natAbs),AP (AM 4294967296 y.natAbs)]))))))
 none)
 none)
 (AD (A5 (AP (AM 4294967296 y.natAbs))&&BB 1900 (AP (AM 4294967296 y.natAbs))&&(A5 (AP (AM 4294967296 x.natAbs))&&BB 1900 (AP (AM 4294967296 x.natAbs))))
 (AD (A5 (Eb [AP (AM 4294967296 y.natAbs),AP (AM 4294967296 x.natAbs)])&&BB 2000 (Eb [AP (AM 4294967296 y.natAbs),AP (AM 4294967296 x.natAbs)]))
 (ret (AQ (sgn (decide (y<0)) (val 4294967296 (AV (Eb [AP (AM 4294967296 y.natAbs),AP (AM 4294967296 x.natAbs)]))))))
 none)
 none))
 none))
def G93 (x:Int) (y:Int):Option (F):=T93 some x y
theorem t93 (x:Int) (y:Int) (r:F) (h:G93 x y=some r):AX Tryz.prog Tryz.f93.results.toList [.code (AT Tryz.f93)] (start Tryz.f93.ntmps ([AQ x,AQ y].map .f)) (r):=by
 refine AX.of_run Au Gc (T:=[]) (n:=200) ?_
 refine gE (Y:=T93 (fun r=>some (.ret (r))) x y) (by kernel_rfl) ?_
 exact (gS h (fun _ h=>(gS h (fun _ h=>(gS h (fun _ h=>gR (by cases h;rfl)) gN)) gN)) (fun _ h=>(gS h (fun _ h=>(gS h (fun _ h=>(gS h (fun _ h=>(gS h (fun _ h=>gR (by cases h;rfl)) gN)) gN)) (fun _ h=>(gS h (fun _ h=>(gS h (fun _ h=>gR (by cases h;rfl)) gN)) gN)))) gN)))
theorem add3Z {x y:Int} (hx:x.natAbs<4294967296 ^ 800) (hy:y.natAbs<4294967296 ^ 800):G93 x y=some (AQ (x+y)):=by
 have lx:=DR hx
 have ly:=DR hy
 have ox:=BG (B:=4294967296) (by omega) x.natAbs
 have oy:=BG (B:=4294967296) (by omega) y.natAbs
 have tx:=Cl hx
 have ty:=Cl hy
 have bx:BB 1900 (AP (AM 4294967296 x.natAbs))=true:=Dy hx (by omega)
 have bY:BB 1900 (AP (AM 4294967296 y.natAbs))=true:=Dy hy (by omega)
 clear hx hy
 have ble:∀ l:List Nat,l.length≤2000→BB 2000 (AP l)=true:=fun l hl=>by rw [HJ,Nat.ble_eq];exact hl
 have s1:=DD (sB ox oy)
 have s2:=ble _ (show (Sy (AM 4294967296 x.natAbs) (AM 4294967296 y.natAbs)).length≤2000 by have:=sY (AM 4294967296 x.natAbs) (AM 4294967296 y.natAbs);omega)
 have d1:=DD (LK (B:=4294967296) (by omega) (AM 4294967296 x.natAbs) (AM 4294967296 y.natAbs) 0)
 have d2:=ble _ (show (Hb 4294967296 (AM 4294967296 x.natAbs) (AM 4294967296 y.natAbs) 0).length≤2000 by rw [N3];omega)
 have e1:=DD (LK (B:=4294967296) (by omega) (AM 4294967296 y.natAbs) (AM 4294967296 x.natAbs) 0)
 have e2:=ble _ (show (Hb 4294967296 (AM 4294967296 y.natAbs) (AM 4294967296 x.natAbs) 0).length≤2000 by rw [N3];omega)
 have long:∀ m n:Nat,n≤m→(AM 4294967296 n).length≤(AM 4294967296 m).length:=fun m n h=>by
  rcases Nat.lt_or_ge (AM 4294967296 m).length (AM 4294967296 n).length with h1 | h1
  ·have:=D2 (B:=4294967296) (by omega) (BG (by omega) m) (CS (by omega) n) h1
   rw [BV,BV] at this
   omega
  ·exact h1
 have subv:∀ m n:Nat,n≤m→val 4294967296 (Hb 4294967296 (AM 4294967296 m) (AM 4294967296 n) 0)=m-n:=fun m n h=>by
  have:=K0 (B:=4294967296) (by omega) (AM 4294967296 m) (AM 4294967296 n) 0 (BG (by omega) m) (BG (by omega) n) (by omega) (long m n h) (by rw [BV,BV];omega)
  rw [BV,BV] at this
  omega
 unfold G93 T93
 simp only [Ex,bx,bY,tx,ty,MF,Eb,De,Dm,BV,oP,s1,s2,d1,d2,e1,e2,Bool.and_self,AH]
 by_cases hs:(decide (x<0)==decide (y<0))=true
 ·rw [hs,AH]
  have:sgn (decide (x<0)) (x.natAbs+y.natAbs)=x+y:=by
   rw [beq_iff_eq,decide_eq_decide] at hs
   by_cases hx:x<0
   ·rw [decide_eq_true hx];simp only [sgn,if_true];omega
   ·rw [decide_eq_false hx];simp only [sgn,Bool.false_eq_true,if_false];omega
  rw [this]
 ·have hs':(decide (x<0)==decide (y<0))=false:=by simpa using hs
  rw [hs',AJ]
  have hxy:¬ (x<0 ↔ y<0):=by rw [← decide_eq_decide,← beq_iff_eq];exact hs
  by_cases hc:y.natAbs≤x.natAbs
  ·rw [decide_eq_true (show ((x.natAbs:Int)-y.natAbs).sign ≥ 0 from Int.sign_nonneg_iff.2 (by omega)),AH,subv _ _ hc]
   have:sgn (decide (x<0)) (x.natAbs-y.natAbs)=x+y:=by
    by_cases hx:x<0
    ·rw [decide_eq_true hx];simp only [sgn,if_true];omega
    ·rw [decide_eq_false hx];simp only [sgn,Bool.false_eq_true,if_false];omega
   rw [this]
  ·rw [decide_eq_false (show ¬ ((x.natAbs:Int)-y.natAbs).sign ≥ 0 from fun h=>by have:=Int.sign_nonneg_iff.1 h;omega),AJ,subv _ _ (by omega)]
   have:sgn (decide (y<0)) (y.natAbs-x.natAbs)=x+y:=by
    by_cases hy:y<0
    ·rw [decide_eq_true hy];simp only [sgn,if_true];omega
    ·rw [decide_eq_false hy];simp only [sgn,Bool.false_eq_true,if_false];omega
   rw [this]
def No:List F→F | [x,y]=>AQ (AW x+AW y) | _=>.dflt
theorem okAddZ:Ak Tryz.prog 93 (Kp 800) No :=
 Ad (c:=AT Tryz.f93) Tryz.func93 (by kernel_rfl) (by kernel_rfl) fun xs hp=>match xs,hp with
 | [x,y],hp=>by
  obtain ⟨hx,hy⟩:=JT hp
  exact ⟨[AQ (AW x),AQ (AW y)],_,⟨(DY hx).1,(DY hy).1,trivial⟩,t93 _ _ _ (add3Z (A7 hx) (A7 hy)),.refl _⟩
/-! ### function 113 -/
def T113 {ρ:Type} (ret:(Int)→Option ρ) (z:Int):Option ρ :=
 (AD ((↑(AM 4294967296 z.natAbs).length:Int)==0)
 (ret (0))
 (AD (decide (z<0))
 (ret (-1))
 (ret (1))))
def G113 (z:Int):Option (Int):=T113 some z
theorem t113 (z:Int) (r:Int) (h:G113 z=some r):AX Tryz.prog Tryz.f113.results.toList [.code (AT Tryz.f113)] (start Tryz.f113.ntmps ([AQ z].map .f)) (F.int .i64 r):=by
 refine AX.of_run Au Gc (T:=[]) (n:=200) ?_
 refine gE (Y:=T113 (fun r=>some (.ret (F.int .i64 r))) z) (by kernel_rfl) ?_
 exact (gS h (fun _ h=>gR (by cases h;rfl)) (fun _ h=>(gS h (fun _ h=>gR (by cases h;rfl)) (fun _ h=>gR (by cases h;rfl)))))
theorem lG (z:Int):G113 z=some z.sign:=by
 unfold G113 T113
 by_cases h0:z=0
 ·subst h0
  rw [show AM 4294967296 (Int.natAbs 0)=[] from BU _]
  rfl
 ·have:=EJ (n:=z.natAbs).2 (by omega)
  rw [show (((AM 4294967296 z.natAbs).length:Int)==0)=false by simp only [beq_eq_false_iff_ne,ne_eq];omega,AJ]
  by_cases hz:z<0
  ·rw [decide_eq_true hz,AH,Int.sign_eq_neg_one_of_neg hz]
  ·rw [decide_eq_false hz,AJ,Int.sign_eq_one_of_pos (by omega)]
def YI:List F→F | [x]=>.int .i64 (AW x).sign | _=>.dflt
theorem okSign3:Ak Tryz.prog 113 (iE 900) YI :=
 Ad (c:=AT Tryz.f113) Tryz.func113 (by kernel_rfl) (by kernel_rfl) fun xs hp=>match xs,hp with
 | [x],hp=>⟨[AQ (AW x)],_,⟨(DY hp).1,trivial⟩,t113 _ _ (lG _),.refl _⟩
/-! ### function 116 -/
def fG (n:Int) (x:Int):St:=⟨Al 3 ((U.f (F.int .i64 n)) :: (U.f (F.int .u32 x)) :: Al 20 []),[]⟩
def XW {ρ:Type} (ret:(Int)→Option ρ) (c5:Su ρ) (n:Int) (x:Int):Option ρ :=
 (AD (decide (x > 0))
 (c5 (IntKind.i64.wrap (n+1)) (x.fdiv (2 ^ min (Int.toNat 1) IntKind.u32.bits)))
 (ret (n)))
def PZ:Nat→(Int)→(Int)→Option (Int)
 | 0,_,_=>none
 | k+1,n,x=>XW some (PZ k) n x
def T116 {ρ:Type} (ret:(Int)→Option ρ) (c5:Su ρ) (d:List Nat):Option ρ :=
 (AD ((↑d.length:Int)==0)
 (ret (0))
 (AD (decide (0≤IntKind.i64.wrap ((↑d.length:Int)-1)))
 (AD (decide (IntKind.i64.wrap ((↑d.length:Int)-1)<(↑d.length:Int)))
 (c5 (IntKind.i64.wrap (IntKind.i64.wrap ((↑d.length:Int)-1)*32)) ((↑(d.getD (IntKind.i64.wrap ((↑d.length:Int)-1)).toNat 0):Int)))
 none)
 none))
def G116 (k:Nat) (d:List Nat):Option (Int):=T116 some (PZ k) d
theorem pP:∀ (k:Nat) (n:Int) (x:Int) (r:Int),PZ k n x=some r→AX Tryz.prog Tryz.f116.results.toList (at_ Tryz.f116 5) (fG n x) (F.int .i64 r)
 | 0,_,_,_,h=>nomatch h
 | k+1,n,x,r,h=>by
  refine AX.of_cut Au Gc (T:=[(5,[3,4],1000)]) (n:=200) ?_
  refine gE (Y:=XW (fun r=>some (.ret (F.int .i64 r))) (fun n x=>some (.cut (at_ Tryz.f116 5) (fG n x))) n x) (by kernel_rfl) ?_
  exact (gS h (fun _ h=>gC (pP k _ _ r h)) (fun _ h=>gR (by cases h;rfl)))
theorem t116 (k:Nat) (d:List Nat) (r:Int) (h:G116 k d=some r):AX Tryz.prog Tryz.f116.results.toList [.code (AT Tryz.f116)] (start Tryz.f116.ntmps ([AP d].map .f)) (F.int .i64 r):=by
 refine AX.of_run Au Gc (T:=[(5,[3,4],1000)]) (n:=200) ?_
 refine gE (Y:=T116 (fun r=>some (.ret (F.int .i64 r))) (fun n x=>some (.cut (at_ Tryz.f116 5) (fG n x))) d) (by kernel_rfl) ?_
 exact (gS h (fun _ h=>gR (by cases h;rfl)) (fun _ h=>(gS h (fun _ h=>(gS h (fun _ h=>gC (pP k _ _ r h)) gN)) gN)))
theorem aR {x:Nat} (h:0<x):AZ x=AZ (x / 2)+1:=by
 by_cases h1:x=1
 ·subst h1;decide
 ·have:=Hu (n:=x) (k:=1) (by rw [Nat.pow_one];omega)
  rw [Nat.pow_one] at this
  omega
theorem SV:∀ (k x n:Nat),x<2 ^ k→n+k≤100000→k≤64→PZ (k+1) n x=some ((n+AZ x:Nat):Int)
 | k,0,n,_,_,_=>by
  rw [PZ]
  unfold XW
  rw [decide_eq_false (by omega),AJ]
  rfl
 | 0,x+1,n,h,_,_=>by simp at h
 | k+1,x+1,n,h,hn,hk=>by
  rw [PZ]
  unfold XW
  have e1:(((x+1:Nat):Int)).fdiv (2 ^ min (Int.toNat 1) IntKind.u32.bits)=(((x+1) / 2:Nat):Int):=by
   rw [show min (Int.toNat 1) IntKind.u32.bits=1 from rfl,OB]
  have e2:IntKind.i64.wrap ((n:Int)+1)=((n+1:Nat):Int):=by rw [As (by omega) (by omega)];omega
  rw [decide_eq_true (show ((x+1:Nat):Int) > 0 by omega),AH,e1,e2,SV k ((x+1) / 2) (n+1) (by rw [Nat.pow_succ] at h;omega) (by omega) (by omega),aR (x:=x+1) (by omega)]
  congr 1
  omega
theorem Xg (k:Nat):4294967296 ^ k=2 ^ (32*k):=by rw [show 4294967296=2 ^ 32 from rfl,← Nat.pow_mul]
theorem nV {m:Nat} (h:m<4294967296 ^ 800):G116 33 (AM 4294967296 m)=some ((AZ m:Nat):Int):=by
 have hl:=DR h
 have hlow:∀ k,k<(AM 4294967296 m).length→4294967296 ^ k≤m:=fun k hk=>by
  rcases Nat.lt_or_ge m (4294967296 ^ k) with h1 | h1
  ·have:=DR h1
   omega
  ·exact h1
 clear h
 unfold G116 T116
 by_cases h0:m=0
 ·subst h0
  rw [BU]
  rfl
 ·have hp:=EJ (n:=m).2 h0
  have e1:IntKind.i64.wrap (((AM 4294967296 m).length:Int)-1)=(((AM 4294967296 m).length-1:Nat):Int):=by rw [As (by omega) (by omega)];omega
  have e2:IntKind.i64.wrap ((((AM 4294967296 m).length-1:Nat):Int)*32)=((32*((AM 4294967296 m).length-1):Nat):Int):=by rw [As (by omega) (by omega)];omega
  have hb:=HX (show 0<4294967296 by omega) (BG (B:=4294967296) (by omega) m) ((AM 4294967296 m).length-1)
  rw [show (((AM 4294967296 m).length:Int)==0)=false by simp only [beq_eq_false_iff_ne,ne_eq];omega,AJ,e1,decide_eq_true (show (0:Int)≤(((AM 4294967296 m).length-1:Nat):Int) by omega),decide_eq_true (show (((AM 4294967296 m).length-1:Nat):Int)<(AM 4294967296 m).length by omega),Int.toNat_natCast,AH,AH,e2,SV 32 _ _ hb (by omega) (by omega)]
  have hlo:=hlow ((AM 4294967296 m).length-1) (by omega)
  have hhi:m<4294967296 ^ (AM 4294967296 m).length:=by
   have:=K1 (AM 4294967296 m) (BG (by omega) m)
   rwa [BV] at this
  rw [Lm (by omega) _ _ (BG (by omega) m),BV]
  have hlt:m / 4294967296 ^ ((AM 4294967296 m).length-1)<4294967296:=by
   rw [Nat.div_lt_iff_lt_mul (Nat.pow_pos (by omega)),Nat.mul_comm,← Nat.pow_succ,show ((AM 4294967296 m).length-1).succ=(AM 4294967296 m).length by omega]
   exact hhi
  rw [Nat.mod_eq_of_lt hlt]
  rw [Xg] at hlo ⊢
  rw [← Hu hlo]
def Yn:List F→Bool | [x]=>C3 800 x | _=>false
def Ya:List F→F | [x]=>.int .i64 (AZ (val 4294967296 (AV x)):Nat) | _=>.dflt
theorem okBits3:Ak Tryz.prog 116 Yn Ya :=
 Ad (c:=AT Tryz.f116) Tryz.func116 (by kernel_rfl) (by kernel_rfl) fun xs hp=>match xs,hp with
 | [x],hp=>by
  obtain ⟨x1,x2,x3⟩:=HT hp
  have e:=nV x2
  rw [x3] at e
  exact ⟨[AP (AV x)],_,⟨(Bq x1).1,trivial⟩,t116 33 _ _ e,.refl _⟩
/-! ### function 117 -/
def fF (d:List Nat) (m:Nat) (g:Nat→F) (s:Int) (c:Int) (i:Int):St:=⟨(U.f (AP d)) :: Al 4 ((U.hs 0 m 0 m) :: (U.f (F.int .u64 s)) :: (U.f (F.int .u64 c)) :: (U.f (F.int .i64 i)) :: Al 38 []),[HO.arr 1 m g]⟩
def XV {ρ:Type} (ret:L3 ρ) (c5:(List Nat)→(Nat)→(Nat→F)→(Int)→(Int)→(Int)→Option ρ) (d:List Nat) (m:Nat) (g:Nat→F) (s:Int) (c:Int) (i:Int):Option ρ :=
 (AD (decide (i<(↑d.length:Int)))
 (AD (decide (0≤i))
 (AD (decide (i<(↑d.length:Int)))
 (AD (decide (0≤s))
 (AD (decide (m=m))
 (AD (decide (m=m))
 (AD (decide ((↑(m+1):Int)*(((4:Nat):Int)+1)≤(↑Bs:Int)))
 (c5 (d) (m+1) (fun j ↦ if j<m then g j else F.int .u32 (IntKind.u32.wrap (B8 BinOp.or IntKind.u64 c (IntKind.u64.wrap (IntKind.u64.wrap (↑(d.getD i.toNat 0):Int)*2 ^ min s.toNat IntKind.u64.bits))))) (s) ((B8 BinOp.or IntKind.u64 c (IntKind.u64.wrap (IntKind.u64.wrap (↑(d.getD i.toNat 0):Int)*2 ^ min s.toNat IntKind.u64.bits))).fdiv (2 ^ min (Int.toNat 32) IntKind.u64.bits)) (IntKind.i64.wrap (i+1)))
 none)
 none)
 none)
 none)
 none)
 none)
 (AD (decide (c > 0))
 (AD (decide (m=m))
 (AD (decide (m=m))
 (AD (decide ((↑(m+1):Int)*(((4:Nat):Int)+1)≤(↑Bs:Int)))
 (AD (decide (m+1=m+1))
 (AD (A5 (F.sl (m+1) (B9 0 fun j ↦ if j<m then g j else F.int .u32 (IntKind.u32.wrap c)))&&BB 2000 (F.sl (m+1) (B9 0 fun j ↦ if j<m then g j else F.int .u32 (IntKind.u32.wrap c))))
 (ret (AP (AM 4294967296 (sgn false (val 4294967296 (AV (F.sl (m+1) (B9 0 fun j ↦ if j<m then g j else F.int .u32 (IntKind.u32.wrap c)))))).natAbs)))
 none)
 none)
 none)
 none)
 none)
 (AD (decide (m=m))
 (AD (A5 (F.sl m (B9 0 g))&&BB 2000 (F.sl m (B9 0 g)))
 (ret (AP (AM 4294967296 (sgn false (val 4294967296 (AV (F.sl m (B9 0 g))))).natAbs)))
 none)
 none)))
def PY:Nat→(List Nat)→(Nat)→(Nat→F)→(Int)→(Int)→(Int)→Option (F)
 | 0,_,_,_,_,_,_=>none
 | k+1,d,m,g,s,c,i=>XV some (PY k) d m g s c i
def T117 {ρ:Type} (ret:L3 ρ) (c5:(List Nat)→(Nat)→(Nat→F)→(Int)→(Int)→(Int)→Option ρ) (d:List Nat) (n:Int):Option ρ :=
 (AD (decide (0≤IntKind.i64.wrap (n.tdiv 32)))
 (AD (decide (IntKind.i64.wrap (n.tdiv 32)≤IntKind.i64.wrap (n.tdiv 32)))
 (AD (decide (IntKind.i64.wrap (n.tdiv 32)*(((4:Nat):Int)+1)≤(↑Bs:Int)))
 (c5 (d) ((IntKind.i64.wrap (n.tdiv 32)).toNat) (fun x ↦ F.int .u32 0) (IntKind.u64.wrap (n.tmod 32)) (0) (0))
 none)
 none)
 none)
def G117 (k:Nat) (d:List Nat) (n:Int):Option (F):=T117 some (PY k) d n
theorem pO:∀ (k:Nat) (d:List Nat) (m:Nat) (g:Nat→F) (s:Int) (c:Int) (i:Int) (r:F),PY k d m g s c i=some r→AX Tryz.prog Tryz.f117.results.toList (at_ Tryz.f117 5) (fF d m g s c i) (r)
 | 0,_,_,_,_,_,_,_,h=>nomatch h
 | k+1,d,m,g,s,c,i,r,h=>by
  refine AX.of_cut Au Gc (T:=[(5,[0,5,6,7,8],1000)]) (n:=200) ?_
  refine gE (Y:=XV (fun r=>some (.ret (r))) (fun d m g s c i=>some (.cut (at_ Tryz.f117 5) (fF d m g s c i))) d m g s c i) (by kernel_rfl) ?_
  exact (gS h (fun _ h=>(gS h (fun _ h=>(gS h (fun _ h=>(gS h (fun _ h=>(gS h (fun _ h=>(gS h (fun _ h=>(gS h (fun _ h=>gC (pO k _ _ _ _ _ _ r h)) gN)) gN)) gN)) gN)) gN)) gN)) (fun _ h=>(gS h (fun _ h=>(gS h (fun _ h=>(gS h (fun _ h=>(gS h (fun _ h=>(gS h (fun _ h=>(gS h (fun _ h=>gR (by cases h;rfl)) gN)) gN)) gN)) gN)) gN)) (fun _ h=>(gS h (fun _ h=>(gS h (fun _ h=>gR (by cases h;rfl)) gN)) gN)))))
theorem t117 (k:Nat) (d:List Nat) (n:Int) (r:F) (h:G117 k d n=some r):AX Tryz.prog Tryz.f117.results.toList [.code (AT Tryz.f117)] (start Tryz.f117.ntmps ([AP d,F.int .i64 n].map .f)) (r):=by
 refine AX.of_run Au Gc (T:=[(5,[0,5,6,7,8],1000)]) (n:=200) ?_
 refine gE (Y:=T117 (fun r=>some (.ret (r))) (fun d m g s c i=>some (.cut (at_ Tryz.f117 5) (fF d m g s c i))) d n) (by kernel_rfl) ?_
 exact (gS h (fun _ h=>(gS h (fun _ h=>(gS h (fun _ h=>gC (pO k _ _ _ _ _ _ r h)) gN)) gN)) gN)
def X5 (k:Nat):List Nat→Nat→List Nat
 | [],c=>if c=0 then [] else [c]
 | x :: d,c=>((c+x*2 ^ k) % 4294967296) :: X5 k d ((c+x*2 ^ k) / 4294967296)
theorem Xo (k:Nat):∀ (d:List Nat) (c:Nat),val 4294967296 (X5 k d c)=val 4294967296 d*2 ^ k+c
 | [],c=>by by_cases h:c=0 <;> simp [X5,val,h]
 | x :: d,c=>by
  simp only [X5,val,Xo k d]
  have h:=Nat.mod_add_div (c+x*2 ^ k) 4294967296
  rw [Nat.add_mul,Nat.mul_add,Nat.mul_assoc]
  omega
theorem lI {k c x:Nat} (hk:k<32) (hc:c<2 ^ k) (hx:x<4294967296):c+x*2 ^ k<4294967296*2 ^ k∧(c+x*2 ^ k) / 4294967296<2 ^ k:=by
 have h1:c+x*2 ^ k<4294967296*2 ^ k:=by
  have:=Nat.mul_le_mul_right (2 ^ k) (show x+1≤4294967296 from hx)
  rw [Nat.add_mul] at this
  omega
 exact ⟨h1,Nat.div_lt_of_lt_mul h1⟩
theorem lQ (a b:Int):B8 .or .u64 a b=B8 .or .u64 b a:=by rw [bOr,bOr,BitVec.or_comm]
theorem VD {d:List Nat} {s:Nat} (od:okD 4294967296 d) (hs:s<32):∀ (rest:List Nat) (i c k m:Nat) (o:List Nat) (g:Nat→F),d.drop i=rest→i+rest.length=d.length→c<2 ^ s→okD 4294967296 o→o.length+rest.length≤1900 →
  E4 DF 0 m g o→rest.length<k→d.length≤1900→PY k d m g s c i=some (AP (AM 4294967296 (val 4294967296 (o++X5 s rest c))))
 | _,_,_,0,_,_,_,_,_,_,_,_,_,h,_=>by omega
 | [],i,c,k+1,m,o,g,hr,hi,hc,oo,hlen,hg,_,hd=>by
  simp only [List.length_nil,Nat.add_zero] at hi hlen
  subst hi
  have sg:∀ n:Nat,(sgn false n).natAbs=n:=D5 false
  rw [PY]
  unfold XV
  rw [decide_eq_false (show ¬ (d.length:Int)<d.length by omega),AJ]
  have hc2:2 ^ s≤2 ^ 31:=Nat.pow_le_pow_right (by omega) (by omega)
  by_cases h0:c=0
  ·subst h0
   have hl:o.length=m:=hg.1.symm
   have ho:B9 0 g=g:=rfl
   rw [decide_eq_false (show ¬ ((0:Nat):Int) > 0 by omega),AJ,Gd,AH,ho,Ew hl hg.2 oo,Et hl hg.2,show BB 2000 (F.sl m g)=true by simp only [BB,Nat.ble_eq];omega,sg]
   simp only [X5,if_true,List.append_nil]
   rfl
  ·have hp:=hg.push c
   have e:IntKind.u32.wrap (c:Int)=(c:Int):=by rw [H7];omega
   have hl:(o++[c]).length=m+1:=by rw [List.length_append,hg.1];rfl
   have ho:B9 0 (fun j=>if j<m then g j else F.int .u32 (c:Int))=(fun j=>if j<m then g j else DF c):=rfl
   have oc:okD 4294967296 (o++[c]):=Nw oo (by intro w hw;simp at hw;omega)
   have hm:=hg.1
   rw [decide_eq_true (show (c:Int) > 0 by omega),AH,Gd,AH,AH,decide_eq_true (Dp (show m+1≤3000 by omega)),AH,Gd,AH,e,ho,Ew hl hp.2 oc,Et hl hp.2,show BB 2000 (F.sl (m+1) fun j=>if j<m then g j else DF c)=true by simp only [BB,Nat.ble_eq];omega,sg]
   simp only [X5,if_neg h0]
   rfl
 | x :: rest,i,c,k+1,m,o,g,hr,hi,hc,oo,hlen,hg,hk,hd=>by
  obtain ⟨hx,hr',hia⟩:=Jo hr
  have hxb:=Dk od hia
  rw [hx] at hxb
  obtain ⟨hc1,hc2⟩:=lI hs hc hxb
  have hsb:2 ^ s≤2 ^ 31:=Nat.pow_le_pow_right (by omega) (by omega)
  have hBB:4294967296*2 ^ s<18446744073709551616:=Nat.lt_of_le_of_lt (Nat.mul_le_mul_left _ hsb) (by omega)
  have ih:=VD od hs rest (i+1) ((c+x*2 ^ s) / 4294967296) k (m+1) (o++[(c+x*2 ^ s) % 4294967296]) _ hr' (by simp only [List.length_cons] at hi;omega) hc2 (Nw oo (by intro w hw;simp at hw;omega)) (by simp only [List.length_cons,List.length_append,List.length_nil] at hlen ⊢;omega) (hg.push _) (by simp at hk;omega) hd
  have ei:IntKind.i64.wrap ((i:Int)+1)=((i+1:Nat):Int):=by rw [As (by omega) (by omega)];omega
  have w0:IntKind.u64.wrap ((x:Nat):Int)=(x:Nat):=Cg (by omega)
  have ms:min ((s:Nat):Int).toNat IntKind.u64.bits=s:=by rw [Int.toNat_natCast];exact Nat.min_eq_left (by show s≤64;omega)
  have w1:B8 .or .u64 (c:Int) (IntKind.u64.wrap ((x:Int)*2 ^ s))=((c+x*2 ^ s:Nat):Int):=by
   have h:=iL (i:=s) (a:=x) (b:=c) (by omega) hc (by rw [Nat.mul_comm];omega)
   rw [Nat.mul_comm (2 ^ s) x] at h
   rw [wshl,Nat.mod_eq_of_lt (show x*2 ^ s<18446744073709551616 by omega),lQ,h,Nat.add_comm]
  have w4:F.int .u32 (IntKind.u32.wrap ((c+x*2 ^ s:Nat):Int))=DF ((c+x*2 ^ s) % 4294967296):=congrArg (F.int .u32) (by rw [H7];omega)
  have hm:=hg.1
  rw [PY]
  unfold XV
  rw [Int.toNat_natCast (n:=i),hx,w0,ms,w1,w4,K8,ei,decide_eq_true (show (i:Int)<d.length by omega),decide_eq_true (show (0:Int)≤i by omega),decide_eq_true (show (0:Int)≤s by omega),decide_eq_true (Dp (show m+1≤3000 by simp only [List.length_cons] at hlen;omega))]
  simp only [AH,decide_true]
  refine Eq.trans ih ?_
  simp only [X5]
  rw [List.append_assoc]
  rfl
theorem sZ {d:List Nat} {n:Nat} (od:okD 4294967296 d) (hl:n / 32+d.length≤1900):G117 2000 d n=some (AP (AM 4294967296 (val 4294967296 d*2 ^ n))):=by
 unfold G117 T117
 have hn:n / 32≤1900:=by omega
 have e1:IntKind.i64.wrap ((n:Int).tdiv 32)=((n / 32:Nat):Int):=by
  rw [show (n:Int).tdiv 32=((n / 32:Nat):Int) from rfl,As (by omega) (by omega)]
 have e2:IntKind.u64.wrap ((n:Int).tmod 32)=((n % 32:Nat):Int):=by
  rw [show (n:Int).tmod 32=((n % 32:Nat):Int) from rfl,Cg (by omega)]
 rw [e1,e2,decide_eq_true (show (0:Int)≤((n / 32:Nat):Int) by omega),decide_eq_true (Int.le_refl _),decide_eq_true (Dp (show n / 32≤3000 by omega)),Int.toNat_natCast]
 simp only [AH]
 have h:=VD (d:=d) (s:=n % 32) od (Nat.mod_lt _ (by omega)) d 0 0 2000 (n / 32) (List.replicate (n / 32) 0) (fun _=>F.int .u32 0) rfl (by omega) (Nat.two_pow_pos _) (fun w hw=>by have:=(List.mem_replicate.1 hw).2;omega) (by rw [List.length_replicate];omega)
  ⟨by rw [List.length_replicate],fun j hj=>by simp only [List.getD,List.getElem?_replicate,if_pos hj];rfl⟩ (by omega) (by omega)
 refine Eq.trans h ?_
 rw [Jw,L4,Xo,List.length_replicate,Nat.zero_add,Nat.add_zero]
 congr 3
 rw [I3 n,Nat.mul_left_comm]
def Rn (l:Nat) (n:Int):Bool:=decide (0≤n)&&Nat.ble (n.toNat / 32+l) 1900
def Wb:List F→Bool | [x,.int .i64 n]=>A5 x&&Rn (AV x).length n | _=>false
def gL:List F→F | [x,.int .i64 n]=>AP (AM 4294967296 (val 4294967296 (AV x)*2 ^ n.toNat)) | _=>.dflt
theorem okLeft:Ak Tryz.prog 117 Wb gL :=
 Ad (c:=AT Tryz.f117) Tryz.func117 (by kernel_rfl) (by kernel_rfl) fun xs hp=>match xs,hp with
 | [x,.int .i64 n],hp=>by
  simp only [Wb,Rn,Bool.and_eq_true,decide_eq_true_eq,Nat.ble_eq] at hp
  obtain ⟨hx,h0,hl⟩:=hp
  obtain ⟨n,rfl⟩:=Int.eq_ofNat_of_zero_le h0
  rw [Int.toNat_natCast] at hl
  have e:=sZ (n:=n) (C0 hx) hl
  exact ⟨[AP (AV x),.int .i64 n],_,⟨(Bq hx).1,.refl _,trivial⟩,t117 2000 _ _ _ e,.refl _⟩
def envS3:Env:=(((((envS2.add 107 (.pure (iE 800) Nl)).add 78 (.pure O0 A2)).add 93 (.pure (Kp 800) No)).add 113 (.pure (iE 900) YI)).add 116 (.pure Yn Ya)).add 117 (.pure Wb gL)
theorem IT:Az Tryz.prog envS3:=(Env.add_ok (Env.add_ok (Env.add_ok (Env.add_ok (Env.add_ok (Env.add_ok Gc okNeg3.sp) okInt3.sp) okAddZ.sp) okSign3.sp) okBits3.sp) okLeft.sp)
end
end Go.Proofs.YtonmnfkibnflnaaGreat.R
