/-
 The own walk and what it shows,part 4 of 10.
-/
import Derived.WalkKit
import Derived.Lib.Walk
import Derived.Lib.SliceRun
import Derived.OwnWalk
import Derived.Test.YtlefbocihikaoaaGreatJ1
import Derived.Test.YtlefbocihikaoaaGreatJ2
import Derived.Test.YtlefbocihikaoaaGreatJ3
set_option linter.unusedVariables false
set_option linter.unusedSimpArgs false
set_option maxRecDepth 100000
set_option exponentiation.threshold 30000
namespace Go.Proofs.YtlefbocihikaoaaGreat.R
open Go
noncomputable section
/-! ### function 102 -/
abbrev N9 (ρ:Type):=(Int)→Option ρ
def T102 {ρ:Type} (ret:N9 ρ) (x:Int) (y:Int):Option ρ :=
 (AC (BA 400 (AH y))
 (AC (BA 400 (AH x)&&BA 400 (J2 [AH y]))
 (ret (AG (AH x)+AG (J2 [AH y])))
 none)
 none)
def G102 (x:Int) (y:Int):Option (Int):=T102 some x y
theorem t102 (x:Int) (y:Int) (r:Int) (h:G102 x y=some r):AY Tryz.prog Tryz.f102.results.toList [.code (AR Tryz.f102)] (start Tryz.f102.ntmps ([AH x,AH y].map .f)) (AH r):=by
 refine AY.of_run Ap KN (T:=[]) (n:=200) ?_
 refine gE (Y:=T102 (fun r=>some (.ret (AH r))) x y) (by kernel_rfl) ?_
 exact (gS h (fun _ h=>(gS h (fun _ h=>gR (by cases h;rfl)) gN)) gN)
/-! ### function 48 -/
def eM (s:Bool) (t:Bool) (a:List Nat) (b:List Nat) (m:Nat) (n:Int) (i:Int) (g:Nat→F):St:=⟨Ag 2 ((U.hp 0 0) :: (U.hp 1 0) :: (U.hp 2 0) :: (U.hs 3 m 0 m) :: Ag 28 ((U.f (AO a)) :: (U.f (F.int .i64 n)) :: (U.f (F.int .i64 i)) :: Ag 63 [])),[HO.box [(U.f (F.bool s)),(U.f (AO a))],HO.box [(U.f (F.bool t)),(U.f (AO b))],HO.box [(U.f (F.bool false)),U.nils],HO.arr 1 m g]⟩
def eL (s:Bool) (t:Bool) (a:List Nat) (b:List Nat) (m:Nat) (n:Int) (i:Int) (g:Nat→F) (x:Int) (c:Int) (nb:Int) (j:Int):St:=⟨Ag 2 ((U.hp 0 0) :: (U.hp 1 0) :: (U.hp 2 0) :: (U.hs 3 m 0 m) :: (U.f (F.int .i64 i)) :: (U.f (F.int .u64 x)) :: (U.f (F.int .u64 c)) :: Ag 25 ((U.f (AO a)) :: (U.f (F.int .i64 n)) :: (U.f (F.int .i64 i)) :: Ag 5 ((U.f (AO b)) :: (U.f (F.int .i64 nb)) :: (U.f (F.int .i64 j)) :: Ag 55 []))),[HO.box [(U.f (F.bool s)),(U.f (AO a))],HO.box [(U.f (F.bool t)),(U.f (AO b))],HO.box [(U.f (F.bool false)),U.nils],HO.arr 1 m g]⟩
abbrev KJ42 (ρ:Type):=(Bool)→(Bool)→(List Nat)→(List Nat)→(Nat)→(Int)→(Int)→(Nat→F)→(Int)→(Int)→(Int)→(Int)→Option ρ
abbrev KJ43 (ρ:Type):=(Bool)→(Bool)→(List Nat)→(List Nat)→(Nat)→(Int)→(Int)→(Nat→F)→Option ρ
def dU {ρ:Type} (ret:(Bool)→(Nat)→(Nat→F)→Option ρ) (c5:KJ43 ρ) (c9:KJ42 ρ) (s:Bool) (t:Bool) (a:List Nat) (b:List Nat) (m:Nat) (n:Int) (i:Int) (g:Nat→F):Option ρ :=
 (AC (decide (i<n))
 (AC (decide (0≤i))
 (AC (decide (i<(↑a.length:Int)))
 (c9 (s) (t) (a) (b) (m) (n) (i) (g) ((↑(a.getD i.toNat 0):Int)) (0) ((↑b.length:Int)) (0))
 none)
 none)
 (AC (decide (m=m))
 (AC (Ay (F.sl m (B3 0 g))&&BD 1000 (F.sl m (B3 0 g)))
 (ret (decide (sgn (!s==t) (val 18446744073709551616 (AP (F.sl m (B3 0 g))))<0)) ((AM 18446744073709551616 (sgn (!s==t) (val 18446744073709551616 (AP (F.sl m (B3 0 g))))).natAbs).length) (fun i ↦ BP ((AM 18446744073709551616 (sgn (!s==t) (val 18446744073709551616 (AP (F.sl m (B3 0 g))))).natAbs).getD i 0)))
 none)
 none))
def dT {ρ:Type} (ret:(Bool)→(Nat)→(Nat→F)→Option ρ) (c5:KJ43 ρ) (c9:KJ42 ρ) (s:Bool) (t:Bool) (a:List Nat) (b:List Nat) (m:Nat) (n:Int) (i:Int) (g:Nat→F) (x:Int) (c:Int) (nb:Int) (j:Int):Option ρ :=
 (AC (decide (j<nb))
 (AC (decide (0≤j))
 (AC (decide (j<(↑b.length:Int)))
 (AC (W1 x (↑(b.getD j.toNat 0):Int))
 (AC (Dc (Gq x (↑(b.getD j.toNat 0):Int)) c 0)
 (AC (decide (m=m))
 (AC (decide (0≤IntKind.i64.wrap (i+j)))
 (AC (decide (IntKind.i64.wrap (i+j)<(↑m:Int)))
 (AC (decide (m=m))
 (AC (decide (0+(IntKind.i64.wrap (i+j)).toNat<m))
 (AC (decide ((g (0+(IntKind.i64.wrap (i+j)).toNat)).cells.length=1))
 (AC (okV (Value.int IntKind.u64 0) ((List.drop 0 (g (0+(IntKind.i64.wrap (i+j)).toNat)).cells).headD F.dflt)&&true)
 (AC (Dc (Ex ((List.drop 0 (g (0+(IntKind.i64.wrap (i+j)).toNat)).cells).headD F.dflt)) (Gr (Gq x (↑(b.getD j.toNat 0):Int)) c 0) 0)
 (AC (decide (m=m))
 (AC (decide (0≤IntKind.i64.wrap (i+j)))
 (AC (decide (IntKind.i64.wrap (i+j)<(↑m:Int)))
 (AC (decide (m=m))
 (AC (decide (0+(IntKind.i64.wrap (i+j)).toNat<m))
 (AC (decide ((g (0+(IntKind.i64.wrap (i+j)).toNat)).cells.length=1))
 (AC ((CO (g (0+(IntKind.i64.wrap (i+j)).toNat)) || true)&&true)
 (c9 (s) (t) (a) (b) (m) (n) (i) (fun j_1 ↦ if j_1=0+(IntKind.i64.wrap (i+j)).toNat then F.int .u64 (Gr (Ex ((List.drop 0 (g (0+(IntKind.i64.wrap (i+j)).toNat)).cells).headD F.dflt)) (Gr (Gq x (↑(b.getD j.toNat 0):Int)) c 0) 0) else g j_1) (x) (IntKind.u64.wrap (IntKind.u64.wrap (OO x (↑(b.getD j.toNat 0):Int)+Jg (Gq x (↑(b.getD j.toNat 0):Int)) c 0)+Jg (Ex ((List.drop 0 (g (0+(IntKind.i64.wrap (i+j)).toNat)).cells).headD F.dflt)) (Gr (Gq x (↑(b.getD j.toNat 0):Int)) c 0) 0)) (nb) (IntKind.i64.wrap (j+1)))
 none)
 none)
 none)
 none)
 none)
 none)
 none)
 none)
 none)
 none)
 none)
 none)
 none)
 none)
 none)
 none)
 none)
 none)
 none)
 (AC (decide (m=m))
 (AC (decide (0≤IntKind.i64.wrap (i+(↑b.length:Int))))
 (AC (decide (IntKind.i64.wrap (i+(↑b.length:Int))<(↑m:Int)))
 (AC (decide (m=m))
 (AC (decide (0+(IntKind.i64.wrap (i+(↑b.length:Int))).toNat<m))
 (AC (decide ((g (0+(IntKind.i64.wrap (i+(↑b.length:Int))).toNat)).cells.length=1))
 (AC ((CO (g (0+(IntKind.i64.wrap (i+(↑b.length:Int))).toNat)) || true)&&true)
 (c5 (s) (t) (a) (b) (m) (n) (IntKind.i64.wrap (i+1)) (fun j ↦ if j=0+(IntKind.i64.wrap (i+(↑b.length:Int))).toNat then F.int .u64 c else g j))
 none)
 none)
 none)
 none)
 none)
 none)
 none))
mutual
def Oh:Nat→(Bool)→(Bool)→(List Nat)→(List Nat)→(Nat)→(Int)→(Int)→(Nat→F)→Option ((Bool) × (Nat) × (Nat→F))
 | 0,_,_,_,_,_,_,_,_=>none
 | k+1,s,t,a,b,m,n,i,g=>dU (fun rb rn rg=>some (rb,rn,rg)) (Oh k) (Qw k) s t a b m n i g
def Qw:Nat→(Bool)→(Bool)→(List Nat)→(List Nat)→(Nat)→(Int)→(Int)→(Nat→F)→(Int)→(Int)→(Int)→(Int)→Option ((Bool) × (Nat) × (Nat→F))
 | 0,_,_,_,_,_,_,_,_,_,_,_,_=>none
 | k+1,s,t,a,b,m,n,i,g,x,c,nb,j=>dT (fun rb rn rg=>some (rb,rn,rg)) (Oh k) (Qw k) s t a b m n i g x c nb j
end
def T48 {ρ:Type} (ret:(Bool)→(Nat)→(Nat→F)→Option ρ) (c5:KJ43 ρ) (c9:KJ42 ρ) (x:Int) (y:Int):Option ρ :=
 (AC (((↑(AM 18446744073709551616 x.natAbs).length:Int)==0)==false)
 (AC ((↑(AM 18446744073709551616 y.natAbs).length:Int)==0)
 (ret (false) (0) (fun x ↦ F.bool false))
 (AC (decide (0≤IntKind.i64.wrap ((↑(AM 18446744073709551616 x.natAbs).length:Int)+(↑(AM 18446744073709551616 y.natAbs).length:Int))))
 (AC (decide (IntKind.i64.wrap ((↑(AM 18446744073709551616 x.natAbs).length:Int)+(↑(AM 18446744073709551616 y.natAbs).length:Int))≤IntKind.i64.wrap ((↑(AM 18446744073709551616 x.natAbs).length:Int)+(↑(AM 18446744073709551616 y.natAbs).length:Int))))
 (AC (decide (IntKind.i64.wrap ((↑(AM 18446744073709551616 x.natAbs).length:Int)+(↑(AM 18446744073709551616 y.natAbs).length:Int))*(((8:Nat):Int)+1)≤(↑BC:Int)))
 (c5 (decide (x<0)) (decide (y<0)) (AM 18446744073709551616 x.natAbs) (AM 18446744073709551616 y.natAbs) ((IntKind.i64.wrap ((↑(AM 18446744073709551616 x.natAbs).length:Int)+(↑(AM 18446744073709551616 y.natAbs).length:Int))).toNat) ((↑(AM 18446744073709551616 x.natAbs).length:Int)) (0) (fun x ↦ F.int .u64 0))
 none)
 none)
 none))
 (ret (false) (0) (fun x ↦ F.bool false)))
def G48 (k:Nat) (x:Int) (y:Int):Option ((Bool) × (Nat) × (Nat→F)):=T48 (fun rb rn rg=>some (rb,rn,rg)) (Oh k) (Qw k) x y
mutual
theorem t48_5:∀ (k:Nat) (s:Bool) (t:Bool) (a:List Nat) (b:List Nat) (m:Nat) (n:Int) (i:Int) (g:Nat→F) (rb:Bool) (rn:Nat) (rg:Nat→F),Oh k s t a b m n i g=some (rb,rn,rg)→AY Tryz.prog Tryz.f48.results.toList (at_ Tryz.f48 5) (eM s t a b m n i g) (F.agg [F.bool rb,F.sl rn rg])
 | 0,_,_,_,_,_,_,_,_,_,_,_,h=>nomatch h
 | k+1,s,t,a,b,m,n,i,g,rb,rn,rg,h=>by
  refine AY.of_cut Ap KN (T:=[(5,[2,3,4,5,34,35,36],1000),(9,[2,3,4,5,6,7,8,34,35,36,42,43,44],1000)]) (n:=200) ?_
  refine gE (Y:=dU (fun rb rn rg=>some (.ret (F.agg [F.bool rb,F.sl rn rg]))) (fun s t a b m n i g=>some (.cut (at_ Tryz.f48 5) (eM s t a b m n i g))) (fun s t a b m n i g x c nb j=>some (.cut (at_ Tryz.f48 9) (eL s t a b m n i g x c nb j))) s t a b m n i g) (by kernel_rfl) ?_
  exact (gS h (fun _ h=>(gS h (fun _ h=>(gS h (fun _ h=>gC (t48_9 k _ _ _ _ _ _ _ _ _ _ _ _ rb rn rg h)) gN)) gN)) (fun _ h=>(gS h (fun _ h=>(gS h (fun _ h=>gR (by cases h;rfl)) gN)) gN)))
theorem t48_9:∀ (k:Nat) (s:Bool) (t:Bool) (a:List Nat) (b:List Nat) (m:Nat) (n:Int) (i:Int) (g:Nat→F) (x:Int) (c:Int) (nb:Int) (j:Int) (rb:Bool) (rn:Nat) (rg:Nat→F),Qw k s t a b m n i g x c nb j=some (rb,rn,rg)→AY Tryz.prog Tryz.f48.results.toList (at_ Tryz.f48 9) (eL s t a b m n i g x c nb j) (F.agg [F.bool rb,F.sl rn rg])
 | 0,_,_,_,_,_,_,_,_,_,_,_,_,_,_,_,h=>nomatch h
 | k+1,s,t,a,b,m,n,i,g,x,c,nb,j,rb,rn,rg,h=>by
  refine AY.of_cut Ap KN (T:=[(5,[2,3,4,5,34,35,36],1000),(9,[2,3,4,5,6,7,8,34,35,36,42,43,44],1000)]) (n:=200) ?_
  refine gE (Y:=dT (fun rb rn rg=>some (.ret (F.agg [F.bool rb,F.sl rn rg]))) (fun s t a b m n i g=>some (.cut (at_ Tryz.f48 5) (eM s t a b m n i g))) (fun s t a b m n i g x c nb j=>some (.cut (at_ Tryz.f48 9) (eL s t a b m n i g x c nb j))) s t a b m n i g x c nb j) (by kernel_rfl) ?_
  exact (gS h (fun _ h=>(gS h (fun _ h=>(gS h (fun _ h=>(gS h (fun _ h=>(gS h (fun _ h=>(gS h (fun _ h=>(gS h (fun _ h=>(gS h (fun _ h=>(gS h (fun _ h=>(gS h (fun _ h=>(gS h (fun _ h=>(gS h (fun _ h=>(gS h (fun _ h=>(gS h (fun _ h=>(gS h (fun _ h=>(gS h (fun _ h=>(gS h (fun _ h=>(gS h (fun _ h=>(gS h (fun _ h=>(gS h (fun _ h=>gC (t48_9 k _ _ _ _ _ _ _ _ _ _ _ _ rb rn rg h)) gN)) gN)) gN)) gN)) gN)) gN)) gN)) gN)) gN)) gN)) gN)) gN)) gN)) gN)) gN)) gN)) gN)) gN)) gN)) (fun _ h=>(gS h (fun _ h=>(gS h (fun _ h=>(gS h (fun _ h=>(gS h (fun _ h=>(gS h (fun _ h=>(gS h (fun _ h=>(gS h (fun _ h=>gC (t48_5 k _ _ _ _ _ _ _ _ rb rn rg h)) gN)) gN)) gN)) gN)) gN)) gN)) gN)))
end
theorem t48 (k:Nat) (x:Int) (y:Int) (rb:Bool) (rn:Nat) (rg:Nat→F) (h:G48 k x y=some (rb,rn,rg)):AY Tryz.prog Tryz.f48.results.toList [.code (AR Tryz.f48)] (start Tryz.f48.ntmps ([AH x,AH y].map .f)) (F.agg [F.bool rb,F.sl rn rg]):=by
 refine AY.of_run Ap KN (T:=[(5,[2,3,4,5,34,35,36],1000),(9,[2,3,4,5,6,7,8,34,35,36,42,43,44],1000)]) (n:=200) ?_
 refine gE (Y:=T48 (fun rb rn rg=>some (.ret (F.agg [F.bool rb,F.sl rn rg]))) (fun s t a b m n i g=>some (.cut (at_ Tryz.f48 5) (eM s t a b m n i g))) (fun s t a b m n i g x c nb j=>some (.cut (at_ Tryz.f48 9) (eL s t a b m n i g x c nb j))) x y) (by kernel_rfl) ?_
 exact (gS h (fun _ h=>(gS h (fun _ h=>gR (by cases h;rfl)) (fun _ h=>(gS h (fun _ h=>(gS h (fun _ h=>(gS h (fun _ h=>gC (t48_5 k _ _ _ _ _ _ _ _ rb rn rg h)) gN)) gN)) gN)))) (fun _ h=>gR (by cases h;rfl)))
theorem NA {m p v:Nat} {g:Nat→F} {o:List Nat} (ho:o.length=m) (hp:p<m) (hg:∀ j,j<m→g j=BP (o.getD j 0)) :
  ∀ j,j<m→(fun j=>if j=0+p then F.int .u64 (v:Int) else g j) j=BP ((o.set p v).getD j 0):=by
 intro j hj
 show (if j=0+p then F.int .u64 (v:Int) else g j)=_
 by_cases h:j=0+p
 ·rw [if_pos h,h,Nat.zero_add]
  simp [List.getD,BP,show p<o.length by omega]
 ·rw [if_neg h,hg j hj]
  simp [List.getD,List.getElem?_set,show p ≠ j by omega]
theorem Mp {o:List Nat} {p v j:Nat} (h:j ≠ p):(o.set p v).getD j 0=o.getD j 0:=by
 simp [List.getD,List.getElem?_set,Ne.symm h]
theorem KB {x y:Nat}:Gq x y=((x*y % 18446744073709551616:Nat):Int)∧OO x y=((x*y / 18446744073709551616:Nat):Int):=by
 unfold Gq OO
 rw [← Int.natCast_mul]
 omega
theorem fW {x y o c:Nat} (hx:x<18446744073709551616) (hy:y<18446744073709551616) (ho:o<18446744073709551616) (hc:c<18446744073709551616) :
  Gr (o:Int) (Gr (Gq x y) c 0) 0=(((x*y+o+c) % 18446744073709551616:Nat):Int) ∧
  IntKind.u64.wrap (IntKind.u64.wrap (OO x y+Jg (Gq x y) c 0)+Jg (o:Int) (Gr (Gq x y) c 0) 0)=(((x*y+o+c) / 18446744073709551616:Nat):Int) ∧
  Dc (Gq x y) c 0=true∧Dc (o:Int) (Gr (Gq x y) c 0) 0=true∧W1 x y=true∧(x*y+o+c) / 18446744073709551616<18446744073709551616:=by
 have h:=Wp (B:=18446744073709551616) (by omega) hx hy ho hc
 rw [KB.1,KB.2]
 simp only [Ga,R8,DR]
 unfold Gr Jg
 generalize x*y=p at *
 refine ⟨by omega,by omega,by omega,by omega,by omega,h⟩
theorem cW (v:Nat):(List.drop 0 (BP v).cells).headD F.dflt=BP v:=rfl
theorem cC (v:Nat):(okV (Value.int IntKind.u64 0) (BP v)&&true)=true:=rfl
theorem SC (v:Nat):Ex (BP v)=(v:Int):=rfl
theorem VT {B:Nat} {o:List Nat} {p c x y:Nat} (hp:p<o.length) :
  val B (o.set p ((x*y+o.getD p 0+c) % B))+B ^ (p+1)*((x*y+o.getD p 0+c) / B)=val B o+B ^ p*c+B ^ p*(x*y):=by
 have h1:=L9 B o p ((x*y+o.getD p 0+c) % B) hp
 have h2:=Nat.mod_add_div (x*y+o.getD p 0+c) B
 have h3:B ^ p*(x*y+o.getD p 0+c)=B ^ p*((x*y+o.getD p 0+c) % B)+B ^ (p+1)*((x*y+o.getD p 0+c) / B):=by
  rw [Nat.pow_succ,Nat.mul_assoc,← Nat.mul_add,h2]
 rw [Nat.mul_add,Nat.mul_add] at h3
 omega
theorem GN {B:Nat} {l:List Nat} {j:Nat} (h:j<l.length):val B (l.take (j+1))=val B (l.take j)+B ^ j*l.getD j 0:=by
 rw [List.take_add_one,Ir]
 simp [List.getD,List.getElem?_eq_getElem h,val,Nat.min_eq_left (Nat.le_of_lt h)]
theorem Xy {s t:Bool} {a b:List Nat} {m i x:Nat} {n:Int} (ob:okD 18446744073709551616 b) (hx:x<18446744073709551616) (hm:m=a.length+b.length) (hi:i<a.length) (hl:m≤900) :
  ∀ (r j c k:Nat) (o:List Nat) (g:Nat→F),r+j=b.length→o.length=m→okD 18446744073709551616 o→c<18446744073709551616→(∀ q,i+j≤q→(j=0 ∨ i+b.length≤q)→(i+b.length≤q→o.getD q 0=0)) →
   (∀ q,q<m→g q=BP (o.getD q 0))→r<k →
   ∃ o' g',Qw (k+1) s t a b m n i g x c b.length j=Oh (k-r) s t a b m n ((i+1:Nat):Int) g'∧o'.length=m∧okD 18446744073709551616 o'∧(∀ q,i+1+b.length≤q→o'.getD q 0=0) ∧
    (∀ q,q<m→g' q=BP (o'.getD q 0))∧val 18446744073709551616 o'+18446744073709551616 ^ i*x*val 18446744073709551616 (b.take j)=val 18446744073709551616 o+18446744073709551616 ^ (i+j)*c+18446744073709551616 ^ i*x*val 18446744073709551616 b
 | r,j,c,0,o,g,_,_,_,_,_,_,hk=>by omega
 | 0,j,c,k+1,o,g,hr,ho,oo,hc,hz,hg,hk=>by
  obtain rfl:j=b.length:=by omega
  have hp:i+b.length<m:=by omega
  have ei:IntKind.i64.wrap ((i:Int)+(b.length:Int))=((i+b.length:Nat):Int):=by rw [Av (by omega) (by omega)];omega
  have e1:IntKind.i64.wrap ((i:Int)+1)=((i+1:Nat):Int):=by rw [Av (by omega) (by omega)];omega
  refine ⟨o.set (i+b.length) c,_,?_,by simp [ho],MZ oo hc,?_,NA ho hp hg,?_⟩
  ·rw [Qw]
   unfold dT
   rw [decide_eq_false (show ¬ (b.length:Int)<b.length by omega),AJ,ei,e1,Int.toNat_natCast,decide_eq_true (show (0:Int)≤((i+b.length:Nat):Int) by omega),decide_eq_true (show ((i+b.length:Nat):Int)<(m:Int) by omega),decide_eq_true (show m=m from rfl),decide_eq_true (show 0+(i+b.length)<m by omega),hg (0+(i+b.length)) (by omega),decide_eq_true (DG _),EE]
   rfl
  ·intro q hq
   rw [Mp (by omega)]
   exact hz q (by omega) (.inr (by omega)) (by omega)
  ·have h1:=L9 18446744073709551616 o (i+b.length) c (by omega)
   rw [hz (i+b.length) (by omega) (.inr (by omega)) (by omega),Nat.mul_zero,Nat.add_zero] at h1
   rw [h1,List.take_length]
 | r+1,j,c,k+1,o,g,hr,ho,oo,hc,hz,hg,hk=>by
  have hj:j<b.length:=by omega
  have hp:i+j<m:=by omega
  have hy:=DC ob hj
  have hov:=DC oo (show i+j<o.length by omega)
  obtain ⟨c1,c2,c3,c4,c5,c6⟩:=fW hx hy hov hc
  have ei:IntKind.i64.wrap ((i:Int)+(j:Int))=((i+j:Nat):Int):=by rw [Av (by omega) (by omega)];omega
  have e1:IntKind.i64.wrap ((j:Int)+1)=((j+1:Nat):Int):=by rw [Av (by omega) (by omega)];omega
  obtain ⟨o',g',h1,h2,h3,h4,h5,h6⟩:=Xy (s:=s) (t:=t) (n:=n) ob hx hm hi hl r (j+1) ((x*b.getD j 0+o.getD (i+j) 0+c) / 18446744073709551616) k (o.set (i+j) ((x*b.getD j 0+o.getD (i+j) 0+c) % 18446744073709551616)) _ (by omega) (by simp [ho]) (MZ oo (Nat.mod_lt _ (by omega))) c6
   (fun q hq _ hq2=>by rw [Mp (by omega)];exact hz q (by omega) (.inr hq2) hq2) (NA ho hp hg) (by omega)
  refine ⟨o',g',?_,h2,h3,h4,h5,?_⟩
  ·rw [show k+1-(r+1)=k-r by omega,← h1]
   conv=>lhs;rw [Qw]
   unfold dT
   rw [decide_eq_true (show (j:Int)<b.length by omega),decide_eq_true (show (0:Int)≤(j:Int) by omega),ei,e1,Int.toNat_natCast,Int.toNat_natCast,decide_eq_true (show (0:Int)≤((i+j:Nat):Int) by omega),decide_eq_true (show ((i+j:Nat):Int)<(m:Int) by omega),decide_eq_true (show m=m from rfl),decide_eq_true (show 0+(i+j)<m by omega),hg (0+(i+j)) (by omega),decide_eq_true (DG _),cW,cC,SC,EE,Nat.zero_add,c1,c2,c3,c4,c5]
   rfl
  ·have hs:=VT (B:=18446744073709551616) (o:=o) (p:=i+j) (c:=c) (x:=x) (y:=b.getD j 0) (by omega)
   have ht:=GN (B:=18446744073709551616) (l:=b) hj
   rw [ht,Nat.mul_add] at h6
   have e2:18446744073709551616 ^ (i+j)*(x*b.getD j 0)=18446744073709551616 ^ i*x*(18446744073709551616 ^ j*b.getD j 0):=by
    rw [Nat.pow_add,Nat.mul_assoc,Nat.mul_assoc]
    congr 1
    rw [Nat.mul_left_comm]
   rw [show i+(j+1)=i+j+1 by omega] at h6
   omega
theorem Xx {s t:Bool} {a b:List Nat} {m:Nat} (oa:okD 18446744073709551616 a) (ob:okD 18446744073709551616 b) (hm:m=a.length+b.length) (hl:m≤900) :
  ∀ (r i k:Nat) (o:List Nat) (g:Nat→F),r+i=a.length→o.length=m→okD 18446744073709551616 o→(∀ q,i+b.length≤q→o.getD q 0=0)→(∀ q,q<m→g q=BP (o.getD q 0))→val 18446744073709551616 o=val 18446744073709551616 (a.take i)*val 18446744073709551616 b →
   r*(b.length+3)<k→∃ sb rn rg,Oh k s t a b m a.length i g=some (sb,rn,rg)∧F.agg [.bool sb,.sl rn rg]=AH (sgn (!(s==t)) (val 18446744073709551616 a*val 18446744073709551616 b))
 | r,i,0,o,g,_,_,_,_,_,_,hk=>by omega
 | 0,i,k+1,o,g,hr,ho,oo,hz,hg,hv,hk=>by
  obtain rfl:i=a.length:=by omega
  rw [List.take_length] at hv
  rw [Oh]
  unfold dU
  rw [decide_eq_false (show ¬ (a.length:Int)<a.length by omega),AJ,show B3 0 g=g from rfl,Ef ho hg,D0 ho hg oo,show BD 1000 (.sl m g)=true from Nat.ble_eq_true_of_le (by omega),hv,decide_eq_true (show m=m from rfl)]
  exact ⟨_,_,_,rfl,rfl⟩
 | r+1,i,k+1,o,g,hr,ho,oo,hz,hg,hv,hk=>by
  have hi:i<a.length:=by omega
  have hx:=DC oa hi
  rw [Nat.add_mul,Nat.one_mul] at hk
  obtain ⟨k',rfl⟩:∃ k',k=k'+1:=⟨k-1,by omega⟩
  obtain ⟨o',g',h1,h2,h3,h4,h5,h6⟩:=Xy (s:=s) (t:=t) (n:=(a.length:Int)) ob hx hm hi hl b.length 0 0 k' o g (by omega) ho oo (by omega) (fun q _ _ hq=>hz q hq) hg (by omega)
  have hv':val 18446744073709551616 o'=val 18446744073709551616 (a.take (i+1))*val 18446744073709551616 b:=by
   rw [GN hi,Nat.add_mul,← hv]
   simp only [List.take_zero,val,Nat.mul_zero,Nat.add_zero] at h6
   exact h6
  obtain ⟨sb,rn,rg,g1,g2⟩:=Xx (s:=s) (t:=t) oa ob hm hl r (i+1) (k'-b.length) o' g' (by omega) h2 h3 (fun q hq=>h4 q hq) h5 hv' (by omega)
  refine ⟨sb,rn,rg,?_,g2⟩
  rw [← g1,Oh]
  unfold dU
  rw [decide_eq_true (show (i:Int)<a.length by omega),decide_eq_true (show (0:Int)≤(i:Int) by omega),Int.toNat_natCast]
  exact h1
theorem aI (x y:Int):sgn (!(decide (x<0)==decide (y<0))) (x.natAbs*y.natAbs)=x*y:=by
 have e:((x.natAbs*y.natAbs:Nat):Int)=(x*y).natAbs:=by rw [Int.natAbs_mul]
 unfold sgn
 rw [e]
 by_cases hx:x<0 <;> by_cases hy:y<0
 ·rw [decide_eq_true hx,decide_eq_true hy]
  have:=Int.mul_pos_of_neg_of_neg hx hy
  simp;omega
 ·rw [decide_eq_true hx,decide_eq_false hy]
  have:=Int.mul_nonpos_of_nonpos_of_nonneg (Int.le_of_lt hx) (Int.not_lt.1 hy)
  simp;omega
 ·rw [decide_eq_false hx,decide_eq_true hy]
  have:=Int.mul_nonpos_of_nonneg_of_nonpos (Int.not_lt.1 hx) (Int.le_of_lt hy)
  simp;omega
 ·rw [decide_eq_false hx,decide_eq_false hy]
  have:=Int.mul_nonneg (Int.not_lt.1 hx) (Int.not_lt.1 hy)
  simp;omega
theorem by_law {x y:Int} (hx:x.natAbs<18446744073709551616 ^ 400) (hy:y.natAbs<18446744073709551616 ^ 400):∃ sb rn rg,G48 200000 x y=some (sb,rn,rg)∧FLe (F.agg [.bool sb,.sl rn rg]) (AH (x*y)):=by
 have lx:=Dr hx
 have ly:=Dr hy
 have z:FLe (F.agg [.bool false,.sl 0 fun _=>F.bool false]) (AH 0):=by
  unfold AH
  rw [show AM 18446744073709551616 (Int.natAbs 0)=[] from BU _]
  exact FLe.agg ⟨.refl _,FLe.sl fun j hj=>by omega,trivial⟩
 unfold G48 T48
 by_cases hx0:x=0
 ·subst hx0
  rw [show AM 18446744073709551616 (Int.natAbs 0)=[] from BU _,Int.zero_mul]
  exact ⟨_,_,_,rfl,z⟩
 by_cases hy0:y=0
 ·subst hy0
  rw [show AM 18446744073709551616 (Int.natAbs 0)=[] from BU _,Int.mul_zero]
  have:(((AM 18446744073709551616 x.natAbs).length:Int)==0)=false:=by
   have:=Ce (n:=x.natAbs).2 (by omega)
   simp only [beq_eq_false_iff_ne,ne_eq];omega
  rw [this]
  exact ⟨_,_,_,rfl,z⟩
 have px:=Ce (n:=x.natAbs).2 (by omega)
 have py:=Ce (n:=y.natAbs).2 (by omega)
 have ew:IntKind.i64.wrap (((AM 18446744073709551616 x.natAbs).length:Int)+((AM 18446744073709551616 y.natAbs).length:Int))=(((AM 18446744073709551616 x.natAbs).length+(AM 18446744073709551616 y.natAbs).length:Nat):Int):=by
  rw [Av (by omega) (by omega)];omega
 rw [ew,show (((AM 18446744073709551616 x.natAbs).length:Int)==0)=false by simp only [beq_eq_false_iff_ne,ne_eq];omega,show (((AM 18446744073709551616 y.natAbs).length:Int)==0)=false by simp only [beq_eq_false_iff_ne,ne_eq];omega]
 rw [decide_eq_true (show (0:Int)≤(((AM 18446744073709551616 x.natAbs).length+(AM 18446744073709551616 y.natAbs).length:Nat):Int) by omega),decide_eq_true (Int.le_refl _),decide_eq_true (Ep (show (AM 18446744073709551616 x.natAbs).length+(AM 18446744073709551616 y.natAbs).length≤1000 by omega)),Int.toNat_natCast]
 have fuel:(AM 18446744073709551616 x.natAbs).length*((AM 18446744073709551616 y.natAbs).length+3)<200000:=Nat.lt_of_le_of_lt (Nat.mul_le_mul lx (show (AM 18446744073709551616 y.natAbs).length+3≤403 by omega)) (by decide)
 obtain ⟨sb,rn,rg,h1,h2⟩:=Xx (s:=decide (x<0)) (t:=decide (y<0)) (a:=AM 18446744073709551616 x.natAbs) (b:=AM 18446744073709551616 y.natAbs) (BH (by omega) _) (BH (by omega) _) rfl (by omega) (AM 18446744073709551616 x.natAbs).length 0 200000 (List.replicate ((AM 18446744073709551616 x.natAbs).length+(AM 18446744073709551616 y.natAbs).length) 0) (fun _=>F.int .u64 0) rfl (by simp)
  (fun w hw=>by have:=(List.mem_replicate.1 hw).2;omega) (fun q hq=>by simp [List.getD,List.getElem?_replicate];split <;> rfl) (fun q hq=>by simp [List.getD,List.getElem?_replicate,BP,hq]) (by rw [Ki];simp [val]) fuel
 rw [DD,DD,aI] at h2
 exact ⟨sb,rn,rg,h1,by rw [h2];exact .refl _⟩
def AQ:List F→F | [x,y]=>AH (AG x*AG y) | _=>.dflt
theorem okBy:Ai Tryz.prog 48 (OJ 400) AQ :=
 Ae (c:=AR Tryz.f48) Tryz.func48 (by kernel_rfl) (by kernel_rfl) fun xs hp=>match xs,hp with
 | [x,y],hp=>by
  obtain ⟨hx,hy⟩:=NP hp
  obtain ⟨sb,rn,rg,h1,h2⟩:=by_law (BI hx) (BI hy)
  exact ⟨[AH (AG x),AH (AG y)],_,⟨(Dy hx).1,(Dy hy).1,trivial⟩,t48 200000 _ _ _ _ _ h1,h2⟩
theorem mY {x y:Int} (hx:x.natAbs<18446744073709551616 ^ 400) (hy:y.natAbs<18446744073709551616 ^ 400):G102 x y=some (x-y):=by
 unfold G102 T102
 have h1:(-y).natAbs<18446744073709551616 ^ 400:=by rw [Int.natAbs_neg];exact hy
 simp only [J2,Bj,CA hx,CA hy,CA h1,Bool.and_self,AF]
 congr 1
def WD:List F→F | [x,y]=>AH (AG x-AG y) | _=>.dflt
theorem okLess2:Ai Tryz.prog 102 (OJ 400) WD :=
 Ae (c:=AR Tryz.f102) Tryz.func102 (by kernel_rfl) (by kernel_rfl) fun xs hp=>match xs,hp with
 | [x,y],hp=>by
  obtain ⟨hx,hy⟩:=NP hp
  exact ⟨[AH (AG x),AH (AG y)],_,⟨(Dy hx).1,(Dy hy).1,trivial⟩,t102 _ _ _ (mY (BI hx) (BI hy)),.refl _⟩
def envN9:Env:=(envN8.add 48 (.pure (OJ 400) AQ)).add 102 (.pure (OJ 400) WD)
theorem Xa:Ax Tryz.prog envN9:=(Env.add_ok (Env.add_ok KN okBy.sp) okLess2.sp)
end
noncomputable section
def bitLen (n:Nat):Nat:=if n=0 then 0 else n.log2+1
theorem CD {n j:Nat}:bitLen n≤j ↔ n<2 ^ j:=by
 unfold bitLen
 by_cases h:n=0
 ·rw [if_pos h];subst h;simp [Nat.pow_pos]
 ·rw [if_neg h,Nat.add_one_le_iff,Nat.log2_lt h]
theorem G1 {n k:Nat} (h:2 ^ k≤n):bitLen n=k+bitLen (n / 2 ^ k):=by
 have key:∀ j,bitLen n≤j ↔ k+bitLen (n / 2 ^ k)≤j:=by
  intro j
  rcases Nat.lt_or_ge j k with hj | hj
  ·have h1:¬ bitLen n≤j:=by
    rw [CD]
    have:=Nat.pow_le_pow_right (show 0<2 by omega) (Nat.le_of_lt hj)
    omega
   exact ⟨fun x=>absurd x h1,fun x=>by omega⟩
  ·have:bitLen (n / 2 ^ k)≤j-k ↔ n / 2 ^ k<2 ^ (j-k):=CD
   rw [Nat.div_lt_iff_lt_mul (Nat.pow_pos (by omega)),← Nat.pow_add,Nat.sub_add_cancel hj,← CD] at this
   omega
 have h1:=(key (bitLen n)).1 (Nat.le_refl _)
 have h2:=(key (k+bitLen (n / 2 ^ k))).2 (Nat.le_refl _)
 omega
def Es:ByteArray:=ByteArray.mk (([0,1,2,2,3,3,3,3,4,4,4,4,4,4,4,4]++List.replicate 16 5++List.replicate 32 6++List.replicate 64 7++List.replicate 128 8:List UInt8).toArray)
/-! ### function 116 -/
def T116 {ρ:Type} (ret:N9 ρ) (x:Nat):Option ρ :=
 (AC (decide ((↑x:Int) ≥ 4294967296))
 (AC (decide ((↑x:Int).fdiv (2 ^ 32) ≥ 65536))
 (AC (decide (((↑x:Int).fdiv (2 ^ 32)).fdiv (2 ^ 16) ≥ 256))
 (AC (decide (0≤IntKind.u8.wrap ((((↑x:Int).fdiv (2 ^ 32)).fdiv (2 ^ 16)).fdiv (2 ^ 8))))
 (AC (decide (IntKind.u8.wrap ((((↑x:Int).fdiv (2 ^ 32)).fdiv (2 ^ 16)).fdiv (2 ^ 8))<((256:Nat):Int)))
 (ret (IntKind.i64.wrap (IntKind.i64.wrap (IntKind.i64.wrap (32+16)+8)+IntKind.i64.wrap (B5 Es (IntKind.u8.wrap ((((↑x:Int).fdiv (2 ^ min (Int.toNat 32) IntKind.u64.bits)).fdiv (2 ^ min (Int.toNat 16) IntKind.u64.bits)).fdiv (2 ^ min (Int.toNat 8) IntKind.u64.bits)))))))
 none)
 none)
 (AC (decide (0≤IntKind.u8.wrap (((↑x:Int).fdiv (2 ^ 32)).fdiv (2 ^ 16))))
 (AC (decide (IntKind.u8.wrap (((↑x:Int).fdiv (2 ^ 32)).fdiv (2 ^ 16))<((256:Nat):Int)))
 (ret (IntKind.i64.wrap (IntKind.i64.wrap (32+16)+IntKind.i64.wrap (B5 Es (IntKind.u8.wrap (((↑x:Int).fdiv (2 ^ min (Int.toNat 32) IntKind.u64.bits)).fdiv (2 ^ min (Int.toNat 16) IntKind.u64.bits)))))))
 none)
 none))
 (AC (decide ((↑x:Int).fdiv (2 ^ 32) ≥ 256))
 (AC (decide (0≤IntKind.u8.wrap (((↑x:Int).fdiv (2 ^ 32)).fdiv (2 ^ 8))))
 (AC (decide (IntKind.u8.wrap (((↑x:Int).fdiv (2 ^ 32)).fdiv (2 ^ 8))<((256:Nat):Int)))
 (ret (IntKind.i64.wrap (IntKind.i64.wrap (32+8)+IntKind.i64.wrap (B5 Es (IntKind.u8.wrap (((↑x:Int).fdiv (2 ^ min (Int.toNat 32) IntKind.u64.bits)).fdiv (2 ^ min (Int.toNat 8) IntKind.u64.bits)))))))
 none)
 none)
 (AC (decide (0≤IntKind.u8.wrap ((↑x:Int).fdiv (2 ^ 32))))
 (AC (decide (IntKind.u8.wrap ((↑x:Int).fdiv (2 ^ 32))<((256:Nat):Int)))
 (ret (IntKind.i64.wrap (32+IntKind.i64.wrap (B5 Es (IntKind.u8.wrap ((↑x:Int).fdiv (2 ^ min (Int.toNat 32) IntKind.u64.bits)))))))
 none)
 none)))
 (AC (decide ((↑x:Int) ≥ 65536))
 (AC (decide ((↑x:Int).fdiv (2 ^ 16) ≥ 256))
 (AC (decide (0≤IntKind.u8.wrap (((↑x:Int).fdiv (2 ^ 16)).fdiv (2 ^ 8))))
 (AC (decide (IntKind.u8.wrap (((↑x:Int).fdiv (2 ^ 16)).fdiv (2 ^ 8))<((256:Nat):Int)))
 (ret (IntKind.i64.wrap (IntKind.i64.wrap (IntKind.i64.wrap (0+16)+8)+IntKind.i64.wrap (B5 Es (IntKind.u8.wrap (((↑x:Int).fdiv (2 ^ min (Int.toNat 16) IntKind.u64.bits)).fdiv (2 ^ min (Int.toNat 8) IntKind.u64.bits)))))))
 none)
 none)
 (AC (decide (0≤IntKind.u8.wrap ((↑x:Int).fdiv (2 ^ 16))))
 (AC (decide (IntKind.u8.wrap ((↑x:Int).fdiv (2 ^ 16))<((256:Nat):Int)))
 (ret (IntKind.i64.wrap (IntKind.i64.wrap (0+16)+IntKind.i64.wrap (B5 Es (IntKind.u8.wrap ((↑x:Int).fdiv (2 ^ min (Int.toNat 16) IntKind.u64.bits)))))))
 none)
 none))
 (AC (decide ((↑x:Int) ≥ 256))
 (AC (decide (0≤IntKind.u8.wrap ((↑x:Int).fdiv (2 ^ 8))))
 (AC (decide (IntKind.u8.wrap ((↑x:Int).fdiv (2 ^ 8))<((256:Nat):Int)))
 (ret (IntKind.i64.wrap (IntKind.i64.wrap (0+8)+IntKind.i64.wrap (B5 Es (IntKind.u8.wrap ((↑x:Int).fdiv (2 ^ min (Int.toNat 8) IntKind.u64.bits)))))))
 none)
 none)
 (AC (decide (0≤IntKind.u8.wrap (↑x:Int)))
 (AC (decide (IntKind.u8.wrap (↑x:Int)<((256:Nat):Int)))
 (ret (IntKind.i64.wrap (0+IntKind.i64.wrap (B5 Es (IntKind.u8.wrap (↑x:Int))))))
 none)
 none))))
def G116 (x:Nat):Option (Int):=T116 some x
theorem t116 (x:Nat) (r:Int) (h:G116 x=some r):AY Tryz.prog Tryz.f116.results.toList [.code (AR Tryz.f116)] (start Tryz.f116.ntmps ([BP x].map .f)) (F.int .i64 r):=by
 refine AY.of_run Ap Xa (T:=[]) (n:=200) ?_
 refine gE (Y:=T116 (fun r=>some (.ret (F.int .i64 r))) x) (by kernel_rfl) ?_
 exact (gS h (fun _ h=>(gS h (fun _ h=>(gS h (fun _ h=>(gS h (fun _ h=>(gS h (fun _ h=>gR (by cases h;rfl)) gN)) gN)) (fun _ h=>(gS h (fun _ h=>(gS h (fun _ h=>gR (by cases h;rfl)) gN)) gN)))) (fun _ h=>(gS h (fun _ h=>(gS h (fun _ h=>(gS h (fun _ h=>gR (by cases h;rfl)) gN)) gN)) (fun _ h=>(gS h (fun _ h=>(gS h (fun _ h=>gR (by cases h;rfl)) gN)) gN)))))) (fun _ h=>(gS h (fun _ h=>(gS h (fun _ h=>(gS h (fun _ h=>(gS h (fun _ h=>gR (by cases h;rfl)) gN)) gN)) (fun _ h=>(gS h (fun _ h=>(gS h (fun _ h=>gR (by cases h;rfl)) gN)) gN)))) (fun _ h=>(gS h (fun _ h=>(gS h (fun _ h=>(gS h (fun _ h=>gR (by cases h;rfl)) gN)) gN)) (fun _ h=>(gS h (fun _ h=>(gS h (fun _ h=>gR (by cases h;rfl)) gN)) gN)))))))
theorem tab_at:∀ v:Nat,v<256→B5 Es (v:Int)=(bitLen v:Nat):=by
 have h:∀ v ∈ List.range 256,B5 Es (v:Int)=(bitLen v:Nat):=by decide +kernel
 intro v hv
 exact h v (List.mem_range.2 hv)
theorem Mq (n k:Nat):Int.fdiv (n:Int) (2 ^ k)=((n / 2 ^ k:Nat):Int):=by
 rw [Int.fdiv_eq_ediv_of_nonneg _ (Int.pow_nonneg (by omega))]
 norm_cast
theorem wrapB {n:Nat} (h:n<256):IntKind.u8.wrap (n:Int)=n:=by
 unfold IntKind.wrap
 simp [IntKind.bits,IntKind.signed]
 omega
theorem len_law {x:Nat} (hx:x<18446744073709551616):G116 x=some (bitLen x:Nat):=by
 unfold G116 T116
 have e32:min (Int.toNat 32) IntKind.u64.bits=32:=rfl
 have e16:min (Int.toNat 16) IntKind.u64.bits=16:=rfl
 have e8:min (Int.toNat 8) IntKind.u64.bits=8:=rfl
 rw [e32,e16,e8]
 simp only [Mq]
 have leaf:∀ (v s:Nat) (t:Int),v<256→t=(s:Int)→s≤64→bitLen x=s+bitLen v →
   AC (decide (0≤IntKind.u8.wrap (v:Int))) (AC (decide (IntKind.u8.wrap (v:Int)<((256:Nat):Int))) (some (IntKind.i64.wrap (t+IntKind.i64.wrap (B5 Es (IntKind.u8.wrap (v:Int)))))) none) none=some ((bitLen x:Nat):Int):=by
  intro v s t hv ht hs hb
  have hl:bitLen v≤8:=CD.2 (by simpa using hv)
  rw [wrapB hv,decide_eq_true (show (0:Int)≤(v:Int) by omega),decide_eq_true (show (v:Int)<((256:Nat):Int) by omega),tab_at v hv,ht]
  simp only [AF]
  rw [Av (x:=((bitLen v:Nat):Int)) (by omega) (by omega),Av (by omega) (by omega),hb]
  congr 1
 have sh:∀ {n:Nat} (k:Nat),2 ^ k≤n→bitLen n=k+bitLen (n / 2 ^ k):=fun k h=>G1 h
 by_cases h1:x ≥ 4294967296
 ·rw [decide_eq_true (show (x:Int) ≥ 4294967296 by omega),AF]
  have s1:=sh 32 (show 2 ^ 32≤x by omega)
  by_cases h2:x / 2 ^ 32 ≥ 65536
  ·rw [decide_eq_true (show ((x / 2 ^ 32:Nat):Int) ≥ 65536 by omega),AF]
   have s2:=sh 16 (show 2 ^ 16≤x / 2 ^ 32 by omega)
   by_cases h3:x / 2 ^ 32 / 2 ^ 16 ≥ 256
   ·rw [decide_eq_true (show ((x / 2 ^ 32 / 2 ^ 16:Nat):Int) ≥ 256 by omega),AF]
    have s3:=sh 8 (show 2 ^ 8≤x / 2 ^ 32 / 2 ^ 16 by omega)
    exact leaf (x / 2 ^ 32 / 2 ^ 16 / 2 ^ 8) 56 _ (by omega) rfl (by omega) (by omega)
   ·rw [decide_eq_false (show ¬ ((x / 2 ^ 32 / 2 ^ 16:Nat):Int) ≥ 256 by omega),AJ]
    exact leaf (x / 2 ^ 32 / 2 ^ 16) 48 _ (by omega) rfl (by omega) (by omega)
  ·rw [decide_eq_false (show ¬ ((x / 2 ^ 32:Nat):Int) ≥ 65536 by omega),AJ]
   by_cases h3:x / 2 ^ 32 ≥ 256
   ·rw [decide_eq_true (show ((x / 2 ^ 32:Nat):Int) ≥ 256 by omega),AF]
    have s3:=sh 8 (show 2 ^ 8≤x / 2 ^ 32 by omega)
    exact leaf (x / 2 ^ 32 / 2 ^ 8) 40 _ (by omega) rfl (by omega) (by omega)
   ·rw [decide_eq_false (show ¬ ((x / 2 ^ 32:Nat):Int) ≥ 256 by omega),AJ]
    exact leaf (x / 2 ^ 32) 32 _ (by omega) rfl (by omega) (by omega)
 ·rw [decide_eq_false (show ¬ (x:Int) ≥ 4294967296 by omega),AJ]
  by_cases h2:x ≥ 65536
  ·rw [decide_eq_true (show (x:Int) ≥ 65536 by omega),AF]
   have s2:=sh 16 (show 2 ^ 16≤x by omega)
   by_cases h3:x / 2 ^ 16 ≥ 256
   ·rw [decide_eq_true (show ((x / 2 ^ 16:Nat):Int) ≥ 256 by omega),AF]
    have s3:=sh 8 (show 2 ^ 8≤x / 2 ^ 16 by omega)
    exact leaf (x / 2 ^ 16 / 2 ^ 8) 24 _ (by omega) rfl (by omega) (by omega)
   ·rw [decide_eq_false (show ¬ ((x / 2 ^ 16:Nat):Int) ≥ 256 by omega),AJ]
    exact leaf (x / 2 ^ 16) 16 _ (by omega) rfl (by omega) (by omega)
  ·rw [decide_eq_false (show ¬ (x:Int) ≥ 65536 by omega),AJ]
   by_cases h3:x ≥ 256
   ·rw [decide_eq_true (show (x:Int) ≥ 256 by omega),AF]
    have s3:=sh 8 (show 2 ^ 8≤x by omega)
    exact leaf (x / 2 ^ 8) 8 _ (by omega) rfl (by omega) (by omega)
   ·rw [decide_eq_false (show ¬ (x:Int) ≥ 256 by omega),AJ]
    exact leaf x 0 _ (by omega) rfl (by omega) (by omega)
def bP:List F→Bool | [.int .u64 x]=>H7 x | _=>false
def kR:List F→F | [.int .u64 x]=>.int .i64 (bitLen x.toNat:Nat) | _=>.dflt
theorem okLen64:Ai Tryz.prog 116 bP kR :=
 Bm (c:=AR Tryz.f116) Tryz.func116 (by kernel_rfl) (by kernel_rfl) fun xs hp=>match xs,hp with
 | [.int .u64 x],hp=>by
  obtain ⟨h0,h1⟩:=Ev.1 hp
  obtain ⟨x,rfl⟩:=Int.eq_ofNat_of_zero_le h0
  exact t116 x _ (len_law (by omega))
def oS:Env:=envN9.add 116 (.pure bP kR)
theorem SR:Ax Tryz.prog oS:=(Env.add_ok Xa okLen64.sp)
end
noncomputable section
/-! ### function 103 -/
def T103 {ρ:Type} (ret:N9 ρ) (x:Nat):Option ρ :=
 (AC (H7 (↑x:Int))
 (ret (IntKind.i64.wrap (64-(↑(bitLen (↑x:Int).toNat):Int))))
 none)
def G103 (x:Nat):Option (Int):=T103 some x
theorem t103 (x:Nat) (r:Int) (h:G103 x=some r):AY Tryz.prog Tryz.f103.results.toList [.code (AR Tryz.f103)] (start Tryz.f103.ntmps ([BP x].map .f)) (F.int .i64 r):=by
 refine AY.of_run Ap SR (T:=[]) (n:=200) ?_
 refine gE (Y:=T103 (fun r=>some (.ret (F.int .i64 r))) x) (by kernel_rfl) ?_
 exact (gS h (fun _ h=>gR (by cases h;rfl)) gN)
def lzV (x:Nat):Int:=64-(bitLen x:Nat)
theorem Hv {x:Nat} (hx:x<18446744073709551616):bitLen x≤64:=CD.2 (by simpa using hx)
theorem lz_law {x:Nat} (hx:x<18446744073709551616):G103 x=some (lzV x):=by
 have h:=Hv hx
 unfold G103 T103 lzV
 rw [show H7 (x:Int)=true from Ev.2 (by omega),AF]
 simp only [Int.toNat_natCast]
 rw [Av (by omega) (by omega)]
def resLz:List F→F | [.int .u64 x]=>.int .i64 (lzV x.toNat) | _=>.dflt
theorem okLz:Ai Tryz.prog 103 bP resLz :=
 Bm (c:=AR Tryz.f103) Tryz.func103 (by kernel_rfl) (by kernel_rfl) fun xs hp=>match xs,hp with
 | [.int .u64 x],hp=>by
  obtain ⟨h0,h1⟩:=Ev.1 hp
  obtain ⟨x,rfl⟩:=Int.eq_ofNat_of_zero_le h0
  exact t103 x _ (lz_law (by omega))
def oR:Env:=oS.add 103 (.pure bP resLz)
theorem K4:Ax Tryz.prog oR:=(Env.add_ok SR okLz.sp)
end
noncomputable section
/-! ### function 118 -/
def PD (y:Int) (s:Int) (y1:Int) (y0:Int) (u:Int) (u1:Int) (u0:Int) (q:Int) (r:Int):St:=⟨Ag 2 ((U.f (F.int .u64 y)) :: Ag 5 ((U.f (F.int .u64 s)) :: (U.f (F.int .u64 y1)) :: (U.f (F.int .u64 y0)) :: (U.f (F.int .u64 u)) :: Ag 1 ((U.f (F.int .u64 u1)) :: (U.f (F.int .u64 u0)) :: (U.f (F.int .u64 q)) :: (U.f (F.int .u64 r)) :: Ag 118 []))),[]⟩
def PC (y:Int) (s:Int) (y1:Int) (y0:Int) (u0:Int) (q:Int) (v:Int) (p:Int) (r:Int):St:=⟨Ag 2 ((U.f (F.int .u64 y)) :: Ag 5 ((U.f (F.int .u64 s)) :: (U.f (F.int .u64 y1)) :: (U.f (F.int .u64 y0)) :: Ag 3 ((U.f (F.int .u64 u0)) :: (U.f (F.int .u64 q)) :: (U.f (F.int .u64 v)) :: (U.f (F.int .u64 p)) :: (U.f (F.int .u64 r)) :: Ag 116 []))),[]⟩
abbrev jA (ρ:Type):=(Int)→(Int)→(Int)→(Int)→(Int)→(Int)→(Int)→(Int)→(Int)→Option ρ
def VI {ρ:Type} (ret:(Int)→(Int)→Option ρ) (c17:jA ρ) (c24:jA ρ) (y:Int) (s:Int) (y1:Int) (y0:Int) (u:Int) (u1:Int) (u0:Int) (q:Int) (r:Int):Option ρ :=
 (AC (decide (q ≥ 4294967296)==false)
 (AC (decide (IntKind.u64.wrap (q*y0) > IntKind.u64.wrap (IntKind.u64.wrap (4294967296*r)+u1)))
 (AC (decide (IntKind.u64.wrap (r+y1) ≥ 4294967296))
 (AC (y1 != 0)
 (c24 (y) (s) (y1) (y0) (u0) (IntKind.u64.wrap (q-1)) (IntKind.u64.wrap (IntKind.u64.wrap (IntKind.u64.wrap (IntKind.u64.wrap (u*4294967296)+u1)-IntKind.u64.wrap (IntKind.u64.wrap (q-1)*y))-IntKind.u64.wrap (IntKind.u64.wrap ((IntKind.u64.wrap (IntKind.u64.wrap (IntKind.u64.wrap (u*4294967296)+u1)-IntKind.u64.wrap (IntKind.u64.wrap (q-1)*y))).tdiv y1)*y1))) (IntKind.u64.wrap (IntKind.u64.wrap (IntKind.u64.wrap (u*4294967296)+u1)-IntKind.u64.wrap (IntKind.u64.wrap (q-1)*y))) (IntKind.u64.wrap ((IntKind.u64.wrap (IntKind.u64.wrap (IntKind.u64.wrap (u*4294967296)+u1)-IntKind.u64.wrap (IntKind.u64.wrap (q-1)*y))).tdiv y1)))
 none)
 (c17 (y) (s) (y1) (y0) (u) (u1) (u0) (IntKind.u64.wrap (q-1)) (IntKind.u64.wrap (r+y1))))
 (AC (y1 != 0)
 (c24 (y) (s) (y1) (y0) (u0) (q) (IntKind.u64.wrap (IntKind.u64.wrap (IntKind.u64.wrap (IntKind.u64.wrap (u*4294967296)+u1)-IntKind.u64.wrap (q*y))-IntKind.u64.wrap (IntKind.u64.wrap ((IntKind.u64.wrap (IntKind.u64.wrap (IntKind.u64.wrap (u*4294967296)+u1)-IntKind.u64.wrap (q*y))).tdiv y1)*y1))) (IntKind.u64.wrap (IntKind.u64.wrap (IntKind.u64.wrap (u*4294967296)+u1)-IntKind.u64.wrap (q*y))) (IntKind.u64.wrap ((IntKind.u64.wrap (IntKind.u64.wrap (IntKind.u64.wrap (u*4294967296)+u1)-IntKind.u64.wrap (q*y))).tdiv y1)))
 none))
 (AC (decide (IntKind.u64.wrap (r+y1) ≥ 4294967296))
 (AC (y1 != 0)
 (c24 (y) (s) (y1) (y0) (u0) (IntKind.u64.wrap (q-1)) (IntKind.u64.wrap (IntKind.u64.wrap (IntKind.u64.wrap (IntKind.u64.wrap (u*4294967296)+u1)-IntKind.u64.wrap (IntKind.u64.wrap (q-1)*y))-IntKind.u64.wrap (IntKind.u64.wrap ((IntKind.u64.wrap (IntKind.u64.wrap (IntKind.u64.wrap (u*4294967296)+u1)-IntKind.u64.wrap (IntKind.u64.wrap (q-1)*y))).tdiv y1)*y1))) (IntKind.u64.wrap (IntKind.u64.wrap (IntKind.u64.wrap (u*4294967296)+u1)-IntKind.u64.wrap (IntKind.u64.wrap (q-1)*y))) (IntKind.u64.wrap ((IntKind.u64.wrap (IntKind.u64.wrap (IntKind.u64.wrap (u*4294967296)+u1)-IntKind.u64.wrap (IntKind.u64.wrap (q-1)*y))).tdiv y1)))
 none)
 (c17 (y) (s) (y1) (y0) (u) (u1) (u0) (IntKind.u64.wrap (q-1)) (IntKind.u64.wrap (r+y1)))))
def VH {ρ:Type} (ret:(Int)→(Int)→Option ρ) (c17:jA ρ) (c24:jA ρ) (y:Int) (s:Int) (y1:Int) (y0:Int) (u0:Int) (q:Int) (v:Int) (p:Int) (r:Int):Option ρ :=
 (AC (decide (r ≥ 4294967296)==false)
 (AC (decide (IntKind.u64.wrap (r*y0) > IntKind.u64.wrap (IntKind.u64.wrap (4294967296*v)+u0)))
 (AC (decide (IntKind.u64.wrap (v+y1) ≥ 4294967296))
 (AC (decide (0≤s))
 (ret (IntKind.u64.wrap (IntKind.u64.wrap (q*4294967296)+IntKind.u64.wrap (r-1))) ((IntKind.u64.wrap (IntKind.u64.wrap (IntKind.u64.wrap (p*4294967296)+u0)-IntKind.u64.wrap (IntKind.u64.wrap (r-1)*y))).fdiv (2 ^ min s.toNat IntKind.u64.bits)))
 none)
 (c24 (y) (s) (y1) (y0) (u0) (q) (IntKind.u64.wrap (v+y1)) (p) (IntKind.u64.wrap (r-1))))
 (AC (decide (0≤s))
 (ret (IntKind.u64.wrap (IntKind.u64.wrap (q*4294967296)+r)) ((IntKind.u64.wrap (IntKind.u64.wrap (IntKind.u64.wrap (p*4294967296)+u0)-IntKind.u64.wrap (r*y))).fdiv (2 ^ min s.toNat IntKind.u64.bits)))
 none))
 (AC (decide (IntKind.u64.wrap (v+y1) ≥ 4294967296))
 (AC (decide (0≤s))
 (ret (IntKind.u64.wrap (IntKind.u64.wrap (q*4294967296)+IntKind.u64.wrap (r-1))) ((IntKind.u64.wrap (IntKind.u64.wrap (IntKind.u64.wrap (p*4294967296)+u0)-IntKind.u64.wrap (IntKind.u64.wrap (r-1)*y))).fdiv (2 ^ min s.toNat IntKind.u64.bits)))
 none)
 (c24 (y) (s) (y1) (y0) (u0) (q) (IntKind.u64.wrap (v+y1)) (p) (IntKind.u64.wrap (r-1)))))
mutual
def Jb:Nat→(Int)→(Int)→(Int)→(Int)→(Int)→(Int)→(Int)→(Int)→(Int)→Option ((Int) × (Int))
 | 0,_,_,_,_,_,_,_,_,_=>none
 | k+1,y,s,y1,y0,u,u1,u0,q,r=>VI (fun rq rr=>some (rq,rr)) (Jb k) (ER k) y s y1 y0 u u1 u0 q r
def ER:Nat→(Int)→(Int)→(Int)→(Int)→(Int)→(Int)→(Int)→(Int)→(Int)→Option ((Int) × (Int))
 | 0,_,_,_,_,_,_,_,_,_=>none
 | k+1,y,s,y1,y0,u0,q,v,p,r=>VH (fun rq rr=>some (rq,rr)) (Jb k) (ER k) y s y1 y0 u0 q v p r
end
def T118 {ρ:Type} (ret:(Int)→(Int)→Option ρ) (c17:jA ρ) (c24:jA ρ) (hi:Nat) (lo:Nat) (y:Nat):Option ρ :=
 (AC ((↑y:Int)==0)
 none
 (AC (decide ((↑y:Int)≤(↑hi:Int)))
 none
 (AC ((↑hi:Int)==0)
 (AC ((↑y:Int) != 0)
 (AC ((↑y:Int) != 0)
 (ret (IntKind.u64.wrap ((↑lo:Int).tdiv (↑y:Int))) ((↑lo:Int).tmod (↑y:Int)))
 none)
 none)
 (AC (H7 (↑y:Int))
 (AC (decide (0≤IntKind.u64.wrap (lzV (↑y:Int).toNat)))
 (AC (decide (0≤IntKind.u64.wrap (lzV (↑y:Int).toNat)))
 (AC (decide (0≤IntKind.u64.wrap (64-IntKind.u64.wrap (lzV (↑y:Int).toNat))))
 (AC (decide (0≤IntKind.u64.wrap (lzV (↑y:Int).toNat)))
 (AC ((IntKind.u64.wrap ((↑y:Int)*2 ^ min (IntKind.u64.wrap (lzV (↑y:Int).toNat)).toNat IntKind.u64.bits)).fdiv (2 ^ min (Int.toNat 32) IntKind.u64.bits) != 0)
 (c17 (IntKind.u64.wrap ((↑y:Int)*2 ^ min (IntKind.u64.wrap (lzV (↑y:Int).toNat)).toNat IntKind.u64.bits)) (IntKind.u64.wrap (lzV (↑y:Int).toNat)) ((IntKind.u64.wrap ((↑y:Int)*2 ^ min (IntKind.u64.wrap (lzV (↑y:Int).toNat)).toNat IntKind.u64.bits)).fdiv (2 ^ min (Int.toNat 32) IntKind.u64.bits)) (Bz BinOp.and IntKind.u64 (IntKind.u64.wrap ((↑y:Int)*2 ^ min (IntKind.u64.wrap (lzV (↑y:Int).toNat)).toNat IntKind.u64.bits)) 4294967295) (Bz BinOp.or IntKind.u64 (IntKind.u64.wrap ((↑hi:Int)*2 ^ min (IntKind.u64.wrap (lzV (↑y:Int).toNat)).toNat IntKind.u64.bits)) ((↑lo:Int).fdiv (2 ^ min (IntKind.u64.wrap (64-IntKind.u64.wrap (lzV (↑y:Int).toNat))).toNat IntKind.u64.bits))) ((IntKind.u64.wrap ((↑lo:Int)*2 ^ min (IntKind.u64.wrap (lzV (↑y:Int).toNat)).toNat IntKind.u64.bits)).fdiv (2 ^ min (Int.toNat 32) IntKind.u64.bits)) (Bz BinOp.and IntKind.u64 (IntKind.u64.wrap ((↑lo:Int)*2 ^ min (IntKind.u64.wrap (lzV (↑y:Int).toNat)).toNat IntKind.u64.bits)) 4294967295) (IntKind.u64.wrap ((Bz BinOp.or IntKind.u64 (IntKind.u64.wrap ((↑hi:Int)*2 ^ min (IntKind.u64.wrap (lzV (↑y:Int).toNat)).toNat IntKind.u64.bits)) ((↑lo:Int).fdiv (2 ^ min (IntKind.u64.wrap (64-IntKind.u64.wrap (lzV (↑y:Int).toNat))).toNat IntKind.u64.bits))).tdiv ((IntKind.u64.wrap ((↑y:Int)*2 ^ min (IntKind.u64.wrap (lzV (↑y:Int).toNat)).toNat IntKind.u64.bits)).fdiv (2 ^ min (Int.toNat 32) IntKind.u64.bits)))) (IntKind.u64.wrap (Bz BinOp.or IntKind.u64 (IntKind.u64.wrap ((↑hi:Int)*2 ^ min (IntKind.u64.wrap (lzV (↑y:Int).toNat)).toNat IntKind.u64.bits)) ((↑lo:Int).fdiv (2 ^ min (IntKind.u64.wrap (64-IntKind.u64.wrap (lzV (↑y:Int).toNat))).toNat IntKind.u64.bits))-IntKind.u64.wrap (IntKind.u64.wrap ((Bz BinOp.or IntKind.u64 (IntKind.u64.wrap ((↑hi:Int)*2 ^ min (IntKind.u64.wrap (lzV (↑y:Int).toNat)).toNat IntKind.u64.bits)) ((↑lo:Int).fdiv (2 ^ min (IntKind.u64.wrap (64-IntKind.u64.wrap (lzV (↑y:Int).toNat))).toNat IntKind.u64.bits))).tdiv ((IntKind.u64.wrap ((↑y:Int)*2 ^ min (IntKind.u64.wrap (lzV (↑y:Int).toNat)).toNat IntKind.u64.bits)).fdiv (2 ^ min (Int.toNat 32) IntKind.u64.bits)))*(IntKind.u64.wrap ((↑y:Int)*2 ^ min (IntKind.u64.wrap (lzV (↑y:Int).toNat)).toNat IntKind.u64.bits)).fdiv (2 ^ min (Int.toNat 32) IntKind.u64.bits)))))
 none)
 none)
 none)
 none)
 none)
 none))))
def G118 (k:Nat) (hi:Nat) (lo:Nat) (y:Nat):Option ((Int) × (Int)):=T118 (fun rq rr=>some (rq,rr)) (Jb k) (ER k) hi lo y
mutual
theorem S4:∀ (k:Nat) (y:Int) (s:Int) (y1:Int) (y0:Int) (u:Int) (u1:Int) (u0:Int) (q:Int) (r:Int) (rq:Int) (rr:Int),Jb k y s y1 y0 u u1 u0 q r=some (rq,rr)→AY Tryz.prog Tryz.f118.results.toList (at_ Tryz.f118 17) (PD y s y1 y0 u u1 u0 q r) (F.tup [F.int .u64 rq,F.int .u64 rr])
 | 0,_,_,_,_,_,_,_,_,_,_,_,h=>nomatch h
 | k+1,y,s,y1,y0,u,u1,u0,q,r,rq,rr,h=>by
  refine AY.of_cut Ap K4 (T:=[(17,[2,8,9,10,11,13,14,15,16],1000),(24,[2,8,9,10,14,15,16,17,18],1000)]) (n:=200) ?_
  refine gE (Y:=VI (fun rq rr=>some (.ret (F.tup [F.int .u64 rq,F.int .u64 rr]))) (fun y s y1 y0 u u1 u0 q r=>some (.cut (at_ Tryz.f118 17) (PD y s y1 y0 u u1 u0 q r))) (fun y s y1 y0 u0 q v p r=>some (.cut (at_ Tryz.f118 24) (PC y s y1 y0 u0 q v p r))) y s y1 y0 u u1 u0 q r) (by kernel_rfl) ?_
  exact (gS h (fun _ h=>(gS h (fun _ h=>(gS h (fun _ h=>(gS h (fun _ h=>gC (ME k _ _ _ _ _ _ _ _ _ rq rr h)) gN)) (fun _ h=>gC (S4 k _ _ _ _ _ _ _ _ _ rq rr h)))) (fun _ h=>(gS h (fun _ h=>gC (ME k _ _ _ _ _ _ _ _ _ rq rr h)) gN)))) (fun _ h=>(gS h (fun _ h=>(gS h (fun _ h=>gC (ME k _ _ _ _ _ _ _ _ _ rq rr h)) gN)) (fun _ h=>gC (S4 k _ _ _ _ _ _ _ _ _ rq rr h)))))
theorem ME:∀ (k:Nat) (y:Int) (s:Int) (y1:Int) (y0:Int) (u0:Int) (q:Int) (v:Int) (p:Int) (r:Int) (rq:Int) (rr:Int),ER k y s y1 y0 u0 q v p r=some (rq,rr)→AY Tryz.prog Tryz.f118.results.toList (at_ Tryz.f118 24) (PC y s y1 y0 u0 q v p r) (F.tup [F.int .u64 rq,F.int .u64 rr])
 | 0,_,_,_,_,_,_,_,_,_,_,_,h=>nomatch h
 | k+1,y,s,y1,y0,u0,q,v,p,r,rq,rr,h=>by
  refine AY.of_cut Ap K4 (T:=[(17,[2,8,9,10,11,13,14,15,16],1000),(24,[2,8,9,10,14,15,16,17,18],1000)]) (n:=200) ?_
  refine gE (Y:=VH (fun rq rr=>some (.ret (F.tup [F.int .u64 rq,F.int .u64 rr]))) (fun y s y1 y0 u u1 u0 q r=>some (.cut (at_ Tryz.f118 17) (PD y s y1 y0 u u1 u0 q r))) (fun y s y1 y0 u0 q v p r=>some (.cut (at_ Tryz.f118 24) (PC y s y1 y0 u0 q v p r))) y s y1 y0 u0 q v p r) (by kernel_rfl) ?_
  exact (gS h (fun _ h=>(gS h (fun _ h=>(gS h (fun _ h=>(gS h (fun _ h=>gR (by cases h;rfl)) gN)) (fun _ h=>gC (ME k _ _ _ _ _ _ _ _ _ rq rr h)))) (fun _ h=>(gS h (fun _ h=>gR (by cases h;rfl)) gN)))) (fun _ h=>(gS h (fun _ h=>(gS h (fun _ h=>gR (by cases h;rfl)) gN)) (fun _ h=>gC (ME k _ _ _ _ _ _ _ _ _ rq rr h)))))
end
theorem t118 (k:Nat) (hi:Nat) (lo:Nat) (y:Nat) (rq:Int) (rr:Int) (h:G118 k hi lo y=some (rq,rr)):AY Tryz.prog Tryz.f118.results.toList [.code (AR Tryz.f118)] (start Tryz.f118.ntmps ([BP hi,BP lo,BP y].map .f)) (F.tup [F.int .u64 rq,F.int .u64 rr]):=by
 refine AY.of_run Ap K4 (T:=[(17,[2,8,9,10,11,13,14,15,16],1000),(24,[2,8,9,10,14,15,16,17,18],1000)]) (n:=200) ?_
 refine gE (Y:=T118 (fun rq rr=>some (.ret (F.tup [F.int .u64 rq,F.int .u64 rr]))) (fun y s y1 y0 u u1 u0 q r=>some (.cut (at_ Tryz.f118 17) (PD y s y1 y0 u u1 u0 q r))) (fun y s y1 y0 u0 q v p r=>some (.cut (at_ Tryz.f118 24) (PC y s y1 y0 u0 q v p r))) hi lo y) (by kernel_rfl) ?_
 exact (gS h gN (fun _ h=>(gS h gN (fun _ h=>(gS h (fun _ h=>(gS h (fun _ h=>(gS h (fun _ h=>gR (by cases h;rfl)) gN)) gN)) (fun _ h=>(gS h (fun _ h=>(gS h (fun _ h=>(gS h (fun _ h=>(gS h (fun _ h=>(gS h (fun _ h=>(gS h (fun _ h=>gC (S4 k _ _ _ _ _ _ _ _ _ rq rr h)) gN)) gN)) gN)) gN)) gN)) gN)))))))
theorem cQ (q y1 y0:Nat):q*(y1*4294967296+y0)=q*y1*4294967296+q*y0:=by rw [Nat.mul_add,Nat.mul_assoc]
theorem Tm {q r u u1 y y1 y0:Nat} (hy:y=y1*4294967296+y0) (hq:q*y1+r=u) (hu:u<y) (hu1:u1<4294967296) (h:4294967296≤q ∨ 4294967296*r+u1<q*y0):(u*4294967296+u1) / y<q:=by
 rw [Nat.div_lt_iff_lt_mul (by omega)]
 rcases h with h | h
 ·have:=Nat.mul_le_mul_right y h
  omega
 ·subst hy
  rw [cQ,← hq]
  generalize q*y1=a at *
  generalize q*y0=b at *
  omega
theorem Tl {q r u u1 y y1 y0:Nat} (hy:y=y1*4294967296+y0) (hy0:0<y) (hq:q*y1+r=u) (h:q*y0≤4294967296*r+u1):q≤(u*4294967296+u1) / y:=by
 rw [Nat.le_div_iff_mul_le hy0]
 subst hy
 rw [cQ,← hq]
 generalize q*y1=a at *
 generalize q*y0=b at *
 omega
theorem SO {q r u u1 y y1 y0:Nat} (hy:y=y1*4294967296+y0) (h0:y0<4294967296) (hq:q*y1+r=u) (hu:u<y) (hr:4294967296≤r):q*y0≤4294967296*r+u1:=by
 have hlt:q<4294967296:=by
  rcases Nat.lt_or_ge q 4294967296 with h | h
  ·exact h
  ·exfalso
   have:=Nat.mul_le_mul_right y1 h
   omega
 have h1:q*y0≤4294967296*4294967296:=Nat.mul_le_mul (Nat.le_of_lt hlt) (Nat.le_of_lt h0)
 have h2:4294967296*4294967296≤4294967296*r:=Nat.mul_le_mul_left _ hr
 omega
theorem wmul (a b:Nat):IntKind.u64.wrap ((a:Int)*(b:Int))=((a*b % 18446744073709551616:Nat):Int):=by
 rw [DR,← Int.natCast_mul]
 omega
theorem bZ {u u1 y:Nat} (hy:0<y) (hyb:y<18446744073709551616):IntKind.u64.wrap (IntKind.u64.wrap (IntKind.u64.wrap ((u:Int)*4294967296)+u1)-IntKind.u64.wrap ((((u*4294967296+u1) / y:Nat):Int)*y))=(((u*4294967296+u1) % y:Nat):Int):=by
 have h1:=Nat.div_add_mod' (u*4294967296+u1) y
 have h2:=Nat.mod_lt (u*4294967296+u1) hy
 rw [wmul]
 generalize (u*4294967296+u1) % y=p at *
 generalize (u*4294967296+u1) / y*y=P at *
 simp only [DR]
 omega
theorem wdiv {p y1:Nat} (hp:p<18446744073709551616):IntKind.u64.wrap ((p:Int).tdiv (y1:Int))=((p / y1:Nat):Int):=by
 rw [show (p:Int).tdiv (y1:Int)=((p / y1:Nat):Int) from rfl,DR]
 have h1:=Nat.div_le_self p y1
 generalize p / y1=t at *
 omega
theorem vv {p y1:Nat} (hp:p<18446744073709551616):IntKind.u64.wrap ((p:Int)-IntKind.u64.wrap (((p / y1:Nat):Int)*(y1:Int)))=((p % y1:Nat):Int):=by
 have h1:=Nat.div_add_mod' p y1
 rw [wmul,DR]
 generalize p / y1*y1=P at *
 generalize p % y1=t at *
 omega
theorem SN {y s y1 y0 u u1 u0:Nat} (hy:y=y1*4294967296+y0) (h0:y0<4294967296) (hy1:2147483648≤y1) (hy1':y1<4294967296) (hu:u<y) (hu1:u1<4294967296) :
  ∀ (j k q r:Nat),q*y1+r=u→(u*4294967296+u1) / y≤q→r<4294967296→4294967296≤r+j*2147483648→j+10≤k →
   ∃ k',10≤k'∧Jb k y s y1 y0 u u1 u0 q r=ER k' y s y1 y0 u0 (((u*4294967296+u1) / y:Nat):Int) (((u*4294967296+u1) % y % y1:Nat):Int) (((u*4294967296+u1) % y:Nat):Int) (((u*4294967296+u1) % y / y1:Nat):Int)
 | 0,k,q,r,_,_,h1,h2,_=>by omega
 | j+1,0,q,r,_,_,_,_,hk=>by omega
 | j+1,k+1,q,r,hq,hQ,hr,hj,hk=>by
  have hy0:0<y:=by omega
  have hyb:y<18446744073709551616:=by omega
  have hne:((y1:Int) != 0)=true:=by simp only [bne_iff_ne,ne_eq];omega
  have hp:(u*4294967296+u1) % y<18446744073709551616:=Nat.lt_trans (Nat.mod_lt _ hy0) hyb
  have fin:∀ (qI:Int),qI=(((u*4294967296+u1) / y:Nat):Int)→∃ k',10≤k'∧ER k y s y1 y0 u0 qI (IntKind.u64.wrap (IntKind.u64.wrap (IntKind.u64.wrap (IntKind.u64.wrap ((u:Int)*4294967296)+u1)-IntKind.u64.wrap (qI*y))-IntKind.u64.wrap (IntKind.u64.wrap ((IntKind.u64.wrap (IntKind.u64.wrap (IntKind.u64.wrap ((u:Int)*4294967296)+u1)-IntKind.u64.wrap (qI*y))).tdiv y1)*y1))) (IntKind.u64.wrap (IntKind.u64.wrap (IntKind.u64.wrap ((u:Int)*4294967296)+u1)-IntKind.u64.wrap (qI*y))) (IntKind.u64.wrap ((IntKind.u64.wrap (IntKind.u64.wrap (IntKind.u64.wrap ((u:Int)*4294967296)+u1)-IntKind.u64.wrap (qI*y))).tdiv y1))=ER k' y s y1 y0 u0 (((u*4294967296+u1) / y:Nat):Int) (((u*4294967296+u1) % y % y1:Nat):Int) (((u*4294967296+u1) % y:Nat):Int) (((u*4294967296+u1) % y / y1:Nat):Int):=by
   rintro qI rfl
   exact ⟨k,by omega,by rw [bZ hy0 hyb,wdiv hp,vv hp]⟩
  have f3:IntKind.u64.wrap ((r:Int)+y1)=((r+y1:Nat):Int):=by clear hQ hq;rw [DR];omega
  have dec:(u*4294967296+u1) / y<q→∃ k',10≤k'∧AC (decide (IntKind.u64.wrap ((r:Int)+y1) ≥ 4294967296)) (AC ((y1:Int) != 0) (ER k y s y1 y0 u0 (IntKind.u64.wrap ((q:Int)-1)) (IntKind.u64.wrap (IntKind.u64.wrap (IntKind.u64.wrap (IntKind.u64.wrap ((u:Int)*4294967296)+u1)-IntKind.u64.wrap (IntKind.u64.wrap ((q:Int)-1)*y))-IntKind.u64.wrap (IntKind.u64.wrap ((IntKind.u64.wrap (IntKind.u64.wrap (IntKind.u64.wrap ((u:Int)*4294967296)+u1)-IntKind.u64.wrap (IntKind.u64.wrap ((q:Int)-1)*y))).tdiv y1)*y1))) (IntKind.u64.wrap (IntKind.u64.wrap (IntKind.u64.wrap ((u:Int)*4294967296)+u1)-IntKind.u64.wrap (IntKind.u64.wrap ((q:Int)-1)*y))) (IntKind.u64.wrap ((IntKind.u64.wrap (IntKind.u64.wrap (IntKind.u64.wrap ((u:Int)*4294967296)+u1)-IntKind.u64.wrap (IntKind.u64.wrap ((q:Int)-1)*y))).tdiv y1))) none)
    (Jb k y s y1 y0 u u1 u0 (IntKind.u64.wrap ((q:Int)-1)) (IntKind.u64.wrap ((r:Int)+y1)))=ER k' y s y1 y0 u0 (((u*4294967296+u1) / y:Nat):Int) (((u*4294967296+u1) % y % y1:Nat):Int) (((u*4294967296+u1) % y:Nat):Int) (((u*4294967296+u1) % y / y1:Nat):Int):=by
   intro hgt
   have hqp:0<q:=Nat.lt_of_le_of_lt (Nat.zero_le _) hgt
   have hq1:(q-1)*y1+(r+y1)=u:=by
    have:q*y1=(q-1)*y1+y1:=by rw [← Nat.succ_mul];congr 1;omega
    omega
   have hqb:q<18446744073709551616*18446744073709551616:=by
    have:q*1≤q*y1:=Nat.mul_le_mul_left _ (by omega)
    omega
   have f4:IntKind.u64.wrap ((q:Int)-1)=((q-1:Nat):Int):=by
    rw [DR]
    have:q*1≤q*y1:=Nat.mul_le_mul_left _ (by omega)
    omega
   rw [hne,f3]
   by_cases hb:4294967296≤r+y1
   ·rw [decide_eq_true (show ((r+y1:Nat):Int) ≥ 4294967296 by omega),AF,AF]
    refine fin _ ?_
    rw [f4]
    have:=Tl (u1:=u1) hy hy0 hq1 (SO hy h0 hq1 hu hb)
    congr 1
    omega
   ·rw [decide_eq_false (show ¬ ((r+y1:Nat):Int) ≥ 4294967296 by omega),AJ,f4]
    exact SN hy h0 hy1 hy1' hu hu1 j k (q-1) (r+y1) hq1 (by omega) (by omega) (by omega) (by omega)
  rw [Jb]
  unfold VI
  by_cases hc:4294967296≤q
  ·rw [decide_eq_true (show (q:Int) ≥ 4294967296 by omega),show (true==false)=false from rfl,AJ]
   exact dec (Tm hy hq hu hu1 (.inl hc))
  ·rw [decide_eq_false (show ¬ (q:Int) ≥ 4294967296 by omega),show (false==false)=true from rfl,AF]
   have hqy:q*y0≤4294967296*4294967296:=Nat.mul_le_mul (by omega) (by omega)
   have hqy':q*y0<18446744073709551616:=by
    rcases Nat.eq_zero_or_pos y0 with h | h
    ·rw [h];omega
    ·have:=Nat.mul_lt_mul_of_lt_of_le (show q<4294967296 by omega) (Nat.le_of_lt h0) (by omega)
     omega
   rw [wmul,Nat.mod_eq_of_lt hqy',show IntKind.u64.wrap (IntKind.u64.wrap (4294967296*(r:Int))+u1)=((4294967296*r+u1:Nat):Int) by simp only [DR];omega]
   by_cases hd:4294967296*r+u1<q*y0
   ·rw [decide_eq_true (show ((q*y0:Nat):Int) > ((4294967296*r+u1:Nat):Int) by omega),AF]
    exact dec (Tm hy hq hu hu1 (.inr hd))
   ·rw [decide_eq_false (show ¬ ((q*y0:Nat):Int) > ((4294967296*r+u1:Nat):Int) by omega),AJ,hne,AF]
    refine fin _ ?_
    have:=Tl (u1:=u1) hy hy0 hq (by omega)
    congr 1
    omega
theorem SM {y s y1 y0 p u0:Nat} {q:Nat} (hy:y=y1*4294967296+y0) (h0:y0<4294967296) (hy1:2147483648≤y1) (hy1':y1<4294967296) (hu:p<y) (hu1:u0<4294967296) (hs:s≤64) (hq0:q<4294967296) :
  ∀ (j k r v:Nat),r*y1+v=p→(p*4294967296+u0) / y≤r→v<4294967296→4294967296≤v+j*2147483648→j≤k →
   ER k y s y1 y0 u0 q v p r=some (((q*4294967296+(p*4294967296+u0) / y:Nat):Int),(((p*4294967296+u0) % y / 2 ^ s:Nat):Int))
 | 0,k,r,v,_,_,h1,h2,_=>by omega
 | j+1,0,r,v,_,_,_,_,hk=>by omega
 | j+1,k+1,r,v,hq,hQ,hr,hj,hk=>by
  have hy0:0<y:=by omega
  have hyb:y<18446744073709551616:=by omega
  have hQC:(p*4294967296+u0) / y<4294967296:=by rw [Nat.div_lt_iff_lt_mul hy0];omega
  have es:min s IntKind.u64.bits=s:=Nat.min_eq_left hs
  have hss:decide ((0:Int)≤(s:Int))=true:=decide_eq_true (by omega)
  have fin:∀ (rI:Int),rI=(((p*4294967296+u0) / y:Nat):Int)→some (IntKind.u64.wrap (IntKind.u64.wrap ((q:Int)*4294967296)+rI),(IntKind.u64.wrap (IntKind.u64.wrap (IntKind.u64.wrap ((p:Int)*4294967296)+u0)-IntKind.u64.wrap (rI*y))).fdiv (2 ^ min (s:Int).toNat IntKind.u64.bits))=some (((q*4294967296+(p*4294967296+u0) / y:Nat):Int),(((p*4294967296+u0) % y / 2 ^ s:Nat):Int)):=by
   rintro rI rfl
   rw [bZ hy0 hyb,Int.toNat_natCast,es,Mq]
   congr 2
   simp only [DR]
   clear hQ
   generalize (p*4294967296+u0) / y=Q at *
   omega
  have f3:IntKind.u64.wrap ((v:Int)+y1)=((v+y1:Nat):Int):=by rw [DR];omega
  have dec:(p*4294967296+u0) / y<r→AC (decide (IntKind.u64.wrap ((v:Int)+y1) ≥ 4294967296)) (AC (decide ((0:Int)≤(s:Int))) (some (IntKind.u64.wrap (IntKind.u64.wrap ((q:Int)*4294967296)+IntKind.u64.wrap ((r:Int)-1)),(IntKind.u64.wrap (IntKind.u64.wrap (IntKind.u64.wrap ((p:Int)*4294967296)+u0)-IntKind.u64.wrap (IntKind.u64.wrap ((r:Int)-1)*y))).fdiv (2 ^ min (s:Int).toNat IntKind.u64.bits))) none)
    (ER k y s y1 y0 u0 q (IntKind.u64.wrap ((v:Int)+y1)) p (IntKind.u64.wrap ((r:Int)-1)))=some (((q*4294967296+(p*4294967296+u0) / y:Nat):Int),(((p*4294967296+u0) % y / 2 ^ s:Nat):Int)):=by
   intro hgt
   have hqp:0<r:=Nat.lt_of_le_of_lt (Nat.zero_le _) hgt
   have hq1:(r-1)*y1+(v+y1)=p:=by
    have:r*y1=(r-1)*y1+y1:=by rw [← Nat.succ_mul];congr 1;omega
    omega
   have f4:IntKind.u64.wrap ((r:Int)-1)=((r-1:Nat):Int):=by
    rw [DR]
    have:r*1≤r*y1:=Nat.mul_le_mul_left _ (by omega)
    omega
   rw [hss,f3,f4]
   by_cases hb:4294967296≤v+y1
   ·rw [decide_eq_true (show ((v+y1:Nat):Int) ≥ 4294967296 by omega),AF,AF]
    refine fin _ ?_
    have:=Tl (u1:=u0) hy hy0 hq1 (SO hy h0 hq1 hu hb)
    congr 1
    omega
   ·rw [decide_eq_false (show ¬ ((v+y1:Nat):Int) ≥ 4294967296 by omega),AJ]
    exact SM hy h0 hy1 hy1' hu hu1 hs hq0 j k (r-1) (v+y1) hq1 (by omega) (by omega) (by omega) (by omega)
  rw [ER]
  unfold VH
  by_cases hc:4294967296≤r
  ·rw [decide_eq_true (show (r:Int) ≥ 4294967296 by omega),show (true==false)=false from rfl,AJ]
   exact dec (Tm hy hq hu hu1 (.inl hc))
  ·rw [decide_eq_false (show ¬ (r:Int) ≥ 4294967296 by omega),show (false==false)=true from rfl,AF]
   have hqy':r*y0<18446744073709551616:=by
    rcases Nat.eq_zero_or_pos y0 with h | h
    ·rw [h];omega
    ·have:=Nat.mul_lt_mul_of_lt_of_le (show r<4294967296 by omega) (Nat.le_of_lt h0) (by omega)
     omega
   rw [wmul,Nat.mod_eq_of_lt hqy',show IntKind.u64.wrap (IntKind.u64.wrap (4294967296*(v:Int))+u0)=((4294967296*v+u0:Nat):Int) by simp only [DR];omega]
   by_cases hd:4294967296*v+u0<r*y0
   ·rw [decide_eq_true (show ((r*y0:Nat):Int) > ((4294967296*v+u0:Nat):Int) by omega),AF]
    exact dec (Tm hy hq hu hu1 (.inr hd))
   ·rw [decide_eq_false (show ¬ ((r*y0:Nat):Int) > ((4294967296*v+u0:Nat):Int) by omega),AJ,hss,AF]
    refine fin _ ?_
    have:=Tl (u1:=u0) hy hy0 hq (by omega)
    congr 1
    omega
theorem cB {a b i:Nat} (hi:i≤64) (hb:b<2 ^ i) (hab:2 ^ i*a<18446744073709551616):Bz .or .u64 ((2 ^ i*a:Nat):Int) (b:Int)=((2 ^ i*a+b:Nat):Int):=by
 have e64:2 ^ i*2 ^ (64-i)=18446744073709551616:=by rw [← Nat.pow_add,show i+(64-i)=64 by omega]
 have hi0:0<2 ^ i:=Nat.two_pow_pos i
 have ha:a<2 ^ (64-i):=by
  rw [← e64] at hab
  exact Nat.lt_of_mul_lt_mul_left hab
 have hs:2 ^ i*a+b<18446744073709551616:=by
  have:=Nat.mul_le_mul_left (2 ^ i) (show a+1≤2 ^ (64-i) from ha)
  rw [e64,Nat.mul_add] at this
  omega
 rw [bOr,IV,IV,VP,BitVec.toNat_or,BitVec.toNat_ofNat,BitVec.toNat_ofNat,Nat.mod_eq_of_lt (show 2 ^ i*a<2 ^ 64 from hab),Nat.mod_eq_of_lt (show b<2 ^ 64 by omega),← Nat.two_pow_add_eq_or_of_lt hb,Nat.mod_eq_of_lt hs]
theorem div_two {C M Y u u1 u0:Nat} (hY:0<Y) (hM:M=(u*C+u1)*C+u0) :
  M / Y=(u*C+u1) / Y*C+((u*C+u1) % Y*C+u0) / Y∧M % Y=((u*C+u1) % Y*C+u0) % Y:=by
 have h:=Nat.div_add_mod (u*C+u1) Y
 generalize (u*C+u1) / Y=q at *
 generalize (u*C+u1) % Y=p at *
 have e:M=(p*C+u0)+Y*(q*C):=by
  rw [hM,← h,Nat.add_mul,Nat.mul_assoc]
  omega
 rw [e,Nat.add_mul_div_left _ _ hY,Nat.add_mul_mod_self_left]
 exact ⟨by omega,rfl⟩
theorem kZ {C u w Y Y1 Y0:Nat} (hY:Y=Y1*C+Y0) (h1:0<Y1) (hw:w<C):(u*C+w) / Y≤u / Y1:=by
 have hY0:0<Y:=by
  have:=Nat.mul_pos h1 (show 0<C by omega)
  omega
 rcases Nat.lt_or_ge (u / Y1) ((u*C+w) / Y) with h | h
 ·exfalso
  have h2:u / Y1+1≤(u*C+w) / Y:=h
  rw [Nat.le_div_iff_mul_le hY0] at h2
  have h3:(u / Y1+1)*(Y1*C)≤(u / Y1+1)*Y:=Nat.mul_le_mul_left _ (by omega)
  have h4:u+1≤(u / Y1+1)*Y1:=by
   have e:=Nat.div_add_mod' u Y1
   have e2:=Nat.mod_lt u h1
   rw [Nat.add_mul]
   omega
  have h5:=Nat.mul_le_mul_right C h4
  rw [Nat.mul_assoc,Nat.add_mul] at h5
  omega
 ·exact h
theorem WX (s:Nat):((2:Int) ^ s)=((2 ^ s:Nat):Int):=by simp
theorem wshl {x s:Nat}:IntKind.u64.wrap ((x:Int)*2 ^ s)=((x*2 ^ s % 18446744073709551616:Nat):Int):=by
 rw [WX,← Int.natCast_mul,DR]
 omega
theorem iJ {h l y:Nat} (hh:h<y) (hy:y<18446744073709551616) (hl:l<18446744073709551616):G118 20 h l y=some ((((h*18446744073709551616+l) / y:Nat):Int),(((h*18446744073709551616+l) % y:Nat):Int)):=by
 have hne:((y:Int) != 0)=true:=by simp only [bne_iff_ne,ne_eq];omega
 have heq:((y:Int)==0)=false:=by simp only [beq_eq_false_iff_ne,ne_eq];omega
 unfold G118 T118
 rw [heq,AJ,decide_eq_false (show ¬ (y:Int)≤h by omega),AJ]
 by_cases h0:h=0
 ·subst h0
  rw [show (((0:Nat):Int)==0)=true from rfl,AF,hne,AF,AF,wdiv hl,show (l:Int).tmod y=((l % y:Nat):Int) from rfl]
  simp only [Nat.zero_mul,Nat.zero_add]
 ·have hh0:((h:Int)==0)=false:=by simp only [beq_eq_false_iff_ne,ne_eq];omega
  have b1:=Hv hy
  have b2:2≤bitLen y:=by
   rcases Nat.lt_or_ge (bitLen y) 2 with hb | hb
   ·have:=(CD (n:=y) (j:=1)).1 (by omega)
    omega
   ·exact hb
  obtain ⟨s,hs⟩:∃ s:Nat,s+bitLen y=64:=⟨64-bitLen y,by omega⟩
  have u1:y<2 ^ bitLen y:=CD.1 (Nat.le_refl _)
  have u2:2 ^ (bitLen y-1)≤y:=by
   rcases Nat.lt_or_ge y (2 ^ (bitLen y-1)) with hb | hb
   ·have:=CD.2 hb
    omega
   ·exact hb
  have hs0:0<2 ^ s:=Nat.two_pow_pos s
  have e1:2 ^ bitLen y*2 ^ s=18446744073709551616:=by rw [← Nat.pow_add,show bitLen y+s=64 by omega]
  have e2:2 ^ (bitLen y-1)*2 ^ s=9223372036854775808:=by rw [← Nat.pow_add,show bitLen y-1+s=63 by omega]
  have Y1:y*2 ^ s<18446744073709551616:=by rw [← e1];exact Nat.mul_lt_mul_of_pos_right u1 hs0
  have Y2:9223372036854775808≤y*2 ^ s:=by rw [← e2];exact Nat.mul_le_mul_right _ u2
  have H1:h*2 ^ s<y*2 ^ s:=Nat.mul_lt_mul_of_pos_right hh hs0
  have es:IntKind.u64.wrap (lzV (y:Int).toNat)=(s:Int):=by
   unfold lzV
   rw [Int.toNat_natCast,DR]
   omega
  have et:IntKind.u64.wrap (64-(s:Int))=((64-s:Nat):Int):=by rw [DR];omega
  have m1:min (s:Int).toNat IntKind.u64.bits=s:=by rw [Int.toNat_natCast];exact Nat.min_eq_left (by show s≤64;omega)
  have m2:min ((64-s:Nat):Int).toNat IntKind.u64.bits=64-s:=by rw [Int.toNat_natCast];exact Nat.min_eq_left (by show 64-s≤64;omega)
  have e3:2 ^ s*2 ^ (64-s)=18446744073709551616:=by rw [← Nat.pow_add,show s+(64-s)=64 by omega]
  have hl1:l / 2 ^ (64-s)<2 ^ s:=by
   rw [Nat.div_lt_iff_lt_mul (Nat.two_pow_pos _),e3]
   exact hl
  have un:Bz .or .u64 ((h*2 ^ s:Nat):Int) ((l / 2 ^ (64-s):Nat):Int)=((h*2 ^ s+l / 2 ^ (64-s):Nat):Int):=by
   rw [Nat.mul_comm h]
   exact cB (by omega) hl1 (by rw [Nat.mul_comm];omega)
  rw [hh0,AJ,show H7 (y:Int)=true from Ev.2 (by omega),AF,es,et,m1,m2,decide_eq_true (show (0:Int)≤(s:Int) by omega),decide_eq_true (show (0:Int)≤((64-s:Nat):Int) by omega),Mq]
  simp only [AF]
  rw [wshl,wshl,wshl,Nat.mod_eq_of_lt Y1,Nat.mod_eq_of_lt (show h*2 ^ s<18446744073709551616 by omega),un]
  rw [Jw,Jw,X7 Y1,X7 (Nat.mod_lt _ (by omega))]
  have hun:h*2 ^ s+l / 2 ^ (64-s)<y*2 ^ s:=by
   have:=Nat.mul_le_mul_right (2 ^ s) (show h+1≤y from hh)
   rw [Nat.add_mul] at this
   omega
  have hN:(h*18446744073709551616+l)*2 ^ s=(h*2 ^ s+l / 2 ^ (64-s))*18446744073709551616+l*2 ^ s % 18446744073709551616:=by
   have d1:=Nat.div_add_mod (l*2 ^ s) 18446744073709551616
   have d2:l*2 ^ s / 18446744073709551616=l / 2 ^ (64-s):=by
    rw [← e3,Nat.mul_comm l,Nat.mul_div_mul_left _ _ hs0]
   rw [d2] at d1
   rw [Nat.add_mul,Nat.add_mul,Nat.mul_right_comm h 18446744073709551616]
   omega
  have hl':l*2 ^ s % 18446744073709551616<18446744073709551616:=Nat.mod_lt _ (by omega)
  have q1:(h*18446744073709551616+l)*2 ^ s / (y*2 ^ s)=(h*18446744073709551616+l) / y:=Nat.mul_div_mul_right _ _ hs0
  have q2:(h*18446744073709551616+l)*2 ^ s % (y*2 ^ s)=(h*18446744073709551616+l) % y*2 ^ s:=Nat.mul_mod_mul_right _ _ _
  have q3:(h*18446744073709551616+l) % y*2 ^ s / 2 ^ s=(h*18446744073709551616+l) % y:=Nat.mul_div_cancel _ hs0
  generalize h*2 ^ s+l / 2 ^ (64-s)=u at *
  generalize l*2 ^ s % 18446744073709551616=w at *
  generalize y*2 ^ s=Y at *
  have hy1:((((Y / 4294967296:Nat)):Int) != 0)=true:=by simp only [bne_iff_ne,ne_eq];omega
  rw [hy1,AF,wdiv (by omega),vv (by omega)]
  have hMw:(h*18446744073709551616+l)*2 ^ s=(u*4294967296+w / 4294967296)*4294967296+w % 4294967296:=by
   rw [hN]
   omega
  obtain ⟨dv,md⟩:=div_two (C:=4294967296) (Y:=Y) (u:=u) (u1:=w / 4294967296) (u0:=w % 4294967296) (by omega) hMw
  have hq:=Nat.div_add_mod' u (Y / 4294967296)
  have hr:u % (Y / 4294967296)<Y / 4294967296:=Nat.mod_lt _ (by omega)
  obtain ⟨k',hk',e⟩:=SN (y:=Y) (s:=s) (y1:=Y / 4294967296) (y0:=Y % 4294967296) (u:=u) (u1:=w / 4294967296) (u0:=w % 4294967296) (by omega) (Nat.mod_lt _ (by omega)) (by omega) (by omega) hun (by omega) 2 20 (u / (Y / 4294967296)) (u % (Y / 4294967296)) hq (kZ (Y0:=Y % 4294967296) (by omega) (by omega) (by omega)) (by omega) (by omega) (by omega)
  rw [e]
  have hp:(u*4294967296+w / 4294967296) % Y<Y:=Nat.mod_lt _ (by omega)
  have hQ:(u*4294967296+w / 4294967296) / Y<4294967296:=by rw [Nat.div_lt_iff_lt_mul (by omega)];omega
  rw [SM (y:=Y) (s:=s) (y1:=Y / 4294967296) (y0:=Y % 4294967296) (p:=(u*4294967296+w / 4294967296) % Y) (u0:=w % 4294967296) (by omega) (Nat.mod_lt _ (by omega)) (by omega) (by omega) hp (Nat.mod_lt _ (by omega)) (by omega) hQ 2 k' ((u*4294967296+w / 4294967296) % Y / (Y / 4294967296)) ((u*4294967296+w / 4294967296) % Y % (Y / 4294967296)) (Nat.div_add_mod' _ _) (kZ (Y0:=Y % 4294967296) (by omega) (by omega) (Nat.mod_lt _ (by omega))) (Nat.lt_of_lt_of_le (Nat.mod_lt _ (by omega)) (by omega)) (by omega) (by omega)]
  rw [← dv,← md,q1,q2,q3]
def W3 (h l y:Int):Bool:=H7 h&&H7 l&&H7 y&&decide (h<y)
theorem SB {h l y:Int}:W3 h l y=true ↔ (0≤h∧h<18446744073709551616)∧(0≤l∧l<18446744073709551616)∧(0≤y∧y<18446744073709551616)∧h<y:=by
 simp only [W3,Bool.and_eq_true,Ev,decide_eq_true_eq,and_assoc]
def WU:List F→Bool | [.int .u64 h,.int .u64 l,.int .u64 y]=>W3 h l y | _=>false
def divQ (h l y:Int):Int:=(h*18446744073709551616+l) / y
def divR (h l y:Int):Int:=(h*18446744073709551616+l) % y
def WG:List F→F | [.int .u64 h,.int .u64 l,.int .u64 y]=>.tup [.int .u64 (divQ h l y),.int .u64 (divR h l y)] | _=>.dflt
theorem Xs (h l y:Nat):divQ h l y=(((h*18446744073709551616+l) / y:Nat):Int):=by rw [Int.natCast_ediv,Int.natCast_add,Int.natCast_mul];rfl
theorem Xr (h l y:Nat):divR h l y=(((h*18446744073709551616+l) % y:Nat):Int):=by rw [Int.natCast_emod,Int.natCast_add,Int.natCast_mul];rfl
theorem okDiv64:Ai Tryz.prog 118 WU WG :=
 Bm (c:=AR Tryz.f118) Tryz.func118 (by kernel_rfl) (by kernel_rfl) fun xs hp=>match xs,hp with
 | [.int .u64 h,.int .u64 l,.int .u64 y],hp=>by
  obtain ⟨⟨h0,h1⟩,⟨l0,l1⟩,⟨y0,y1⟩,hy⟩:=SB.1 hp
  obtain ⟨h,rfl⟩:=Int.eq_ofNat_of_zero_le h0
  obtain ⟨l,rfl⟩:=Int.eq_ofNat_of_zero_le l0
  obtain ⟨y,rfl⟩:=Int.eq_ofNat_of_zero_le y0
  have e:=iJ (h:=h) (l:=l) (y:=y) (by omega) (by omega) (by omega)
  rw [← Xs,← Xr] at e
  exact t118 20 h l y _ _ e
def oQ:Env:=oR.add 118 (.pure WU WG)
theorem K3:Ax Tryz.prog oQ:=(Env.add_ok K4 okDiv64.sp)
end
noncomputable section
def Cn (n:Nat):F:=.int .u32 (n:Int)
def SA:F→Bool | .int .u32 n=>decide (0≤n)&&decide (n<4294967296) | _=>false
def PI:F→Nat | .int .u32 n=>n.toNat | _=>0
theorem w32_eq {x:F} (h:SA x=true):Cn (PI x)=x:=by
 unfold SA at h
 split at h
 ·simp only [Bool.and_eq_true,decide_eq_true_eq] at h
  simp only [Cn,PI]
  rw [Int.toNat_of_nonneg h.1]
 ·cases h
def AN (l:List Nat):F:=slF Cn 0 l
def A4 (x:F):Bool:=Ci SA x
def AS (x:F):List Nat:=D8 PI x
theorem DF (l:List Nat):AS (AN l)=l:=Jp (fun n=>by simp [PI,Cn]) l
theorem Cj {l:List Nat} (h:okD 4294967296 l):A4 (AN l)=true:=KG l fun n hn=>by
 have:=h n hn
 simp only [SA,Cn,Bool.and_eq_true,decide_eq_true_eq]
 omega
theorem Bk {x:F} (hx:A4 x=true):FLe x (AN (AS x))∧FLe (AN (AS x)) x:=MH (fun _ h=>w32_eq h) hx
theorem Ca {x:F} (hx:A4 x=true):okD 4294967296 (AS x):=by
 cases x with
 | sl n g =>
  simp only [A4,Ci,List.all_eq_true,List.mem_range] at hx
  intro w hw
  simp only [AS,D8,List.mem_map,List.mem_range] at hw
  obtain ⟨i,hi,rfl⟩:=hw
  have h:=hx i hi
  unfold SA at h
  split at h
  ·rename_i n' he
   simp only [Bool.and_eq_true,decide_eq_true_eq] at h
   rw [he]
   simp only [PI]
   omega
  ·cases h
 | _=>simp [A4,Ci] at hx
def AX (z:Int):F:=.agg [.bool (decide (z<0)),AN (AM 4294967296 z.natAbs)]
theorem YV (n:Nat):PI (Cn n)=n:=by simp [PI,Cn]
theorem EA {m:Nat} {g:Nat→F} {l:List Nat} (hl:l.length=m) (hg:∀ j,j<m→g j=Cn (l.getD j 0)):AS (.sl m g)=l :=
 Pc hl fun j hj=>by rw [hg j hj,YV]
theorem EC {m:Nat} {g:Nat→F} {l:List Nat} (hl:l.length=m) (hg:∀ j,j<m→g j=Cn (l.getD j 0)) (ho:okD 4294967296 l):A4 (.sl m g)=true:=by
 simp only [A4,Ci,List.all_eq_true,List.mem_range]
 intro j hj
 rw [hg j hj]
 have:=DC ho (show j<l.length by omega)
 simp only [SA,Cn,Bool.and_eq_true,decide_eq_true_eq]
 omega
theorem NB (n:Nat):(Cn n).cells.length=1:=rfl
theorem GA {n:Nat} {x:F} (hx:A4 x=true) (h:BD n x=true):(AS x).length≤n:=by
 cases x with
 | sl m g=>simpa [AS,D8,BD] using h
 | _=>simp [A4,Ci] at hx
theorem GQ {n:Nat} {l:List Nat}:BD n (AN l)=Nat.ble l.length n:=rfl
theorem SW {n:Nat}:AM 4294967296 n=[] ↔ n=0:=by
 constructor
 ·intro h
  have:=DE (B:=4294967296) (by omega) n
  rw [h] at this
  exact this.symm
 ·rintro rfl;exact BU _
theorem Dh {n:Nat}:((AM 4294967296 n).length:Int) > 0 ↔ n ≠ 0:=by
 rw [ne_eq,← SW,← List.length_eq_zero_iff]
 omega
def A1 (n:Nat):F→Bool | .agg [.bool s,x]=>A4 x&&BD n x&&(ND (AS x)&&(!s || !BD 0 x)) | _=>false
def AW:F→Int | .agg [.bool s,x]=>sgn s (val 4294967296 (AS x)) | _=>0
theorem OX {x:F} (hx:A4 x=true) (ht:DH (AS x)):AM 4294967296 (val 4294967296 (AS x))=AS x:=Mx (by omega) (Ca hx) ht
theorem Cw {n k:Nat} (h:n<4294967296 ^ k):(AM 4294967296 n).length≤k:=by
 rcases Nat.lt_or_ge k (AM 4294967296 n).length with hk | hk
 ·exfalso
  have h1:=DW (B:=4294967296) (a:=List.replicate k (4294967296-1)) (b:=AM 4294967296 n) (by omega) (fun w hw=>by have:=(List.mem_replicate.1 hw).2;omega) (B8 (by omega) n) (by simpa using hk)
  have h2:∀ k:Nat,val 4294967296 (List.replicate k (4294967296-1))+1=4294967296 ^ k:=by
   intro k
   induction k with
   | zero=>rfl
   | succ k ih =>
    simp only [List.replicate_succ,val,Nat.pow_succ,← ih]
    omega
  rw [DE (by omega)] at h1
  have:=h2 k
  omega
 ·exact hk
theorem Wx {x:F} (hx:A4 x=true):BD 0 x=true ↔ AS x=[]:=by
 cases x with
 | sl m g=>simp [BD,AS,D8]
 | _=>simp [A4,Ci] at hx
theorem Mi {n:Nat} {x:F} (h:A1 n x=true):∃ s y,x=.agg [.bool s,y]∧A4 y=true∧AX (AW x)=.agg [.bool s,AN (AS y)]:=by
 unfold A1 at h
 split at h
 ·rename_i s y
  simp only [Bool.and_eq_true,Dl] at h
  obtain ⟨⟨hy,hl⟩,ht,hs⟩:=h
  have e:AX (AW (.agg [.bool s,y]))=.agg [.bool s,AN (AS y)]:=by
   rw [show AW (.agg [.bool s,y])=sgn s (val 4294967296 (AS y)) from rfl]
   unfold AX
   rw [DZ,O1,OX hy ht]
   congr 2
   cases s with
   | false=>rfl
   | true =>
    simp only [Bool.not_true,Bool.false_or,Bool.not_eq_true'] at hs
    have:AS y ≠ []:=fun e=>by rw [(Wx hy).2 e] at hs;cases hs
    have:=Kj (B:=4294967296) (by omega) _ ht this
    rw [Bool.true_and]
    congr 1
    exact decide_eq_true (by omega)
  exact ⟨s,y,rfl,hy,e⟩
 ·cases h
theorem C0 {n:Nat} {x:F} (h:A1 n x=true):FLe x (AX (AW x))∧FLe (AX (AW x)) x:=by
 obtain ⟨s,y,hx,hy,e⟩:=Mi h
 rw [e,hx]
 exact ⟨FLe.agg ⟨.refl _,(Bk hy).1,trivial⟩,FLe.agg ⟨.refl _,(Bk hy).2,trivial⟩⟩
theorem Cm (z:Int):AW (AX z)=z:=by
 simp only [AW,AX,DF,DE (show 1<4294967296 by omega),Vo]
theorem Bs {n:Nat} {z:Int} (h:z.natAbs<4294967296 ^ n):A1 n (AX z)=true:=by
 simp only [A1,AX,GQ,Cj (BH (B:=4294967296) (by omega) _),DF,Bool.and_eq_true,Dl]
 refine ⟨⟨trivial,?_⟩,B8 (by omega) _,?_⟩
 ·rw [Nat.ble_eq];exact Cw h
 ·by_cases h0:z<0
  ·have:(AM 4294967296 z.natAbs).length ≠ 0:=fun e=>by
    have:=SW.1 (List.length_eq_zero_iff.1 e)
    omega
   cases hb:Nat.ble (AM 4294967296 z.natAbs).length 0 with
   | false=>simp
   | true=>rw [Nat.ble_eq] at hb;omega
  ·simp [h0]
theorem BJ {n:Nat} {x:F} (h:A1 n x=true):(AW x).natAbs<4294967296 ^ n:=by
 unfold A1 at h
 split at h
 ·rename_i s y
  simp only [Bool.and_eq_true] at h
  obtain ⟨⟨hy,hl⟩,_⟩:=h
  simp only [AW,DZ]
  exact Nat.lt_of_lt_of_le (Jo _ (Ca hy)) (Nat.pow_le_pow_right (by omega) (GA hy hl))
 ·cases h
def bS (n:Nat):List F→Bool | [x]=>A1 n x | _=>false
def Jd (n:Nat):List F→Bool | [x,y]=>A1 n x&&A1 n y | _=>false
theorem ED (n:Nat):A4 (AN (AM 4294967296 n))=true:=Cj (BH (by omega) n)
theorem C6 (n:Nat):AS (AN (AM 4294967296 n))=AM 4294967296 n:=DF _
theorem BV (n:Nat):val 4294967296 (AM 4294967296 n)=n:=DE (by omega) n
theorem DS {n k j:Nat} (h:n<4294967296 ^ j) (hk:j≤k):BD k (AN (AM 4294967296 n))=true:=by
 rw [GQ,Nat.ble_eq];exact Nat.le_trans (Cw h) hk
theorem nD (s:Bool) (n:Nat):AX (sgn s n)=.agg [.bool (s&&decide (n ≠ 0)),AN (AM 4294967296 n)]:=by
 unfold AX
 rw [DZ,O1]
theorem IR {n:Nat} {x y:F} (h:Jd n [x,y]=true):A1 n x=true∧A1 n y=true:=by simpa [Jd] using h
theorem Lk {m p v:Nat} {g:Nat→F} {o:List Nat} (ho:o.length=m) (hp:p<m) (hg:∀ j,j<m→g j=Cn (o.getD j 0)) :
  ∀ j,j<m→(fun j=>if j=0+p then F.int .u32 (v:Int) else g j) j=Cn ((o.set p v).getD j 0):=by
 intro j hj
 show (if j=0+p then F.int .u32 (v:Int) else g j)=_
 by_cases h:j=0+p
 ·rw [if_pos h,h,Nat.zero_add]
  simp [List.getD,Cn,show p<o.length by omega]
 ·rw [if_neg h,hg j hj]
  simp [List.getD,List.getElem?_set,show p ≠ j by omega]
theorem Xw (v:Nat):(List.drop 0 (Cn v).cells).headD F.dflt=Cn v:=rfl
theorem cD (v:Nat):(okV (Value.int IntKind.u32 0) (Cn v)&&true)=true:=rfl
theorem SD (v:Nat):Ex (Cn v)=(v:Int):=rfl
def Jj (B:Nat):List Nat→List Nat→Nat→List Nat
 | [],_,c=>if c=0 then [] else [c]
 | x :: a,b,c=>((x+b.headD 0+c) % B) :: Jj B a b.tail ((x+b.headD 0+c) / B)
theorem PG (B:Nat):∀ (a b:List Nat) (c:Nat),b.length≤a.length→val B (Jj B a b c)=val B a+val B b+c
 | [],b,c,h=>by
  have:b=[]:=List.eq_nil_of_length_eq_zero (by simpa using h)
  subst this
  by_cases hc:c=0 <;> simp [Jj,val,hc]
 | x :: a,b,c,h=>by
  have ih:=PG B a b.tail ((x+b.headD 0+c) / B) (by simp at h ⊢;omega)
  simp only [Jj,val,ih]
  have h1:=Nat.mod_add_div (x+b.headD 0+c) B
  have h2:=PF B b
  simp only [Nat.mul_add]
  omega
theorem Ps {B:Nat} (hB:1<B):∀ (a b:List Nat) (c:Nat),okD B a→okD B b→c≤1→okD B (Jj B a b c)
 | [],b,c,_,_,hc=>by
  intro w hw
  by_cases h0:c=0
  ·simp [Jj,h0] at hw
  ·simp [Jj,h0] at hw;omega
 | x :: a,b,c,ha,hb,hc=>by
  have hx:=ha x (by simp)
  have hy:b.headD 0<B:=by
   cases b with
   | nil=>simp;omega
   | cons y b=>exact hb y (by simp)
  have ih:=Ps hB a b.tail ((x+b.headD 0+c) / B) (fun w hw=>ha w (by simp [hw])) (fun w hw=>hb w (List.mem_of_mem_tail hw)) (by
   have:x+b.headD 0+c<B*2:=by omega
   have:=Nat.div_lt_of_lt_mul this
   omega)
  intro w hw
  simp only [Jj,List.mem_cons] at hw
  rcases hw with rfl | hw
  ·exact Nat.mod_lt _ (by omega)
  ·exact ih w hw
theorem P4 (B:Nat):∀ (a b:List Nat) (c:Nat),(Jj B a b c).length≤a.length+1
 | [],b,c=>by by_cases hc:c=0 <;> simp [Jj,hc]
 | x :: a,b,c=>by
  have:=P4 B a b.tail ((x+b.headD 0+c) / B)
  simp only [Jj,List.length_cons]
  omega
theorem Mg (B:Nat):∀ (a b:List Nat) (c:Nat),(Gh B a b c).length=a.length
 | [],b,c=>rfl
 | x :: a,b,c=>by simp [Gh,Mg B a b.tail]
def Q3 (a b:List Nat):List Nat:=if a.length<b.length then Jj 4294967296 b a 0 else Jj 4294967296 a b 0
theorem jD (a b:List Nat):val 4294967296 (Q3 a b)=val 4294967296 a+val 4294967296 b:=by
 unfold Q3
 by_cases h:a.length<b.length
 ·rw [if_pos h,PG _ _ _ _ (by omega)];omega
 ·rw [if_neg h,PG _ _ _ _ (by omega)];omega
theorem mD {a b:List Nat} (oa:okD 4294967296 a) (ob:okD 4294967296 b):okD 4294967296 (Q3 a b):=by
 unfold Q3
 by_cases h:a.length<b.length
 ·rw [if_pos h];exact Ps (by omega) _ _ _ ob oa (by omega)
 ·rw [if_neg h];exact Ps (by omega) _ _ _ oa ob (by omega)
theorem mZ (a b:List Nat):(Q3 a b).length≤max a.length b.length+1:=by
 unfold Q3
 by_cases h:a.length<b.length
 ·rw [if_pos h];have:=P4 4294967296 b a 0;omega
 ·rw [if_neg h];have:=P4 4294967296 a b 0;omega
end
noncomputable section
theorem KV {B:Nat} (hB:1<B):∀ (l:List Nat) (p:Nat),okD B l→l.getD p 0=val B l / B ^ p % B
 | [],p,_=>by simp [val]
 | x :: l,0,h=>by
  have hx:=h x (by simp)
  simp only [List.getD_cons_zero,val,Nat.pow_zero,Nat.div_one,Nat.add_mul_mod_self_left]
  exact (Nat.mod_eq_of_lt hx).symm
 | x :: l,p+1,h=>by
  have hx:=h x (by simp)
  have ih:=KV hB l p fun w hw=>h w (by simp [hw])
  rw [List.getD_cons_succ,ih,val,Nat.pow_succ,Nat.mul_comm (B ^ p) B,← Nat.div_div_eq_div_mul,Nat.add_mul_div_left _ _ (by omega),Nat.div_eq_of_lt hx,Nat.zero_add]
theorem Hy (i:Nat):2 ^ i=4294967296 ^ (i / 32)*2 ^ (i % 32):=by
 rw [show 4294967296=2 ^ 32 from rfl,← Nat.pow_mul,← Nat.pow_add,Nat.div_add_mod]
theorem qG {l:List Nat} {i:Nat} (ol:okD 4294967296 l) (h:val 4294967296 l % 2 ^ (i+1)=0):∃ u,l.getD (i / 32) 0=2 ^ (i % 32+1)*u∧2 ^ (i % 32+1)*u+2 ^ (i % 32)<4294967296:=by
 have hr:i % 32<32:=Nat.mod_lt _ (by omega)
 have e32:2 ^ (i % 32+1)*2 ^ (31-i % 32)=4294967296:=by
  rw [← Nat.pow_add,show i % 32+1+(31-i % 32)=32 by omega]
 have h1:2 ^ (i+1)=4294967296 ^ (i / 32)*2 ^ (i % 32+1):=by
  rw [Nat.pow_succ,Hy i,Nat.mul_assoc,← Nat.pow_succ]
 obtain ⟨t,ht⟩:=Nat.dvd_of_mod_eq_zero h
 have hC:0<4294967296 ^ (i / 32):=Nat.pow_pos (by omega)
 have hd:l.getD (i / 32) 0=2 ^ (i % 32+1)*(t % 2 ^ (31-i % 32)):=by
  rw [KV (by omega) l _ ol,ht,h1,Nat.mul_assoc,Nat.mul_div_cancel_left _ hC]
  conv=>lhs;rw [← e32]
  rw [Nat.mul_mod_mul_left]
 refine ⟨t % 2 ^ (31-i % 32),hd,?_⟩
 have hu:t % 2 ^ (31-i % 32)<2 ^ (31-i % 32):=Nat.mod_lt _ (Nat.two_pow_pos _)
 have h2:=Nat.mul_le_mul_left (2 ^ (i % 32+1)) (show t % 2 ^ (31-i % 32)+1≤2 ^ (31-i % 32) from hu)
 rw [e32,Nat.mul_add] at h2
 have h3:2 ^ (i % 32)<2 ^ (i % 32+1):=by
  rw [Nat.pow_succ]
  have:=Nat.two_pow_pos (i % 32)
  omega
 omega
theorem bit_set {l:List Nat} {i:Nat} (ol:okD 4294967296 l) (hi:i / 32<l.length) (h:val 4294967296 l % 2 ^ (i+1)=0) :
  (l.getD (i / 32) 0 ||| 2 ^ (i % 32))<4294967296∧val 4294967296 (l.set (i / 32) (l.getD (i / 32) 0 ||| 2 ^ (i % 32)))=val 4294967296 l+2 ^ i:=by
 obtain ⟨u,hu,hlt⟩:=qG ol h
 have h3:2 ^ (i % 32)<2 ^ (i % 32+1):=by
  rw [Nat.pow_succ]
  have:=Nat.two_pow_pos (i % 32)
  omega
 have he:(l.getD (i / 32) 0 ||| 2 ^ (i % 32))=l.getD (i / 32) 0+2 ^ (i % 32):=by
  rw [hu,← Nat.two_pow_add_eq_or_of_lt h3]
 rw [he]
 refine ⟨by rw [hu];exact hlt,?_⟩
 have hs:=L9 4294967296 l (i / 32) (l.getD (i / 32) 0+2 ^ (i % 32)) hi
 rw [Nat.mul_add,← Hy i] at hs
 omega
structure DivInv (a b i rest Q:Nat):Prop where
 eq:a=rest+b*Q
 lt:rest<b*2 ^ i
 dvd:Q % 2 ^ i=0
theorem DivInv.take {a b i rest Q:Nat} (h:DivInv a b (i+1) rest Q) (hs:b*2 ^ i≤rest):DivInv a b i (rest-b*2 ^ i) (Q+2 ^ i):=by
 obtain ⟨h1,h2⟩:=qF h.eq h.lt hs
 refine ⟨h1,h2,?_⟩
 have h3:=h.dvd
 obtain ⟨t,ht⟩:=Nat.dvd_of_mod_eq_zero h3
 rw [ht,Nat.pow_succ,Nat.mul_assoc,← Nat.mul_add_one,Nat.mul_mod_right]
theorem DivInv.skip {a b i rest Q:Nat} (h:DivInv a b (i+1) rest Q) (hs:rest<b*2 ^ i):DivInv a b i rest Q:=by
 refine ⟨h.eq,hs,?_⟩
 obtain ⟨t,ht⟩:=Nat.dvd_of_mod_eq_zero h.dvd
 rw [ht,Nat.pow_succ,Nat.mul_assoc,Nat.mul_mod_right]
theorem DivInv.done {a b rest Q:Nat} (h:DivInv a b 0 rest Q):Q=a / b∧rest=a % b:=by
 have h1:=h.eq
 have h2:=h.lt
 rw [Nat.pow_zero,Nat.mul_one] at h2
 refine QY ?_ h2
 rw [h1,Nat.mul_comm];omega
theorem DivInv.start {a b i:Nat} (h:a<b*2 ^ i):DivInv a b i a 0:=⟨by simp,h,Nat.zero_mod _⟩
end
/-! ### function 117 -/
abbrev RL (ρ:Type):=(Bool)→Option ρ
def T117 {ρ:Type} (ret:RL ρ) (a0:Int) (a1:Int) (a2:Int):Option ρ :=
 (AC (decide (a0 ≥ a1)==true)
 (ret (decide (a0≤a2)))
 (ret (false)))
def G117 (a0:Int) (a1:Int) (a2:Int):Option (Bool):=T117 some a0 a1 a2
theorem t117 (a0:Int) (a1:Int) (a2:Int) (r:Bool) (h:G117 a0 a1 a2=some r):AY Tryz.prog Tryz.f117.results.toList [.code (AR Tryz.f117)] (start Tryz.f117.ntmps ([F.int .i64 a0,F.int .i64 a1,F.int .i64 a2].map .f)) (F.bool r):=by
 refine AY.of_run Ap D3 (T:=[]) (n:=200) ?_
 refine gE (Y:=T117 (fun r=>some (.ret (F.bool r))) a0 a1 a2) (by kernel_rfl) ?_
 exact (gS h (fun _ h=>gR (by cases h;rfl)) (fun _ h=>gR (by cases h;rfl)))
/-! ### function 66 -/
def T66 {ρ:Type} (ret:RL ρ) (a0:Int) (a1:Int) (a2:Int):Option ρ :=
 (AC (decide (a1≤a0)==true)
 (ret (decide (a0≤a2)))
 (ret (false)))
def G66 (a0:Int) (a1:Int) (a2:Int):Option (Bool):=T66 some a0 a1 a2
theorem t66 (a0:Int) (a1:Int) (a2:Int) (r:Bool) (h:G66 a0 a1 a2=some r):AY Tryz.prog Tryz.f66.results.toList [.code (AR Tryz.f66)] (start Tryz.f66.ntmps ([F.int .i64 a0,F.int .i64 a1,F.int .i64 a2].map .f)) (F.bool r):=by
 refine AY.of_run Ap D3 (T:=[]) (n:=200) ?_
 refine gE (Y:=T66 (fun r=>some (.ret (F.bool r))) a0 a1 a2) (by kernel_rfl) ?_
 exact (gS h (fun _ h=>gR (by cases h;rfl)) (fun _ h=>gR (by cases h;rfl)))
/-! ### function 53 -/
def T53 {ρ:Type} (ret:RL ρ) (x0:Int) (y0:Int) (x1:Int) (y1:Int):Option ρ :=
 (AC (decide (x0<x1)==false)
 (AC ((x0==x1)==true)
 (ret (decide (y0<y1)))
 (ret (false)))
 (ret (true)))
def G53 (x0:Int) (y0:Int) (x1:Int) (y1:Int):Option (Bool):=T53 some x0 y0 x1 y1
theorem t53 (x0:Int) (y0:Int) (x1:Int) (y1:Int) (r:Bool) (h:G53 x0 y0 x1 y1=some r):AY Tryz.prog Tryz.f53.results.toList [.code (AR Tryz.f53)] (start Tryz.f53.ntmps ([F.agg [F.int .i64 x0,F.int .i64 y0],F.agg [F.int .i64 x1,F.int .i64 y1]].map .f)) (F.bool r):=by
 refine AY.of_run Ap D3 (T:=[]) (n:=200) ?_
 refine gE (Y:=T53 (fun r=>some (.ret (F.bool r))) x0 y0 x1 y1) (by kernel_rfl) ?_
 exact (gS h (fun _ h=>(gS h (fun _ h=>gR (by cases h;rfl)) (fun _ h=>gR (by cases h;rfl)))) (fun _ h=>gR (by cases h;rfl)))
/-! ### function 44 -/
def T44 {ρ:Type} (ret:N9 ρ) (x0:Int) (y0:Int) (x1:Int) (y1:Int):Option ρ :=
 (AC (x0==x1&&(y0==y1&&true))
 (ret (0))
 (AC (decide (x0<x1)==false)
 (AC ((x0==x1)==true)
 (AC (decide (y0<y1))
 (ret (-1))
 (ret (1)))
 (ret (1)))
 (ret (-1))))
def G44 (x0:Int) (y0:Int) (x1:Int) (y1:Int):Option (Int):=T44 some x0 y0 x1 y1
theorem t44 (x0:Int) (y0:Int) (x1:Int) (y1:Int) (r:Int) (h:G44 x0 y0 x1 y1=some r):AY Tryz.prog Tryz.f44.results.toList [.code (AR Tryz.f44)] (start Tryz.f44.ntmps ([F.agg [F.int .i64 x0,F.int .i64 y0],F.agg [F.int .i64 x1,F.int .i64 y1]].map .f)) (F.int .i64 r):=by
 refine AY.of_run Ap D3 (T:=[]) (n:=200) ?_
 refine gE (Y:=T44 (fun r=>some (.ret (F.int .i64 r))) x0 y0 x1 y1) (by kernel_rfl) ?_
 exact (gS h (fun _ h=>gR (by cases h;rfl)) (fun _ h=>(gS h (fun _ h=>(gS h (fun _ h=>(gS h (fun _ h=>gR (by cases h;rfl)) (fun _ h=>gR (by cases h;rfl)))) (fun _ h=>gR (by cases h;rfl)))) (fun _ h=>gR (by cases h;rfl)))))
/-! ### function 46 -/
def T46 {ρ:Type} (ret:N9 ρ) (a0:Int):Option ρ :=
 (AC (decide (a0<0))
 (ret (-1))
 (AC (decide (a0 > 0))
 (ret (1))
 (ret (0))))
def G46 (a0:Int):Option (Int):=T46 some a0
theorem t46 (a0:Int) (r:Int) (h:G46 a0=some r):AY Tryz.prog Tryz.f46.results.toList [.code (AR Tryz.f46)] (start Tryz.f46.ntmps ([F.int .i64 a0].map .f)) (F.int .i64 r):=by
 refine AY.of_run Ap D3 (T:=[]) (n:=200) ?_
 refine gE (Y:=T46 (fun r=>some (.ret (F.int .i64 r))) a0) (by kernel_rfl) ?_
 exact (gS h (fun _ h=>gR (by cases h;rfl)) (fun _ h=>(gS h (fun _ h=>gR (by cases h;rfl)) (fun _ h=>gR (by cases h;rfl)))))
/-! ### function 43 -/
def T43 {ρ:Type} (ret:N9 ρ) (x0:Int) (y0:Int) (x1:Int) (y1:Int) (x2:Int) (y2:Int):Option ρ :=
 (ret (IntKind.i64.wrap (IntKind.i64.wrap (IntKind.i64.wrap (x1-x0)*IntKind.i64.wrap (y2-y0))-IntKind.i64.wrap (IntKind.i64.wrap (y1-y0)*IntKind.i64.wrap (x2-x0)))))
def G43 (x0:Int) (y0:Int) (x1:Int) (y1:Int) (x2:Int) (y2:Int):Option (Int):=T43 some x0 y0 x1 y1 x2 y2
theorem t43 (x0:Int) (y0:Int) (x1:Int) (y1:Int) (x2:Int) (y2:Int) (r:Int) (h:G43 x0 y0 x1 y1 x2 y2=some r):AY Tryz.prog Tryz.f43.results.toList [.code (AR Tryz.f43)] (start Tryz.f43.ntmps ([F.agg [F.int .i64 x0,F.int .i64 y0],F.agg [F.int .i64 x1,F.int .i64 y1],F.agg [F.int .i64 x2,F.int .i64 y2]].map .f)) (F.int .i64 r):=by
 refine AY.of_run Ap D3 (T:=[]) (n:=200) ?_
 refine gE (Y:=T43 (fun r=>some (.ret (F.int .i64 r))) x0 y0 x1 y1 x2 y2) (by kernel_rfl) ?_
 exact gR (by cases h;rfl)
/-! ### function 52 -/
def T52 {ρ:Type} (ret:N9 ρ) (x0:Int) (y0:Int) (x1:Int) (y1:Int) (x2:Int) (y2:Int):Option ρ :=
 (AC (decide (IntKind.i64.wrap (IntKind.i64.wrap (IntKind.i64.wrap (x1-x0)*IntKind.i64.wrap (y2-y0))-IntKind.i64.wrap (IntKind.i64.wrap (y1-y0)*IntKind.i64.wrap (x2-x0)))<0))
 (ret (-1))
 (AC (decide (IntKind.i64.wrap (IntKind.i64.wrap (IntKind.i64.wrap (x1-x0)*IntKind.i64.wrap (y2-y0))-IntKind.i64.wrap (IntKind.i64.wrap (y1-y0)*IntKind.i64.wrap (x2-x0))) > 0))
 (ret (1))
 (ret (0))))
def G52 (x0:Int) (y0:Int) (x1:Int) (y1:Int) (x2:Int) (y2:Int):Option (Int):=T52 some x0 y0 x1 y1 x2 y2
theorem t52 (x0:Int) (y0:Int) (x1:Int) (y1:Int) (x2:Int) (y2:Int) (r:Int) (h:G52 x0 y0 x1 y1 x2 y2=some r):AY Tryz.prog Tryz.f52.results.toList [.code (AR Tryz.f52)] (start Tryz.f52.ntmps ([F.agg [F.int .i64 x0,F.int .i64 y0],F.agg [F.int .i64 x1,F.int .i64 y1],F.agg [F.int .i64 x2,F.int .i64 y2]].map .f)) (F.int .i64 r):=by
 refine AY.of_run Ap D3 (T:=[]) (n:=200) ?_
 refine gE (Y:=T52 (fun r=>some (.ret (F.int .i64 r))) x0 y0 x1 y1 x2 y2) (by kernel_rfl) ?_
 exact (gS h (fun _ h=>gR (by cases h;rfl)) (fun _ h=>(gS h (fun _ h=>gR (by cases h;rfl)) (fun _ h=>gR (by cases h;rfl)))))
def bW:List F→Bool | [.int .i64 _,.int .i64 _,.int .i64 _]=>true | _=>false
def pre1i:List F→Bool | [.int .i64 _]=>true | _=>false
def bX:List F→Bool | [.agg [.int .i64 _,.int .i64 _]]=>true | _=>false
def J4:List F→Bool | [.agg [.int .i64 _,.int .i64 _],.agg [.int .i64 _,.int .i64 _]]=>true | _=>false
def bV:List F→Bool | [.agg [.int .i64 _,.int .i64 _],.agg [.int .i64 _,.int .i64 _],.agg [.int .i64 _,.int .i64 _]]=>true | _=>false
def inV (a lo hi:Int):Bool:=decide (lo≤a)&&decide (a≤hi)
def bB:List F→F | [.int .i64 a,.int .i64 b,.int .i64 c]=>.bool (inV a b c) | _=>.dflt
theorem nK (a b c:Int):G117 a b c=some (inV a b c):=by
 unfold G117 T117 inV
 have e:decide (a ≥ b)=decide (b≤a):=rfl
 rw [e]
 cases decide (b≤a) <;> rfl
theorem nL (a b c:Int):G66 a b c=some (inV a b c):=by
 unfold G66 T66 inV
 cases decide (b≤a) <;> rfl
theorem okIn:Ai Tryz.prog 117 bW bB :=
 Bm (c:=AR Tryz.f117) Tryz.func117 (by kernel_rfl) (by kernel_rfl) fun xs hp=>match xs,hp with
 | [.int .i64 a,.int .i64 b,.int .i64 c],hp=>t117 a b c _ (nK a b c)
theorem lO:Ai Tryz.prog 66 bW bB :=
 Bm (c:=AR Tryz.f66) Tryz.func66 (by kernel_rfl) (by kernel_rfl) fun xs hp=>match xs,hp with
 | [.int .i64 a,.int .i64 b,.int .i64 c],hp=>t66 a b c _ (nL a b c)
def B1 (x0 y0 x1 y1:Int):Bool:=decide (x0<x1) || (x0==x1&&decide (y0<y1))
theorem ZG (x0 y0 x1 y1:Int):G53 x0 y0 x1 y1=some (B1 x0 y0 x1 y1):=by
 unfold G53 T53 B1
 cases decide (x0<x1) <;> cases (x0==x1) <;> rfl
def TC:List F→F | [.agg [.int .i64 a,.int .i64 b],.agg [.int .i64 c,.int .i64 d]]=>.bool (B1 a b c d) | _=>.dflt
theorem lY:Ai Tryz.prog 53 J4 TC :=
 Bm (c:=AR Tryz.f53) Tryz.func53 (by kernel_rfl) (by kernel_rfl) fun xs hp=>match xs,hp with
 | [.agg [.int .i64 a,.int .i64 b],.agg [.int .i64 c,.int .i64 d]],hp=>t53 a b c d _ (ZG a b c d)
def EH (x0 y0 x1 y1:Int):Int:=bif x0==x1&&y0==y1 then 0 else bif B1 x0 y0 x1 y1 then -1 else 1
theorem iN (x0 y0 x1 y1:Int):G44 x0 y0 x1 y1=some (EH x0 y0 x1 y1):=by
 unfold G44 T44 EH B1
 rw [Bool.and_true]
 cases (x0==x1) <;> cases (y0==y1) <;> cases decide (x0<x1) <;> cases decide (y0<y1) <;> rfl
def kW:List F→F | [.agg [.int .i64 a,.int .i64 b],.agg [.int .i64 c,.int .i64 d]]=>.int .i64 (EH a b c d) | _=>.dflt
theorem okCmp:Ai Tryz.prog 44 J4 kW :=
 Bm (c:=AR Tryz.f44) Tryz.func44 (by kernel_rfl) (by kernel_rfl) fun xs hp=>match xs,hp with
 | [.agg [.int .i64 a,.int .i64 b],.agg [.int .i64 c,.int .i64 d]],hp=>t44 a b c d _ (iN a b c d)
def HJ (n:Int):Int:=bif decide (n<0) then -1 else bif decide (n > 0) then 1 else 0
theorem Yd (n:Int):G46 n=some (HJ n):=by
 unfold G46 T46 HJ
 cases decide (n<0) <;> cases decide (n > 0) <;> rfl
def aT:List F→F | [.int .i64 n]=>.int .i64 (HJ n) | _=>.dflt
theorem okSign:Ai Tryz.prog 46 pre1i aT :=
 Bm (c:=AR Tryz.f46) Tryz.func46 (by kernel_rfl) (by kernel_rfl) fun xs hp=>match xs,hp with
 | [.int .i64 n],hp=>t46 n _ (Yd n)
def AE (x0 y0 x1 y1 x2 y2:Int):Int:=IntKind.i64.wrap (IntKind.i64.wrap (IntKind.i64.wrap (x1-x0)*IntKind.i64.wrap (y2-y0))-IntKind.i64.wrap (IntKind.i64.wrap (y1-y0)*IntKind.i64.wrap (x2-x0)))
def WH:List F→F | [.agg [.int .i64 a,.int .i64 b],.agg [.int .i64 c,.int .i64 d],.agg [.int .i64 e,.int .i64 f]]=>.int .i64 (AE a b c d e f) | _=>.dflt
theorem okCross:Ai Tryz.prog 43 bV WH :=
 Bm (c:=AR Tryz.f43) Tryz.func43 (by kernel_rfl) (by kernel_rfl) fun xs hp=>match xs,hp with
 | [.agg [.int .i64 a,.int .i64 b],.agg [.int .i64 c,.int .i64 d],.agg [.int .i64 e,.int .i64 f]],hp=>t43 a b c d e f _ rfl
def HH (x0 y0 x1 y1 x2 y2:Int):Int:=HJ (AE x0 y0 x1 y1 x2 y2)
theorem YZ (x0 y0 x1 y1 x2 y2:Int):G52 x0 y0 x1 y1 x2 y2=some (HH x0 y0 x1 y1 x2 y2):=by
 unfold G52 T52 HH HJ AE
 generalize IntKind.i64.wrap (IntKind.i64.wrap (IntKind.i64.wrap (x1-x0)*IntKind.i64.wrap (y2-y0))-IntKind.i64.wrap (IntKind.i64.wrap (y1-y0)*IntKind.i64.wrap (x2-x0)))=n
 cases decide (n<0) <;> cases decide (n > 0) <;> rfl
def aQ:List F→F | [.agg [.int .i64 a,.int .i64 b],.agg [.int .i64 c,.int .i64 d],.agg [.int .i64 e,.int .i64 f]]=>.int .i64 (HH a b c d e f) | _=>.dflt
theorem okTurn:Ai Tryz.prog 52 bV aQ :=
 Bm (c:=AR Tryz.f52) Tryz.func52 (by kernel_rfl) (by kernel_rfl) fun xs hp=>match xs,hp with
 | [.agg [.int .i64 a,.int .i64 b],.agg [.int .i64 c,.int .i64 d],.agg [.int .i64 e,.int .i64 f]],hp=>t52 a b c d e f _ (YZ a b c d e f)
def envW1:Env:=((((((env0.add 117 (.pure bW bB)).add 66 (.pure bW bB)).add 53 (.pure J4 TC)).add 44 (.pure J4 kW)).add 46 (.pure pre1i aT)).add 43 (.pure bV WH)).add 52 (.pure bV aQ)
theorem QN:Ax Tryz.prog envW1:=(Env.add_ok (Env.add_ok (Env.add_ok (Env.add_ok (Env.add_ok (Env.add_ok (Env.add_ok D3 okIn.sp) lO.sp) lY.sp) okCmp.sp) okSign.sp) okCross.sp) okTurn.sp)
/-! ### function 96 -/
def T96 {ρ:Type} (ret:RL ρ) (x0:Int) (y0:Int):Option ρ :=
 (AC (inV x0 (-1000000) 1000000==true)
 (ret (inV y0 (-1000000) 1000000))
 (ret (false)))
def G96 (x0:Int) (y0:Int):Option (Bool):=T96 some x0 y0
theorem t96 (x0:Int) (y0:Int) (r:Bool) (h:G96 x0 y0=some r):AY Tryz.prog Tryz.f96.results.toList [.code (AR Tryz.f96)] (start Tryz.f96.ntmps ([F.agg [F.int .i64 x0,F.int .i64 y0]].map .f)) (F.bool r):=by
 refine AY.of_run Ap QN (T:=[]) (n:=200) ?_
 refine gE (Y:=T96 (fun r=>some (.ret (F.bool r))) x0 y0) (by kernel_rfl) ?_
 exact (gS h (fun _ h=>gR (by cases h;rfl)) (fun _ h=>gR (by cases h;rfl)))
/-! ### function 37 -/
def T37 {ρ:Type} (ret:RL ρ) (x0:Int) (y0:Int):Option ρ :=
 (AC (inV x0 (-1000000) 1000000==true)
 (ret (inV y0 (-1000000) 1000000))
 (ret (false)))
def G37 (x0:Int) (y0:Int):Option (Bool):=T37 some x0 y0
theorem t37 (x0:Int) (y0:Int) (r:Bool) (h:G37 x0 y0=some r):AY Tryz.prog Tryz.f37.results.toList [.code (AR Tryz.f37)] (start Tryz.f37.ntmps ([F.agg [F.int .i64 x0,F.int .i64 y0]].map .f)) (F.bool r):=by
 refine AY.of_run Ap QN (T:=[]) (n:=200) ?_
 refine gE (Y:=T37 (fun r=>some (.ret (F.bool r))) x0 y0) (by kernel_rfl) ?_
 exact (gS h (fun _ h=>gR (by cases h;rfl)) (fun _ h=>gR (by cases h;rfl)))
def BQ (x y:Int):Bool:=inV x (-1000000) 1000000&&inV y (-1000000) 1000000
theorem Vd (x y:Int):G96 x y=some (BQ x y):=by
 unfold G96 T96 BQ
 cases inV x (-1000000) 1000000 <;> rfl
theorem Ve (x y:Int):G37 x y=some (BQ x y):=by
 unfold G37 T37 BQ
 cases inV x (-1000000) 1000000 <;> rfl
def Kr:List F→F | [.agg [.int .i64 x,.int .i64 y]]=>.bool (BQ x y) | _=>.dflt
theorem fN:Ai Tryz.prog 96 bX Kr :=
 Bm (c:=AR Tryz.f96) Tryz.func96 (by kernel_rfl) (by kernel_rfl) fun xs hp=>match xs,hp with
 | [.agg [.int .i64 x,.int .i64 y]],hp=>t96 x y _ (Vd x y)
theorem fO:Ai Tryz.prog 37 bX Kr :=
 Bm (c:=AR Tryz.f37) Tryz.func37 (by kernel_rfl) (by kernel_rfl) fun xs hp=>match xs,hp with
 | [.agg [.int .i64 x,.int .i64 y]],hp=>t37 x y _ (Ve x y)
theorem ET {x y:Int}:BQ x y=true ↔ -1000000≤x∧x≤1000000∧-1000000≤y∧y≤1000000:=by
 simp only [BQ,inV,Bool.and_eq_true,decide_eq_true_eq]
 omega
def envW2:Env:=(envW1.add 96 (.pure bX Kr)).add 37 (.pure bX Kr)
theorem QM:Ax Tryz.prog envW2:=(Env.add_ok (Env.add_ok QN fN.sp) fO.sp)
/-! ### function 4 -/
def T4 {ρ:Type} (ret:RL ρ) (a0:ByteArray):Option ρ :=
 (ret (decide ((↑a0.size:Int) > 1048576)))
def G4 (a0:ByteArray):Option (Bool):=T4 some a0
theorem t4 (a0:ByteArray) (r:Bool) (h:G4 a0=some r):AY Tryz.prog Tryz.f4.results.toList [.code (AR Tryz.f4)] (start Tryz.f4.ntmps ([AB a0].map .f)) (F.bool r):=by
 refine AY.of_run Ap D3 (T:=[]) (n:=200) ?_
 refine gE (Y:=T4 (fun r=>some (.ret (F.bool r))) a0) (by kernel_rfl) ?_
 exact gR (by cases h;rfl)
/-! ### function 61 -/
def T61 {ρ:Type} (ret:(Int)→(Int)→Option ρ) (s:ByteArray) (p:Int):Option ρ :=
 (AC (decide (p ≥ (↑s.size:Int)))
 (ret (0) (p))
 (AC (decide (0≤IntKind.i64.wrap (IntKind.i64.wrap (p+1)-1)))
 (AC (decide (IntKind.i64.wrap (IntKind.i64.wrap (p+1)-1)<(↑s.size:Int)))
 (ret (IntKind.i64.wrap (B5 s (↑(IntKind.i64.wrap (IntKind.i64.wrap (p+1)-1)).toNat:Int))) (IntKind.i64.wrap (p+1)))
 none)
 none))
def G61 (s:ByteArray) (p:Int):Option ((Int) × (Int)):=T61 (fun r q=>some (r,q)) s p
theorem t61 (s:ByteArray) (p:Int) (r:Int) (q:Int) (h:G61 s p=some (r,q)):CL Tryz.prog 1 Tryz.f61.results.toList [.code (AR Tryz.f61)] (CU Tryz.f61.ntmps [U.hp 0 0] [HO.box [U.f (AB s),U.f (F.int .i64 p)]]) (F.tup [F.int .i64 r,F.agg [AB s,F.int .i64 q]]):=by
 refine AY.of_run Ap D3 (T:=[]) (n:=200) ?_
 refine gE (Y:=T61 (fun r q=>some (.ret (F.tup [F.int .i64 r,F.agg [AB s,F.int .i64 q]]))) s p) (by kernel_rfl) ?_
 exact (gS h (fun _ h=>gR (by cases h;rfl)) (fun _ h=>(gS h (fun _ h=>(gS h (fun _ h=>gR (by cases h;rfl)) gN)) gN)))
/-! ### function 11 -/
def T11 {ρ:Type} (ret:N9 ρ) (a0:ByteArray):Option ρ :=
 (ret (0))
def G11 (a0:ByteArray):Option (Int):=T11 some a0
theorem t11 (a0:ByteArray) (r:Int) (h:G11 a0=some r):AY Tryz.prog [ResultVar.cell 2 66] [.code (AR Tryz.f11)] (start Tryz.f11.ntmps ([AB a0].map .f)) (F.agg [AB a0,F.int .i64 r]):=by
 refine AY.of_run Ap D3 (T:=[]) (n:=200) ?_
 refine gE (Y:=T11 (fun r=>some (.ret (F.agg [AB a0,F.int .i64 r]))) a0) (by kernel_rfl) ?_
 exact gR (by cases h;rfl)
theorem E1 {x:Int} (h0:-9223372036854775808≤x) (h1:x≤9223372036854775807):IntKind.i64.wrap x=x:=by
 unfold IntKind.wrap
 simp [IntKind.bits,IntKind.signed]
 omega
def preB:List F→Bool | [b]=>Af b | _=>false
theorem okBig:EJ Tryz.prog 4 (.pure preB (fun xs=>match xs with | [b]=>.bool (decide (((AA b).size:Int) > 1048576)) | _=>.bool false)) :=
 Ae (c:=AR Tryz.f4) Tryz.func4 (by kernel_rfl) (by kernel_rfl) fun xs hp=>match xs,hp with
 | [b],hp=>⟨[AB (AA b)],_,⟨(CC hp).1,trivial⟩,t4 (AA b) _ rfl,.refl _⟩
def A9 (s:ByteArray) (p:Int):Bool:=decide (0≤p∧p≤s.size∧s.size≤1048576)
theorem MS {s:ByteArray} {p:Int}:A9 s p=true ↔ 0≤p∧p≤s.size∧s.size≤1048576:=by simp [A9]
def EZ (s:ByteArray) (p:Int):Int × Int:=(G61 s p).getD (0,0)
theorem O4 {s:ByteArray} {p:Int} (h:A9 s p=true):G61 s p=some (EZ s p)∧0≤(EZ s p).1∧(EZ s p).1<256∧A9 s (EZ s p).2=true:=by
 obtain ⟨h1,h2,h3⟩:=MS.1 h
 unfold EZ G61 T61
 by_cases hp:p ≥ s.size
 ·have c1:decide (p ≥ (s.size:Int))=true:=decide_eq_true hp
  simp only [c1,AF,Option.getD_some]
  exact ⟨trivial,by omega,by omega,h⟩
 ·have c1:decide (p ≥ (s.size:Int))=false:=decide_eq_false hp
  have e:IntKind.i64.wrap (IntKind.i64.wrap (p+1)-1)=p:=by rw [E1 (x:=p+1) (by omega) (by omega),E1 (by omega) (by omega)];omega
  have c2:decide (0≤p)=true:=decide_eq_true h1
  have c3:decide (p<(s.size:Int))=true:=decide_eq_true (by omega)
  simp only [c1,e,c2,c3,AF,AJ,Option.getD_some]
  obtain ⟨b1,b2⟩:=Qg s (p.toNat:Int)
  refine ⟨trivial,?_,?_,?_⟩
  ·rw [E1 (by omega) (by omega)];exact b1
  ·rw [E1 (by omega) (by omega)];exact b2
  ·rw [E1 (by omega) (by omega)];exact MS.2 (by omega)
def Q9:List F→Bool
 | [b,.int .i64 p]=>Af b&&A9 (AA b) p
 | _=>false
def rd (V:ByteArray→Int→F × Int):List F→F × List F
 | [b,.int .i64 p]=>((V (AA b) p).1,[b,.int .i64 (V (AA b) p).2])
 | cs=>(.dflt,cs)
theorem IP {cs:List F} (h:Q9 cs=true):∃ b p,cs=[b,.int .i64 p]∧Af b=true∧A9 (AA b) p=true:=by
 unfold Q9 at h
 split at h
 ·simp only [Bool.and_eq_true] at h
  exact ⟨_,_,rfl,h.1,h.2⟩
 ·cases h
theorem okNext:EJ Tryz.prog 61 (MT (fun cs xs=>match xs with | []=>Q9 cs | _=>false) (fun cs xs=>rd (fun s p=>(.int .i64 (EZ s p).1,(EZ s p).2)) cs)) :=
 K1 (c:=AR Tryz.f61) Tryz.func61 (by kernel_rfl) (by kernel_rfl) fun cs xs hp=>by
  cases xs with
  | cons _ _=>cases hp
  | nil =>
   obtain ⟨b,p,rfl,hb,hr⟩:=IP hp
   obtain ⟨h1,_⟩:=O4 hr
   exact ⟨[AB (AA b),.int .i64 p],[],_,_,⟨(CC hb).1,.refl _,trivial⟩,trivial,t61 _ _ _ _ h1,.refl _,⟨(CC hb).2,.refl _,trivial⟩⟩
theorem okOpen:EJ Tryz.prog 11 (mL preB (fun xs=>match xs with | [b]=>[b,.int .i64 0] | _=>[])) :=
 fn_new (c:=AR Tryz.f11) (t:=2) (ty:=66) Tryz.func11 (by kernel_rfl) (by kernel_rfl) (by kernel_rfl) (fun ti h=>by
  have e:(It Tryz.prog 66).map TI.isAgg=some true:=by kernel_rfl
  rw [h] at e
  exact Option.some.inj e) fun xs hp=>match xs,hp with
 | [b],hp=>⟨[AB (AA b)],[AB (AA b),.int .i64 0],⟨(CC hp).1,trivial⟩,t11 (AA b) 0 rfl,⟨(CC hp).2,.refl _,trivial⟩⟩
def envD1:Env:=((env0.add 61 (MT (fun cs xs=>match xs with | []=>Q9 cs | _=>false) (fun cs xs=>rd (fun s p=>(.int .i64 (EZ s p).1,(EZ s p).2)) cs))).add 11 (mL preB (fun xs=>match xs with | [b]=>[b,.int .i64 0] | _=>[]))).add 4 (.pure preB (fun xs=>match xs with | [b]=>.bool (decide (((AA b).size:Int) > 1048576)) | _=>.bool false))
theorem Xl:Ax Tryz.prog envD1:=(Env.add_ok (Env.add_ok (Env.add_ok D3 okNext) okOpen) okBig)
/-! ### function 65 -/
def T65 {ρ:Type} (ret:RL ρ) (x0:Int) (y0:Int) (x1:Int) (y1:Int):Option ρ :=
 (AC (BQ x0 y0==true)
 (AC (BQ x1 y1==true)
 (ret (B1 x0 y0 x1 y1))
 (ret (false)))
 (ret (false)))
def G65 (x0:Int) (y0:Int) (x1:Int) (y1:Int):Option (Bool):=T65 some x0 y0 x1 y1
theorem t65 (x0:Int) (y0:Int) (x1:Int) (y1:Int) (r:Bool) (h:G65 x0 y0 x1 y1=some r):AY Tryz.prog Tryz.f65.results.toList [.code (AR Tryz.f65)] (start Tryz.f65.ntmps ([F.agg [F.int .i64 x0,F.int .i64 y0,F.int .i64 x1,F.int .i64 y1]].map .f)) (F.bool r):=by
 refine AY.of_run Ap QM (T:=[]) (n:=200) ?_
 refine gE (Y:=T65 (fun r=>some (.ret (F.bool r))) x0 y0 x1 y1) (by kernel_rfl) ?_
 exact (gS h (fun _ h=>(gS h (fun _ h=>gR (by cases h;rfl)) (fun _ h=>gR (by cases h;rfl)))) (fun _ h=>gR (by cases h;rfl)))
/-! ### function 69 -/
def T69 {ρ:Type} (ret:RL ρ) (x0:Int) (y0:Int) (x1:Int) (y1:Int):Option ρ :=
 (AC (BQ x0 y0==true)
 (AC (BQ x1 y1==true)
 (ret (decide (EH x0 y0 x1 y1<0)))
 (ret (false)))
 (ret (false)))
def G69 (x0:Int) (y0:Int) (x1:Int) (y1:Int):Option (Bool):=T69 some x0 y0 x1 y1
theorem t69 (x0:Int) (y0:Int) (x1:Int) (y1:Int) (r:Bool) (h:G69 x0 y0 x1 y1=some r):AY Tryz.prog Tryz.f69.results.toList [.code (AR Tryz.f69)] (start Tryz.f69.ntmps ([F.agg [F.int .i64 x0,F.int .i64 y0,F.int .i64 x1,F.int .i64 y1]].map .f)) (F.bool r):=by
 refine AY.of_run Ap QM (T:=[]) (n:=200) ?_
 refine gE (Y:=T69 (fun r=>some (.ret (F.bool r))) x0 y0 x1 y1) (by kernel_rfl) ?_
 exact (gS h (fun _ h=>(gS h (fun _ h=>gR (by cases h;rfl)) (fun _ h=>gR (by cases h;rfl)))) (fun _ h=>gR (by cases h;rfl)))
def BW (x0 y0 x1 y1:Int):Bool:=BQ x0 y0&&(BQ x1 y1&&B1 x0 y0 x1 y1)
theorem qC (x0 y0 x1 y1:Int):decide (EH x0 y0 x1 y1<0)=B1 x0 y0 x1 y1:=by
 unfold EH
 cases h:x0==x1&&y0==y1 with
 | true =>
  simp only [Bool.and_eq_true,beq_iff_eq] at h
  have:B1 x0 y0 x1 y1=false:=by
   simp only [B1,Bool.or_eq_false_iff,Bool.and_eq_false_iff,decide_eq_false_iff_not]
   omega
  rw [this];rfl
 | false=>cases B1 x0 y0 x1 y1 <;> rfl
theorem Yg (x0 y0 x1 y1:Int):G65 x0 y0 x1 y1=some (BW x0 y0 x1 y1):=by
 unfold G65 T65 BW
 cases BQ x0 y0 <;> cases BQ x1 y1 <;> rfl
theorem Yh (x0 y0 x1 y1:Int):G69 x0 y0 x1 y1=some (BW x0 y0 x1 y1):=by
 unfold G69 T69 BW
 rw [qC]
 cases BQ x0 y0 <;> cases BQ x1 y1 <;> rfl
def WW:List F→Bool | [.agg [.int .i64 _,.int .i64 _,.int .i64 _,.int .i64 _]]=>true | _=>false
def J1:List F→F | [.agg [.int .i64 a,.int .i64 b,.int .i64 c,.int .i64 d]]=>.bool (BW a b c d) | _=>.dflt
theorem Wm:Ai Tryz.prog 65 WW J1 :=
 Bm (c:=AR Tryz.f65) Tryz.func65 (by kernel_rfl) (by kernel_rfl) fun xs hp=>match xs,hp with
 | [.agg [.int .i64 a,.int .i64 b,.int .i64 c,.int .i64 d]],hp=>t65 a b c d _ (Yg a b c d)
theorem lS:Ai Tryz.prog 69 WW J1 :=
 Bm (c:=AR Tryz.f69) Tryz.func69 (by kernel_rfl) (by kernel_rfl) fun xs hp=>match xs,hp with
 | [.agg [.int .i64 a,.int .i64 b,.int .i64 c,.int .i64 d]],hp=>t69 a b c d _ (Yh a b c d)
def envW3:Env:=(envW2.add 65 (.pure WW J1)).add 69 (.pure WW J1)
theorem KL:Ax Tryz.prog envW3:=(Env.add_ok (Env.add_ok QM Wm.sp) lS.sp)
structure Sg where
 x0:Int
 y0:Int
 x1:Int
 y1:Int
def Sg.zero:Sg:=⟨0,0,0,0⟩
def sgF (s:Sg):F:=.agg [.int .i64 s.x0,.int .i64 s.y0,.int .i64 s.x1,.int .i64 s.y1]
def Na:F→Bool
 | .agg [.int .i64 _,.int .i64 _,.int .i64 _,.int .i64 _]=>true
 | _=>false
def YW:F→Sg
 | .agg [.int .i64 a,.int .i64 b,.int .i64 c,.int .i64 d]=>⟨a,b,c,d⟩
 | _=>.zero
def BL (l:List Sg):F:=slF sgF .zero l
def Cr (x:F):Bool:=Ci Na x
def B6 (x:F):List Sg:=D8 YW x
theorem Dt (l:List Sg):B6 (BL l)=l:=Jp (fun _=>rfl) l
theorem C2 (l:List Sg):Cr (BL l)=true:=KG l fun _ _=>rfl
theorem sg_eq {x:F} (h:Na x=true):sgF (YW x)=x:=by
 unfold Na at h
 split at h
 ·rfl
 ·cases h
theorem Ek {x:F} (hx:Cr x=true):FLe x (BL (B6 x))∧FLe (BL (B6 x)) x:=MH (fun _ h=>sg_eq h) hx
theorem atSegs {n:Nat} {g:Nat→F} (h:Cr (.sl n g)=true) {j:Nat} (hj:j<n):g j=sgF ((B6 (.sl n g)).getD j Sg.zero):=sl_at Sg.zero (fun _ h=>sg_eq h) h hj
/-! ### function 51 -/
def rP (l:List Sg) (x3:Int):St:=⟨(U.f (BL l)) :: Ag 2 ((U.f (F.int .i64 x3)) :: Ag 15 []),[]⟩
def YB {ρ:Type} (ret:N9 ρ) (c4:(List Sg)→(Int)→Option ρ) (l:List Sg) (x3:Int):Option ρ :=
 (AC (decide (x3<(↑l.length:Int)))
 (AC (decide (0≤x3))
 (AC (decide (x3<(↑l.length:Int)))
 (AC (!BW (l.getD x3.toNat Sg.zero).x0 (l.getD x3.toNat Sg.zero).y0 (l.getD x3.toNat Sg.zero).x1 (l.getD x3.toNat Sg.zero).y1)
 (ret (2))
 (c4 (l) (IntKind.i64.wrap (x3+1))))
 none)
 none)
 (ret (0)))
def Og:Nat→(List Sg)→(Int)→Option (Int)
 | 0,_,_=>none
 | k+1,l,x3=>YB some (Og k) l x3
def T51 {ρ:Type} (ret:N9 ρ) (c4:(List Sg)→(Int)→Option ρ) (l:List Sg):Option ρ :=
 (AC (decide ((↑l.length:Int) > 40))
 (ret (1))
 (c4 (l) (0)))
def G51 (k:Nat) (l:List Sg):Option (Int):=T51 some (Og k) l
theorem t51_4:∀ (k:Nat) (l:List Sg) (x3:Int) (r:Int),Og k l x3=some r→AY Tryz.prog Tryz.f51.results.toList (at_ Tryz.f51 4) (rP l x3) (F.int .i64 r)
 | 0,_,_,_,h=>nomatch h
 | k+1,l,x3,r,h=>by
  refine AY.of_cut Ap KL (T:=[(4,[0,3],0)]) (n:=200) ?_
  refine gE (Y:=YB (fun r=>some (.ret (F.int .i64 r))) (fun l x3=>some (.cut (at_ Tryz.f51 4) (rP l x3))) l x3) (by kernel_rfl) ?_
  exact (gS h (fun _ h=>(gS h (fun _ h=>(gS h (fun _ h=>(gS h (fun _ h=>gR (by cases h;rfl)) (fun _ h=>gC (t51_4 k _ _ r h)))) gN)) gN)) (fun _ h=>gR (by cases h;rfl)))
theorem t51 (k:Nat) (l:List Sg) (r:Int) (h:G51 k l=some r):AY Tryz.prog Tryz.f51.results.toList [.code (AR Tryz.f51)] (start Tryz.f51.ntmps ([BL l].map .f)) (F.int .i64 r):=by
 refine AY.of_run Ap KL (T:=[(4,[0,3],0)]) (n:=200) ?_
 refine gE (Y:=T51 (fun r=>some (.ret (F.int .i64 r))) (fun l x3=>some (.cut (at_ Tryz.f51 4) (rP l x3))) l) (by kernel_rfl) ?_
 exact (gS h (fun _ h=>gR (by cases h;rfl)) (fun _ h=>gC (t51_4 k _ _ r h)))
/-! ### function 41 -/
def rQ (l:List Sg) (x10:Int):St:=⟨Ag 8 ((U.f (BL l)) :: (U.f (F.int .i64 l.length)) :: (U.f (F.int .i64 x10)) :: Ag 7 []),[]⟩
def qY {ρ:Type} (ret:N9 ρ) (c4:(List Sg)→(Int)→Option ρ) (l:List Sg) (x10:Int):Option ρ :=
 (AC (decide (x10<(↑l.length:Int)))
 (AC (decide (0≤x10))
 (AC (decide (x10<(↑l.length:Int)))
 (AC (!BW (l.getD x10.toNat Sg.zero).x0 (l.getD x10.toNat Sg.zero).y0 (l.getD x10.toNat Sg.zero).x1 (l.getD x10.toNat Sg.zero).y1)
 (ret (2))
 (c4 (l) (IntKind.i64.wrap (x10+1))))
 none)
 none)
 (ret (0)))
def YI:Nat→(List Sg)→(Int)→Option (Int)
 | 0,_,_=>none
 | k+1,l,x10=>qY some (YI k) l x10
def T41 {ρ:Type} (ret:N9 ρ) (c4:(List Sg)→(Int)→Option ρ) (l:List Sg):Option ρ :=
 (AC (decide ((↑l.length:Int) > 40))
 (ret (1))
 (c4 (l) (0)))
def G41 (k:Nat) (l:List Sg):Option (Int):=T41 some (YI k) l
theorem t41_4:∀ (k:Nat) (l:List Sg) (x10:Int) (r:Int),YI k l x10=some r→AY Tryz.prog Tryz.f41.results.toList (at_ Tryz.f41 4) (rQ l x10) (F.int .i64 r)
 | 0,_,_,_,h=>nomatch h
 | k+1,l,x10,r,h=>by
  refine AY.of_cut Ap KL (T:=[(4,[8,9,10],0)]) (n:=200) ?_
  refine gE (Y:=qY (fun r=>some (.ret (F.int .i64 r))) (fun l x10=>some (.cut (at_ Tryz.f41 4) (rQ l x10))) l x10) (by kernel_rfl) ?_
  exact (gS h (fun _ h=>(gS h (fun _ h=>(gS h (fun _ h=>(gS h (fun _ h=>gR (by cases h;rfl)) (fun _ h=>gC (t41_4 k _ _ r h)))) gN)) gN)) (fun _ h=>gR (by cases h;rfl)))
theorem t41 (k:Nat) (l:List Sg) (r:Int) (h:G41 k l=some r):AY Tryz.prog Tryz.f41.results.toList [.code (AR Tryz.f41)] (start Tryz.f41.ntmps ([BL l].map .f)) (F.int .i64 r):=by
 refine AY.of_run Ap KL (T:=[(4,[8,9,10],0)]) (n:=200) ?_
 refine gE (Y:=T41 (fun r=>some (.ret (F.int .i64 r))) (fun l x10=>some (.cut (at_ Tryz.f41 4) (rQ l x10))) l) (by kernel_rfl) ?_
 exact (gS h (fun _ h=>gR (by cases h;rfl)) (fun _ h=>gC (t41_4 k _ _ r h)))
def NH (s:Sg):Bool:=BW s.x0 s.y0 s.x1 s.y1
def Dn (l:List Sg):Int:=bif decide ((l.length:Int) > 40) then 1 else bif l.all NH then 0 else 2
theorem Rd (l:List Sg) (hl:l.length≤40):∀ (d i:Nat),i+d=l.length→Og (d+1) l i=some (bif (l.drop i).all NH then 0 else 2)
 | 0,i,h=>by
  have c1:decide ((i:Int)<(l.length:Int))=false:=decide_eq_false (by omega)
  simp only [Og,YB,c1,AJ]
  rw [List.drop_eq_nil_of_le (by omega)]
  rfl
 | d+1,i,h=>by
  have hi:i<l.length:=by omega
  have c1:decide ((i:Int)<(l.length:Int))=true:=decide_eq_true (by omega)
  have c2:decide (0≤(i:Int))=true:=decide_eq_true (by omega)
  have hw:IntKind.i64.wrap ((i:Int)+1)=((i+1:Nat):Int):=by rw [E1 (by omega) (by omega)];omega
  have hg:l.getD i Sg.zero=l[i]:=by simp [List.getD,List.getElem?_eq_getElem hi]
  rw [Og]
  simp only [YB,c1,c2,hw,Rd l hl d (i+1) (by omega),AF,Int.toNat_natCast,hg]
  rw [List.drop_eq_getElem_cons hi,List.all_cons]
  unfold NH
  cases BW l[i].x0 l[i].y0 l[i].x1 l[i].y1 <;> rfl
theorem Rc (l:List Sg):∀ (k:Nat) (x:Int),YI k l x=Og k l x
 | 0,_=>rfl
 | k+1,x=>by
  rw [YI,Og]
  simp only [qY,YB,Rc l k]
theorem Jy (l:List Sg):G51 (l.length+1) l=some (Dn l):=by
 unfold G51 T51 Dn
 by_cases h:(l.length:Int) > 40
 ·rw [decide_eq_true h];rfl
 ·rw [decide_eq_false h]
  exact Rd l (by omega) l.length 0 (by omega)
theorem PY (l:List Sg):G41 (l.length+1) l=some (Dn l):=by
 rw [← Jy]
 unfold G51 T51 G41 T41
 rw [Rc]
def EO:List F→Bool | [x]=>Cr x | _=>false
def Gv:List F→F | [x]=>.int .i64 (Dn (B6 x)) | _=>.dflt
theorem TR:Ai Tryz.prog 51 EO Gv :=
 Ae (c:=AR Tryz.f51) Tryz.func51 (by kernel_rfl) (by kernel_rfl) fun xs hp=>match xs,hp with
 | [x],hp=>⟨[BL (B6 x)],_,⟨(Ek hp).1,trivial⟩,t51 _ _ _ (Jy _),.refl _⟩
theorem TS:Ai Tryz.prog 41 EO Gv :=
 Ae (c:=AR Tryz.f41) Tryz.func41 (by kernel_rfl) (by kernel_rfl) fun xs hp=>match xs,hp with
 | [x],hp=>⟨[BL (B6 x)],_,⟨(Ek hp).1,trivial⟩,t41 _ _ _ (PY _),.refl _⟩
def envW4:Env:=(envW3.add 51 (.pure EO Gv)).add 41 (.pure EO Gv)
theorem QL:Ax Tryz.prog envW4:=(Env.add_ok (Env.add_ok KL TR.sp) TS.sp)
/-! ### function 24 -/
def T24 {ρ:Type} (ret:RL ρ) (l:List Sg):Option ρ :=
 (AC (Cr (BL l))
 (ret (Dn (B6 (BL l))==0))
 none)
def G24 (l:List Sg):Option (Bool):=T24 some l
theorem t24 (l:List Sg) (r:Bool) (h:G24 l=some r):AY Tryz.prog Tryz.f24.results.toList [.code (AR Tryz.f24)] (start Tryz.f24.ntmps ([BL l].map .f)) (F.bool r):=by
 refine AY.of_run Ap QL (T:=[]) (n:=200) ?_
 refine gE (Y:=T24 (fun r=>some (.ret (F.bool r))) l) (by kernel_rfl) ?_
 exact (gS h (fun _ h=>gR (by cases h;rfl)) gN)
/-! ### function 21 -/
def T21 {ρ:Type} (ret:RL ρ) (l:List Sg):Option ρ :=
 (AC (Cr (BL l))
 (ret (Dn (B6 (BL l))==0))
 none)
def G21 (l:List Sg):Option (Bool):=T21 some l
theorem t21 (l:List Sg) (r:Bool) (h:G21 l=some r):AY Tryz.prog Tryz.f21.results.toList [.code (AR Tryz.f21)] (start Tryz.f21.ntmps ([BL l].map .f)) (F.bool r):=by
 refine AY.of_run Ap QL (T:=[]) (n:=200) ?_
 refine gE (Y:=T21 (fun r=>some (.ret (F.bool r))) l) (by kernel_rfl) ?_
 exact (gS h (fun _ h=>gR (by cases h;rfl)) gN)
def EL (l:List Sg):Bool:=Dn l==0
theorem Vq (l:List Sg):G24 l=some (EL l):=by
 unfold G24 T24 EL
 simp only [C2,Dt,AF]
theorem Vr (l:List Sg):G21 l=some (EL l):=by
 unfold G21 T21 EL
 simp only [C2,Dt,AF]
theorem LX {l:List Sg}:EL l=true ↔ l.length≤40∧∀ s ∈ l,NH s=true:=by
 unfold EL Dn
 by_cases h:(l.length:Int) > 40
 ·rw [decide_eq_true h];simp;omega
 ·rw [decide_eq_false h,cond_false]
  cases ha:l.all NH with
  | true=>rw [List.all_eq_true] at ha;simp;exact ⟨by omega,ha⟩
  | false =>
   simp only [cond_false,beq_iff_eq]
   constructor
   ·intro h;cases h
   ·intro h;rw [List.all_eq_true.2 h.2] at ha;cases ha
def Ks:List F→F | [x]=>.bool (EL (B6 x)) | _=>.dflt
theorem fP:Ai Tryz.prog 24 EO Ks :=
 Ae (c:=AR Tryz.f24) Tryz.func24 (by kernel_rfl) (by kernel_rfl) fun xs hp=>match xs,hp with
 | [x],hp=>⟨[BL (B6 x)],_,⟨(Ek hp).1,trivial⟩,t24 _ _ (Vq _),.refl _⟩
theorem fQ:Ai Tryz.prog 21 EO Ks :=
 Ae (c:=AR Tryz.f21) Tryz.func21 (by kernel_rfl) (by kernel_rfl) fun xs hp=>match xs,hp with
 | [x],hp=>⟨[BL (B6 x)],_,⟨(Ek hp).1,trivial⟩,t21 _ _ (Vr _),.refl _⟩
def oE:Env:=(envW4.add 24 (.pure EO Ks)).add 21 (.pure EO Ks)
theorem EG:Ax Tryz.prog oE:=(Env.add_ok (Env.add_ok QL fP.sp) fQ.sp)
section
variable {P:Program} {w:World} {Z:Nat→Prop} {m:Nat→Nat} {H:List HO} {d:Bool}
inductive OwnLe:F→F→Prop
 | nil:OwnLe (.tup []) (.tup [])
 | obj (k:IntKind) (sz:Int) (n:Nat) (g g':Nat→F) (h:∀ j,j<n→g j=g' j):OwnLe (.tup [.int k sz,.sl n g]) (.tup [.int k sz,.sl n g'])
 | dat (x:F) (h:Be x=true):OwnLe x x
def IB:List F→List F→Prop
 | [],[]=>True
 | x :: xs,y :: ys=>OwnLe x y∧IB xs ys
 | _,_=>False
theorem ZQ {n:Nat} {g:Nat→F} (h:H8 n g=true) {i:Nat} (hi:i<n):Gp (g i)=true:=by
 unfold H8 at h
 exact List.all_eq_true.1 h i (List.mem_range.2 hi)
theorem LY:∀ (cs:List F),S8 cs=true→∀ (j:Nat) (u:F),cs[j]?=some u→Gp u=true
 | [],_,j,u,hu=>by simp at hu
 | c :: cs,h,j,u,hu=>by
  simp only [S8,Bool.and_eq_true] at h
  cases j with
  | zero=>simp at hu;exact hu ▸ h.1
  | succ j=>simp at hu;exact LY cs h.2 j u hu
theorem Vs {x:F} (h:Gp x=true) {j:Nat} {u:F} (hu:x.cells[j]?=some u):Gp u=true:=by
 cases x with
 | agg cs=>exact LY cs (by simpa [Gp] using h) j u hu
 | _ =>
  cases j with
  | zero=>simp [F.cells] at hu;rw [← hu];exact h
  | succ j=>simp [F.cells] at hu
theorem RepF.scal0_any {w w':World} {Z Z':Nat→Prop} {x:F} {v:Value} (h:RepF w Z x v):Gp x=true→RepF w' Z' x v:=by
 induction h with
 | bool b=>intro _;exact .bool b
 | int k n=>intro _;exact .int k n
 | str s=>intro _;exact .str s
 | sl n g A c sz a V hc hs hk hA hV hr ih =>
  intro h
  have h0:n=0:=Nat.eq_of_beq_eq_true (by simpa [Gp] using h)
  subst h0
  exact .sl 0 g A c sz a V hc hs hk (fun h=>absurd rfl h) (fun i j u hi=>by omega) (fun i j u hi=>by omega)
 | cl n g v h h0 ih=>intro h';exact .cl n g v (ih (by simpa [Gp] using h')) h0
 | agg cs vs hl hr ih=>intro h;exact .agg cs vs hl fun j u v hu hv=>ih j u v hu hv (LY cs (by simpa [Gp] using h) j u hu)
 | tup cs vs hl hr ih=>intro h;simp [Gp] at h
theorem Wd:∀ (us:List U) (es:List F),E0 d H us=some es→us.length=es.length∧∀ (j:Nat) (u:U),us[j]?=some u→∃ e,es[j]?=some e∧Hf d H u=some e
 | [],es,h=>by simp only [E0,Option.some.injEq] at h;subst h;exact ⟨rfl,fun j u hu=>by simp at hu⟩
 | u :: us,es,h=>by
  simp only [E0] at h
  split at h
  ·rename_i x xs hx hxs
   cases h
   obtain ⟨h1,h2⟩:=Wd us xs hxs
   refine ⟨by simp [h1],fun j v hv=>?_⟩
   cases j with
   | zero=>simp at hv;subst hv;exact ⟨x,rfl,hx⟩
   | succ j=>simp at hv;obtain ⟨e,h3,h4⟩:=h2 j v hv;exact ⟨e,by simpa using h3,h4⟩
  ·cases h
theorem Pm:∀ {es fs:List F},IB es fs→es.length=fs.length∧∀ (j:Nat) (e:F),es[j]?=some e→∃ f,fs[j]?=some f∧OwnLe e f
 | [],[],_=>⟨rfl,fun j e h=>by simp at h⟩
 | x :: xs,y :: ys,h=>by
  obtain ⟨h1,h2⟩:=Pm h.2
  refine ⟨by simp [h1],fun j e he=>?_⟩
  cases j with
  | zero=>simp at he;subst he;exact ⟨y,rfl,h.1⟩
  | succ j=>simp at he;obtain ⟨f,h3,h4⟩:=h2 j e he;exact ⟨f,by simpa using h3,h4⟩
 | [],_ :: _,h=>h.elim
 | _ :: _,[],h=>h.elim
theorem Ry {x:F} (h:Be x=true) (es:List F):Cx (x :: es)=Cx es:=by
 cases x <;> first | rfl | simp [Be] at h
theorem Wc:∀ (us:List U) (es fs:List F),E0 d H us=some es→IB es fs→(∀ u ∈ us,∀ o g f l,u ≠ .hs o g f l)→Cx fs=[]
 | [],es,fs,h,hle,_=>by
  simp only [E0,Option.some.injEq] at h
  subst h
  cases fs with
  | nil=>rfl
  | cons=>exact hle.elim
 | u :: us,es,fs,h,hle,hn=>by
  simp only [E0] at h
  split at h
  case h_2=>cases h
  rename_i x xs hx hxs
  cases h
  cases fs with
  | nil=>exact hle.elim
  | cons y ys =>
   have ih:=Wc us xs ys hxs hle.2 (fun u hu=>hn u (by simp [hu]))
   have h1:=hle.1
   cases u with
   | f x' =>
    simp only [Hf] at hx
    split at hx
    ·rename_i hc
     cases hx
     simp only [Bool.and_eq_true] at hc
     cases h1 with
     | nil=>simp [Be] at hc
     | obj=>simp [Be] at hc
     | dat _ h=>rw [Ry h];exact ih
    ·cases hx
   | nils =>
    simp only [Hf,Option.some.injEq] at hx
    subst hx
    cases h1 with
    | nil=>exact ih
    | dat _ h=>simp [Be] at h
   | hs o g f l=>exact absurd rfl (hn _ (by simp) o g f l)
   | _=>simp [Hf] at hx
theorem Pn:∀ (us:List U) (es fs:List F),(As us).length≤1→E0 d H us=some es→IB es fs →
  (Cx fs=[]∧∀ u ∈ us,∀ o g f l,u ≠ .hs o g f l) ∨
  ∃ o sz n g g',H[o]?=some (.arr sz n g)∧(d || H8 n g)=true∧(∀ j,j<n→g j=g' j)∧Cx fs=[.arr sz n g']∧∀ u ∈ us,∀ o1 g1 f1 l1,u=.hs o1 g1 f1 l1→o1=o∧g1=n∧f1=0∧l1=n
 | [],es,fs,_,h,hle=>by
  simp only [E0,Option.some.injEq] at h
  subst h
  cases fs with
  | nil=>exact .inl ⟨rfl,by simp⟩
  | cons=>exact hle.elim
 | u :: us,es,fs,hl,h,hle=>by
  have h':=h
  simp only [E0] at h
  split at h
  case h_2=>cases h
  rename_i x xs hx hxs
  cases h
  cases fs with
  | nil=>exact hle.elim
  | cons y ys =>
   obtain ⟨h1,h2⟩:=hle
   simp only [As,List.length_append] at hl
   have ih:=Pn us xs ys (by omega) hxs h2
   have rest:(∀ o g f l,u ≠ .hs o g f l)→Cx (y :: ys)=Cx ys→(Cx (y :: ys)=[]∧∀ u' ∈ u :: us,∀ o g f l,u' ≠ .hs o g f l) ∨
     ∃ o sz n g g',H[o]?=some (.arr sz n g)∧(d || H8 n g)=true∧(∀ j,j<n→g j=g' j)∧Cx (y :: ys)=[.arr sz n g']∧∀ u' ∈ u :: us,∀ o1 g1 f1 l1,u'=.hs o1 g1 f1 l1→o1=o∧g1=n∧f1=0∧l1=n:=by
    intro hu ho
    rw [ho]
    rcases ih with ⟨a1,a2⟩ | ⟨o,sz,n,g,g',a1,a2,a3,a4,a5⟩
    ·refine .inl ⟨a1,fun u' hu'=>?_⟩
     rcases List.mem_cons.1 hu' with rfl | hu'
     ·exact hu
     ·exact a2 u' hu'
    ·refine .inr ⟨o,sz,n,g,g',a1,a2,a3,a4,fun u' hu'=>?_⟩
     rcases List.mem_cons.1 hu' with rfl | hu'
     ·exact fun o1 g1 f1 l1 e=>absurd e (hu o1 g1 f1 l1)
     ·exact a5 u' hu'
   cases u with
   | f x' =>
    simp only [Hf] at hx
    split at hx
    ·rename_i hc
     cases hx
     simp only [Bool.and_eq_true] at hc
     refine rest (fun o g f l e=>by cases e) ?_
     cases h1 with
     | nil=>simp [Be] at hc
     | obj=>simp [Be] at hc
     | dat _ h=>exact Ry h ys
    ·cases hx
   | nils =>
    simp only [Hf,Option.some.injEq] at hx
    subst hx
    refine rest (fun o g f l e=>by cases e) ?_
    cases h1 with
    | nil=>rfl
    | dat _ h=>simp [Be] at h
   | hs o gen off len =>
    simp only [Hf] at hx
    split at hx
    ·rename_i sz n g ho
     split at hx
     ·rename_i hc
      obtain ⟨rfl,rfl,rfl,hs⟩:=hc
      cases hx
      have hno:∀ u ∈ us,∀ o g f l,u ≠ .hs o g f l:=by
       simp only [Cp,List.length_singleton] at hl
       have h0:As us=[]:=List.eq_nil_of_length_eq_zero (by omega)
       intro u hu o g f l e
       subst e
       have:o ∈ As us:=EY us _ o hu (by simp [Cp])
       rw [h0] at this;cases this
      have hob:=Wc us xs ys hxs h2 hno
      cases h1 with
      | obj _ _ _ _ g' h3 =>
       refine .inr ⟨o,sz,_,g,g',ho,hs,h3,?_,?_⟩
       ·simp [Cx,hob]
       ·intro u hu o1 g1 f1 l1 e
        rcases List.mem_cons.1 hu with rfl | hu
        ·cases e;exact ⟨rfl,rfl,rfl,rfl⟩
        ·exact absurd e (hno u hu o1 g1 f1 l1)
      | dat _ h=>simp [Be] at h
     ·cases hx
    ·cases hx
   | _=>simp [Hf] at hx
theorem Wi {w':World} {Z':Nat→Prop} {m' m2:Nat→Nat} {H2:List HO} {u:U} {e e':F} {v:Value} {b:Nat} (hu:RepU w' Z' m' H u v) (he:Hf d H u=some e) (hle:OwnLe e e')
  (hfx:∀ x v,(d || Gp x)=true→RepF w' Z' x v→RepF w' Z x v)
  (hobj:∀ o gen off len,u=.hs o gen off len→∃ sz g',off=0∧len=gen∧H2[b]?=some (.arr sz gen g')∧m2 b=m' o∧∃ g,H[o]?=some (.arr sz gen g)):RepU w' Z m2 H2 (lN b e') v:=by
 cases u with
 | f x =>
  simp only [Hf] at he
  split at he
  ·rename_i hc
   have hxe:x=e:=Option.some.inj he
   subst hxe
   simp only [Bool.and_eq_true] at hc
   cases hle with
   | nil=>simp [Be] at hc
   | obj=>simp [Be] at hc
   | dat _ h =>
    have key:∀ y:F,Be y=true→lN b y=.f y:=fun y h=>by cases y <;> first | rfl | simp [Be] at h
    rw [key _ hc.2]
    cases hu with | f _ _ hr=>exact .f _ _ (hfx _ _ hc.1 hr)
  ·cases he
 | nils =>
  simp only [Hf,Option.some.injEq] at he
  subst he
  cases hle with
  | nil=>cases hu with | nils A=>exact .nils A
  | dat _ h=>simp [Be] at h
 | hs o gen off len =>
  obtain ⟨sz,g',rfl,rfl,hb,hm,g,ho⟩:=hobj o gen off len rfl
  simp only [Hf,ho] at he
  split at he
  ·cases he
   cases hle with
   | obj _ _ _ _ g1 h3 =>
    show RepU w' Z m2 H2 (.hs b len 0 len) v
    cases hu with
    | hs _ _ _ _ _ h1 hk hg hv =>
     obtain ⟨q1,A,c,q2,q3,q4,q5⟩:=hv sz len g ho rfl
     refine .hs b len 0 len v h1 ⟨_,hb,by simp⟩ (fun sz' n' g'' e=>?_) (fun sz' n' g'' e eg=>?_)
     ·rw [hb] at e;cases e;exact Nat.le_refl _
     ·rw [hb] at e;cases e
      rw [hm]
      exact ⟨q1,A,c,q2,q3,q4,q5⟩
   | dat _ h=>simp [Be] at h
  ·cases he
 | _=>simp [Hf] at he
/-! Answers with one layer of fields. -/
def RJ (e f:F):Prop:=CO e=CO f∧IB e.cells f.cells
def Sn:List F→List F→Prop
 | [],[]=>True
 | x :: xs,y :: ys=>RJ x y∧Sn xs ys
 | _,_=>False
theorem RJ.of {e f:F} (h:OwnLe e f):RJ e f:=by
 cases h with
 | nil=>exact ⟨rfl,.nil,trivial⟩
 | obj k sz n g g' h=>exact ⟨rfl,.obj k sz n g g' h,trivial⟩
 | dat x h =>
  refine ⟨rfl,?_⟩
  have:e.cells=[e]:=by cases e <;> first | rfl | simp [Be] at h
  rw [this]
  exact ⟨.dat e h,trivial⟩
theorem RJ.agg {es fs:List F} (h:IB es fs):RJ (.agg es) (.agg fs):=⟨rfl,h⟩
theorem IT:∀ {es fs:List F},Sn es fs→es.length=fs.length∧∀ (j:Nat) (e:F),es[j]?=some e→∃ f,fs[j]?=some f∧RJ e f
 | [],[],_=>⟨rfl,fun j e h=>by simp at h⟩
 | x :: xs,y :: ys,h=>by
  obtain ⟨h1,h2⟩:=IT h.2
  refine ⟨by simp [h1],fun j e he=>?_⟩
  cases j with
  | zero=>simp at he;subst he;exact ⟨y,rfl,h.1⟩
  | succ j=>simp at he;obtain ⟨f,h3,h4⟩:=h2 j e he;exact ⟨f,by simpa using h3,h4⟩
 | [],_ :: _,h=>h.elim
 | _ :: _,[],h=>h.elim
theorem Ll (e:F) (es:List F):DB (e :: es)=e.cells++DB es:=by cases e <;> rfl
theorem LH:∀ {a b c d:List F},IB a b→IB c d→IB (a++c) (b++d)
 | [],[],_,_,_,h=>h
 | _ :: _,_ :: _,_,_,h,h'=>⟨h.1,LH h.2 h'⟩
 | [],_ :: _,_,_,h,_=>h.elim
 | _ :: _,[],_,_,h,_=>h.elim
theorem Ld:∀ {es fs:List F},Sn es fs→IB (DB es) (DB fs)
 | [],[],_=>trivial
 | x :: xs,y :: ys,h=>by
  rw [Ll,Ll]
  exact LH h.1.2 (Ld h.2)
 | [],_ :: _,h=>h.elim
 | _ :: _,[],h=>h.elim
theorem OL:∀ (us vs:List U) (a b:List F),E0 d H us=some a→E0 d H vs=some b→E0 d H (us++vs)=some (a++b)
 | [],vs,a,b,h,h'=>by simp only [E0,Option.some.injEq] at h;subst h;exact h'
 | u :: us,vs,a,b,h,h'=>by
  simp only [E0] at h
  split at h
  ·rename_i x xs hx hxs
   cases h
   simp only [List.cons_append,E0,hx,OL us vs xs b hxs h']
  ·cases h
theorem Yy {u:U} {e:F} (h:Hf d H u=some e):CO e=false∧e.cells=[e]:=by
 cases u with
 | f x =>
  simp only [Hf] at h
  split at h
  ·rename_i hc
   cases h
   simp only [Bool.and_eq_true] at hc
   obtain ⟨_,hc⟩:=hc
   cases e <;> first | exact ⟨rfl,rfl⟩ | simp [Be] at hc
  ·cases h
 | nils=>simp only [Hf,Option.some.injEq] at h;subst h;exact ⟨rfl,rfl⟩
 | hs o gen off len =>
  simp only [Hf] at h
  split at h
  ·split at h
   ·cases h;exact ⟨rfl,rfl⟩
   ·cases h
  ·cases h
 | _=>simp [Hf] at h
theorem Sb {u:U} (h:Cd u=false):u.cells=[u]:=by
 cases u with
 | f x=>cases x <;> first | rfl | simp [Cd] at h
 | agg=>simp [Cd] at h
 | _=>rfl
theorem R0 {u:U} {a:List F} (h:E0 d H u.cells=some a):(mkF (Cd u) a).cells=a∧CO (mkF (Cd u) a)=Cd u:=by
 cases hu:Cd u with
 | true=>exact ⟨rfl,rfl⟩
 | false =>
  rw [Sb hu] at h
  simp only [E0] at h
  split at h
  ·rename_i x xs hx hxs
   cases h
   simp only [Option.some.injEq] at hxs
   subst hxs
   obtain ⟨h1,h2⟩:=Yy hx
   exact ⟨h2,h1⟩
  ·cases h
def OS (us:List U):List U:=(us.map U.cells).flatten
theorem IU:∀ (us:List U) (es:List F),Po d H us=some es→E0 d H (OS us)=some (DB es)∧us.length=es.length∧∀ (j:Nat) (u:U),us[j]?=some u→∃ a,E0 d H u.cells=some a∧es[j]?=some (mkF (Cd u) a)
 | [],es,h=>by simp only [Po,Option.some.injEq] at h;subst h;exact ⟨rfl,rfl,fun j u hu=>by simp at hu⟩
 | u :: us,es,h=>by
  simp only [Po] at h
  split at h
  ·rename_i a r ha hr
   cases h
   obtain ⟨h1,h2,h3⟩:=IU us r hr
   refine ⟨?_,by simp [h2],fun j v hv=>?_⟩
   ·rw [Ll,(R0 ha).1]
    exact OL _ _ _ _ ha h1
   ·cases j with
    | zero=>simp at hv;subst hv;exact ⟨a,ha,rfl⟩
    | succ j=>simp at hv;obtain ⟨b,h4,h5⟩:=h3 j v hv;exact ⟨b,h4,by simpa using h5⟩
  ·cases h
theorem J9:∀ (us vs:List U),As (us++vs)=As us++As vs
 | [],vs=>rfl
 | u :: us,vs=>by simp [As,J9 us vs]
theorem Rz:∀ cs:List F,As (cs.map U.f)=[]
 | []=>rfl
 | c :: cs=>by simp [As,Cp,Rz cs]
theorem Y5 (u:U):As u.cells=Cp u ∨ ∃ l,u=.tup l:=by
 cases u with
 | f x=>cases x <;> first | (left;rfl) | (left;simp [U.cells,Rz,Cp])
 | agg l=>left;rfl
 | tup l=>exact .inr ⟨l,rfl⟩
 | _=>left;simp [U.cells,As,Cp]
theorem I3:∀ (us:List U),(As (OS us)).length≤(As us).length
 | []=>Nat.le_refl _
 | u :: us=>by
  have ih:=I3 us
  have:OS (u :: us)=u.cells++OS us:=rfl
  rw [this,J9]
  simp only [As,List.length_append]
  rcases Y5 u with h | ⟨l,rfl⟩
  ·rw [h];omega
  ·have:As (U.tup l).cells=Cp (.tup l):=by simp [U.cells,As]
   rw [this];omega
theorem K2 {us:List U} {u x:U} (hu:u ∈ us) (hx:x ∈ u.cells):x ∈ OS us:=by
 unfold OS
 rw [List.mem_flatten]
 exact ⟨u.cells,List.mem_map_of_mem hu,hx⟩
theorem MY {w':World} {Z':Nat→Prop} {m' m2:Nat→Nat} {H2:List HO} {u:U} {a:List F} {e':F} {v:Value} {b:Nat} (hu:RepU w' Z' m' H u v) (ha:E0 d H u.cells=some a) (hle:RJ (mkF (Cd u) a) e')
  (hfx:∀ x v,(d || Gp x)=true→RepF w' Z' x v→RepF w' Z x v)
  (hobj:∀ x ∈ u.cells,∀ o gen off len,x=.hs o gen off len→∃ sz g',off=0∧len=gen∧H2[b]?=some (.arr sz gen g')∧m2 b=m' o∧∃ g,H[o]?=some (.arr sz gen g)):RepU w' Z m2 H2 (RA b e') v:=by
 obtain ⟨hc,hag⟩:=R0 ha
 obtain ⟨h1,h2⟩:=hle
 rw [hag] at h1
 rw [hc] at h2
 obtain ⟨al,ag⟩:=Wd _ _ ha
 obtain ⟨bl,bg⟩:=Pm h2
 cases hagu:Cd u with
 | true =>
  rw [hagu] at h1
  cases e' with
  | agg bs =>
   obtain ⟨vs,rfl,hl,hg⟩:∃ vs:List Value,v=.agg vs.toArray∧u.cells.length=vs.length∧∀ (j:Nat) (x:U) (y:Value),u.cells[j]?=some x→vs[j]?=some y→RepU w' Z' m' H x y:=by
    cases hu with
    | f x _ hr =>
     cases hr with
     | agg cs vs hl hr =>
      refine ⟨vs,rfl,by simpa [U.cells] using hl,fun j x y hx hy=>?_⟩
      simp only [U.cells,List.getElem?_map] at hx
      cases hcj:cs[j]? with
      | none=>rw [hcj] at hx;cases hx
      | some c=>rw [hcj] at hx;cases hx;exact .f _ _ (hr j c y hcj hy)
     | _=>simp [Cd] at hagu
    | agg cs vs hl hr=>exact ⟨vs,rfl,hl,hr⟩
    | _=>simp [Cd] at hagu
   have hb:bs.length=vs.length:=by rw [← hl,al,bl];rfl
   refine .agg _ vs (by simpa using hb) fun j x y hx hy=>?_
   rw [List.getElem?_map] at hx
   cases he:bs[j]? with
   | none=>rw [he] at hx;cases hx
   | some e =>
    rw [he] at hx;cases hx
    have hj:=(List.getElem?_eq_some_iff.1 he).1
    have hbl:a.length=bs.length:=bl
    have huj:u.cells[j]?=some u.cells[j]:=List.getElem?_eq_getElem (by omega)
    obtain ⟨e0,g1,g2⟩:=ag j _ huj
    obtain ⟨e1,g3,g4⟩:=bg j e0 g1
    have:bs[j]?=some e1:=g3
    rw [he] at this;cases this
    exact Wi (hg j _ y huj hy) g2 g4 hfx (hobj _ (List.getElem_mem _))
  | _=>simp [CO] at h1
 | false =>
  rw [hagu] at h1
  have hcu:=Sb hagu
  rw [hcu] at ag al hobj
  obtain ⟨e0,g1,g2⟩:=ag 0 u rfl
  obtain ⟨e1,g3,g4⟩:=bg 0 e0 g1
  have he':e'.cells=[e']:=by cases e' <;> first | rfl | simp [CO] at h1
  rw [he'] at g3
  simp at g3
  subst g3
  have:RA b e'=lN b e':=by cases e' <;> first | rfl | simp [CO] at h1
  rw [this]
  exact Wi hu g2 g4 hfx (hobj u (by simp))
theorem fn_own {f : FuncId} {fn : Func} {c : Code} (hf : P.funcs[f]? = some fn) (hb : fn.body = some c) (hname : (fn.name == "runtime.NumGoroutine") = false) {pre cnd : List F → Bool} {r1 r2 : List F → F}
  (h:∀ xs,pre xs=true→∃ ys es fs,Ee xs ys∧AY P (.tmp 1000000 :: fn.results.toList) [.code c] (start fn.ntmps (ys.map .f)) (.tup es)∧Sn es fs∧(if cnd xs then r1 xs else r2 xs)=.tup fs):EJ P f (.own pre cnd r1 r2):=by
 intro us H slot hslot hp w Z m args hH hL
 simp only [J7,D9] at hp ⊢
 cases hxs:Bb H us with
 | none=>rw [hxs] at hp;cases hp
 | some xs =>
 rw [hxs] at hp
 simp only at hp
 simp only []
 obtain ⟨hl2,hg2⟩:=Bf us xs hxs
 obtain ⟨ys,es,fs,hle,h,hes,hfs⟩:=h xs hp
 rw [hfs]
 obtain ⟨hyl,hyg⟩:=hle.get
 let Z1:Nat→Prop:=fun b=>Z b ∨ ∃ o,Aw H o∧m o=b
 have hZ1:∀ b,Z1 b→b<w.heap.size:=by
  rintro b (hb | ⟨o,hlv,rfl⟩)
  ·exact hH.zlt b hb
  ·exact hH.blk_lt hlv
 refine .inl ⟨by
  have hp:(program).run P w=.ok P w:=rfl
  unfold callFunc
  simp only [Sem.run_bind,hp,Result.andThen,hf,hname,hb,Option.isNone_some,Bool.false_eq_true,if_false,Sem.run_pure],fun cs=>?_⟩
 have hlenx:xs.length=args.size:=by rw [← hl2];simpa using hL.1
 have hlen:ys.length=args.size:=by rw [← hyl];exact hlenx
 have hA:AOK w Z1 m (start fn.ntmps (ys.map .f)) { tmps:=args++Array.replicate (fn.ntmps-args.size) undef,defers:=[] }:=by
  refine ⟨by simp [start,hlen],fun i u v hu hv=>?_,?_⟩
  ·simp only [start,List.length_map] at hu
   rw [List.getElem?_append] at hu
   rw [Array.getElem?_append] at hv
   simp only [List.length_map] at hu
   split at hu
   ·rename_i hi
    rw [if_pos (by omega)] at hv
    rw [List.getElem?_map] at hu
    cases hy:ys[i]? with
    | none=>rw [hy] at hu;cases hu
    | some y =>
     rw [hy] at hu;cases hu
     obtain ⟨x,hx,hxy⟩:=hyg i y hy
     have huj:us[i]?=some us[i]:=List.getElem?_eq_getElem (by have:=(List.getElem?_eq_some_iff.1 hx).1;omega)
     refine .f _ _ (hxy _ _ _ ((Hj hH (fun _ _ h=>h) (hL.2 i _ v huj (by simpa using hv)) (hg2 i _ x huj hx)).mono ?_ (fun _ _=>rfl)))
     rintro b (hb | ⟨o,_,hlv,rfl⟩)
     ·exact .inl hb
     ·exact .inr ⟨o,hlv,rfl⟩
   ·rename_i hi
    rw [if_neg (by omega)] at hv
    rw [List.getElem?_replicate] at hu
    rw [Array.getElem?_replicate] at hv
    split at hu
    ·split at hv
     ·cases hu;cases hv;exact .undef
     ·cases hv
    ·cases hu
  ·exact ⟨hZ1,fun o ⟨ob,ho,_⟩=>by simp [start] at ho,fun o o' ⟨ob,ho,_⟩=>by simp [start] at ho,fun o ob ho=>by simp [start] at ho⟩
 let b:Frame:={ (default:Frame) with fn:=f,kind:=.normal }
 have henter:Frame.enter P f args .normal=b.at { tmps:=args++Array.replicate (fn.ntmps-args.size) undef,defers:=[] } [.code c]:=by
  simp [Frame.enter,Frame.at,hf,hb,b]
 obtain ⟨st',a',w',todo,hk,⟨hd,Z',m',hA',hE'⟩,hs⟩:=h w Z1 m [] [] _ w Z1 m rfl hA rfl (Ext.refl _ _ _ _) b cs
 have hlive0:∀ o,¬ Aw ([]:List HO) o:=fun o ⟨ob,ho,_⟩=>by simp at ho
 unfold Q5 at hk
 rw [if_pos (by rfl)] at hk
 have hdm:(ResultVar.tmp 1000000 :: fn.results.toList).head?.elim false Tq=false:=rfl
 have htm:(ResultVar.tmp 1000000 :: fn.results.toList).head?.elim false PN=false:=rfl
 rw [hdm,htm] at hk
 simp only [List.tail_cons,Yk] at hk
 split at hk
 case h_2=>cases hk
 rename_i us' hus
 split at hk
 case isFalse=>cases hk
 rename_i hl1
 replace hl1:(As us').length≤1:=of_decide_eq_true (by simpa using hl1)
 cases hes':Po false st'.heap us' with
 | none=>rw [hes'] at hk;cases hk
 | some es' =>
 rw [hes'] at hk
 simp only [Option.map_some,Option.some.injEq,F.tup.injEq] at hk
 subst hk
 obtain ⟨vs,hvs,hR⟩:=IL (P:=P) hA' _ _ hus
 have hres:(results fn a'.tmps).run P w'=.ok (if h:vs.toArray.size=1 then vs.toArray[0] else .tuple vs.toArray) w':=by
  unfold results
  rw [← Array.toArray_toList (xs:=fn.results),List.mapM_toArray]
  simp only [Sem.run_bind,Sem.run_map]
  refine (congrArg (fun q=>Result.andThen (Result.andThen q fun x w=>Result.ok x.toArray w) fun vs w=>(pure (if h:vs.size=1 then vs[0] else .tuple vs):Sem Value).run P w) hvs).trans ?_
  simp [Result.andThen]
 have hold:∀ b,b<w.heap.size→w'.heap[b]?=w.heap[b]?:=fun b hb=>hE'.rest b hb fun o ho=>absurd ho (hlive0 o)
  -- the caller's new heap
 have main:∃ m2,Ext w Z m H w' Z m2 (DJ H slot (Cx (DB fs)))∧HOK w' Z m2 (DJ H slot (Cx (DB fs)))∧∀ (j:Nat) (e:F) (v:Value),fs[j]?=some e→vs[j]?=some v→RepU w' Z m2 (DJ H slot (Cx (DB fs))) (RA (IW H slot) e) v:=by
  obtain ⟨hflat,hol,hog⟩:=IU us' es' hes'
  obtain ⟨hfl,hfg⟩:=IT hes
  have each:∀ (j:Nat) (e:F),fs[j]?=some e→∃ u a,us'[j]?=some u∧E0 false st'.heap u.cells=some a∧RJ (mkF (Cd u) a) e:=fun j e he=>by
   have hj:=(List.getElem?_eq_some_iff.1 he).1
   have huj:us'[j]?=some us'[j]:=List.getElem?_eq_getElem (by omega)
   obtain ⟨a,h1,h2⟩:=hog j _ huj
   obtain ⟨e1,h3,h4⟩:=hfg j _ h2
   rw [he] at h3;cases h3
   exact ⟨_,a,huj,h1,h4⟩
  rcases Pn (OS us') (DB es') (DB fs) (Nat.le_trans (I3 us') hl1) hflat (Ld hes) with ⟨h0,hno⟩ | ⟨o,sz,n,g,g',ho,hsc,hgg,hob,hone⟩
  ·rw [h0]
   have e0:DJ H slot []=H:=rfl
   rw [e0]
   have hEE:Ext w Z m H w' Z m H:=by
    refine ⟨hE'.os,hE'.tape,hE'.output,hE'.size,fun b hb=>hb,fun b hb=>.inl hb,fun b hb=>hold b (hH.zlt b hb),fun b hb _=>hold b hb,Nat.le_refl _,fun k ob ob' h1 h2=>?_,fun k hk=>.inl ⟨hk,rfl⟩,hE'.drawn⟩
    rw [h1] at h2;cases h2
    cases ob with
    | arr sz n g=>exact ⟨rfl,Nat.le_refl _,fun _=>⟨rfl,by simp only [Az,hold _ (hH.blk_lt ⟨_,h1,rfl⟩)]⟩⟩
    | _=>simp [Bu]
   refine ⟨m,hEE,⟨fun b hb=>Nat.lt_of_lt_of_le (hH.zlt b hb) hE'.size,hH.apart,hH.inj,fun k ob hk=>?_⟩,fun j e v he hv=>?_⟩
   ·by_cases hd:ob.live=true
    ·exact (hH.ob k ob hk).mono hEE (hold _ (hH.blk_lt ⟨_,hk,hd⟩))
    ·cases ob <;> simp_all [Hg,HO.live]
   ·obtain ⟨u,e0,h1,h2,h3⟩:=each j e he
    exact MY (hR.2 j u v h1 hv) h2 h3 (fun x v h hr=>hr.scal0_any (by simpa using h)) fun x hx o gen off len e=>absurd e (hno x (K2 (List.mem_of_getElem? h1) hx) o gen off len)
  ·rw [hob]
   have eN:DJ H slot [.arr sz n g']=Dp H slot (.arr sz n g'):=by cases slot <;> rfl
   have eA:IW H slot=BX H slot:=by cases slot <;> rfl
   rw [eN,eA]
   have hlo:Aw st'.heap o:=⟨_,ho,rfl⟩
   let m2:Nat→Nat:=fun k=>if k=BX H slot then m' o else m k
   have hfresh:w.heap.size≤m' o:=by
    rcases hE'.new o hlo with ⟨h,_⟩ | h
    ·exact absurd h (hlive0 o)
    ·exact h
   have hmn:m2 (BX H slot)=m' o:=by simp [m2]
   have hmk:∀ k,k ≠ BX H slot→m2 k=m k:=fun k hk=>by simp only [m2];rw [if_neg hk]
   have hsplit:∀ k,Aw (Dp H slot (.arr sz n g')) k→k=BX H slot ∨ (k ≠ BX H slot∧Aw H k):=by
    rintro k ⟨ob,hk,hl⟩
    by_cases hp:k=BX H slot
    ·exact .inl hp
    ·rw [Da _ _ _ hp] at hk;exact .inr ⟨hp,ob,hk,hl⟩
   have hEE:Ext w Z m H w' Z m2 (Dp H slot (.arr sz n g')):=by
    refine ⟨hE'.os,hE'.tape,hE'.output,hE'.size,fun b hb=>hb,fun b hb=>.inl hb,fun b hb=>hold b (hH.zlt b hb),fun b hb _=>hold b hb,Pg _ _ _,?_,?_,hE'.drawn⟩
    ·intro k ob ob' hk hk'
     by_cases hp:k=BX H slot
     ·cases hsl:slot with
      | none=>rw [hsl] at hp;subst hp;simp [BX] at hk
      | some k' =>
       rw [hsl] at hp
       obtain rfl:k=k':=hp
       rw [hslot k hsl] at hk
       cases hk
       cases ob' <;> simp [Bu]
     ·rw [Da _ _ _ hp,hk] at hk'
      cases hk'
      rw [hmk k hp]
      cases ob with
      | arr sz n g=>exact ⟨rfl,Nat.le_refl _,fun _=>⟨rfl,by simp only [Az,hold _ (hH.blk_lt ⟨_,hk,rfl⟩)]⟩⟩
      | _=>simp [Bu]
    ·intro k hk
     rcases hsplit k hk with h1 | ⟨h1,h2⟩
     ·subst h1;right;rw [hmn];exact hfresh
     ·exact .inl ⟨h2,hmk k h1⟩
   refine ⟨m2,hEE,⟨fun b hb=>Nat.lt_of_lt_of_le (hH.zlt b hb) hE'.size,?_,?_,?_⟩,fun j e v he hv=>?_⟩
   ·intro k hk hz
    rcases hsplit k hk with h1 | ⟨h1,h2⟩
    ·subst h1
     rw [hmn] at hz
     have:=hH.zlt _ hz
     omega
    ·rw [hmk k h1] at hz;exact hH.apart k h2 hz
   ·intro k k' hk hk' e
    rcases hsplit k hk with h1 | ⟨h1,g1⟩ <;> rcases hsplit k' hk' with h2 | ⟨h2,g2⟩
    ·rw [h1,h2]
    ·subst h1;rw [hmk k' h2,hmn] at e;have:=hH.blk_lt g2;omega
    ·subst h2;rw [hmk k h1,hmn] at e;have:=hH.blk_lt g1;omega
    ·rw [hmk k h1,hmk k' h2] at e;exact hH.inj k k' g1 g2 e
   ·intro k ob hk
    by_cases hp:k=BX H slot
    ·subst hp
     rw [Do _ _ _ hslot] at hk
     cases hk
     rw [hmn]
     obtain ⟨q0,c1,el,fr,q1,q2,q3,q4,q5⟩:=hA'.hok.ob o _ ho
     refine ⟨q0,c1,el,fr,q1,q2,q3,fun i hi=>by rw [← hgg i hi];exact q4 i hi,fun i j u hi hu=>?_⟩
     rw [← hgg i hi] at hu
     obtain ⟨p1,v,p2,p3⟩:=q5 i j u hi hu
     exact ⟨p1,v,p2,p3.scal0_any (Vs (ZQ hsc hi) hu)⟩
    ·rw [Da _ _ _ hp] at hk
     by_cases hd:ob.live=true
     ·rw [hmk k hp]
      exact (hH.ob k ob hk).mono hEE (hold _ (hH.blk_lt ⟨_,hk,hd⟩))
     ·cases ob <;> simp_all [Hg,HO.live]
   ·obtain ⟨u,e0,h1,h2,h3⟩:=each j e he
    refine MY (hR.2 j u v h1 hv) h2 h3 (fun x v h hr=>hr.scal0_any (by simpa using h)) fun x hx o1 gen off len e=>?_
    obtain ⟨rfl,rfl,rfl,rfl⟩:=hone x (K2 (List.mem_of_getElem? h1) hx) o1 gen off len e
    exact ⟨sz,g',rfl,rfl,Do _ _ _ hslot,hmn,g,ho⟩
 obtain ⟨m2,hEE,hHH,hrep⟩:=main
 have hfl:fs.length=vs.length:=by
  rw [← (IT hes).1,← (IU us' es' hes').2.1];exact hR.1
 refine ⟨.returned _,w',{ b.at a' todo with mode:=.returning },⟨Z,m2,?_⟩,?_,rfl,rfl,hd,rfl,fn,hf,hres⟩
 ·match fs,vs,hfl,hrep,hEE,hHH with
  | [e],[v],_,hrep,hEE,hHH=>exact ⟨hEE,hHH,hrep 0 e v rfl rfl⟩
  | [],[],_,hrep,hEE,hHH=>exact ⟨hEE,hHH,.tup [] [] rfl fun j u v hu=>by simp at hu⟩
  | e1 :: e2 :: fs,v1 :: v2 :: vs,hfl,hrep,hEE,hHH =>
   refine ⟨hEE,hHH,?_⟩
   have:RepU w' Z m2 (DJ H slot (Cx (DB (e1 :: e2 :: fs)))) (.tup ((e1 :: e2 :: fs).map (RA (IW H slot)))) (.tuple (v1 :: v2 :: vs).toArray):=.tup _ _ (by simpa using hfl) fun j u v hu hv=>by
    rw [List.getElem?_map] at hu
    cases he:(e1 :: e2 :: fs)[j]? with
    | none=>rw [he] at hu;cases hu
    | some e=>rw [he] at hu;cases hu;exact hrep j e v he hv
   simpa [Bv] using this
  | [_],[],hl,_,_,_=>simp at hl
  | [_],_ :: _ :: _,hl,_,_,_=>simp at hl
  | [],_ :: _,hl,_,_,_=>simp at hl
  | _ :: _ :: _,[],hl,_,_,_=>simp at hl
  | _ :: _ :: _,[_],hl,_,_,_=>simp at hl
 ·rw [henter];exact hs
end
end Go.Proofs.YtlefbocihikaoaaGreat.R
namespace Go.Proofs.YtlefbocihikaoaaGreat.R
open Go Go.Lib Go.RowKit
section
variable {P:Program} {w:World} {Z:Nat→Prop} {m:Nat→Nat} {H:List HO}
theorem Mw {f : FuncId} {fn : Func} {c : Code} (hf : P.funcs[f]? = some fn) (hb : fn.body = some c) (hname : (fn.name == "runtime.NumGoroutine") = false) (args : Array Value) (w : World) :
  (callFunc f args).run P w=.ok (.enter f args) w:=by
 have hp:(program).run P w=.ok P w:=rfl
 unfold callFunc
 simp only [Sem.run_bind,hp,Result.andThen,hf,hname,hb,Option.isNone_some,Bool.false_eq_true,if_false,Sem.run_pure]
theorem Ext.grows {w':World} (hH:HOK w Z m H) (g:Grows w w'):Ext w Z m H w' Z m H∧HOK w' Z m H:=by
 have hE:Ext w Z m H w' Z m H:=by
  refine ⟨g.os,g.tape,g.output,g.size,fun _ h=>h,fun _ h=>.inl h,fun b hb=>g.old b (hH.zlt b hb),fun b hb _=>g.old b hb,Nat.le_refl _,fun o ob ob' h1 h2=>?_,fun o h=>.inl ⟨h,rfl⟩,g.drawn⟩
  rw [h1] at h2;cases h2
  by_cases hd:ob.live=true
  case neg=>cases ob <;> simp_all [Bu,HO.live]
  ·have hlt:=hH.blk_lt (Dz h1 hd)
   have:Az w' (m o)=Az w (m o):=by simp only [Az,g.old _ hlt]
   cases ob <;> simp_all [Bu]
 refine ⟨hE,fun b hb=>Nat.lt_of_lt_of_le (hH.zlt b hb) g.size,hH.apart,hH.inj,fun o ob ho=>?_⟩
 by_cases hd:ob.live=true
 case neg=>cases ob <;> simp_all [Hg,HO.live]
 ·exact (hH.ob o ob ho).mono hE (g.old _ (hH.blk_lt (Dz ho hd)))
def LG:List F→Bool
 | [.sl n _]=>decide (0<n)
 | _=>false
def K7 (P:Program) (f:FuncId):Prop :=
 (∀ (c:Nat) (w:World),Calls P f #[.slice none 0 c] w fun e w'=>e=.returned (.slice none 0 0)∧w'=w) ∧
 (∀ (a:Addr) (c:Nat) (w:World),Calls P f #[.slice (some a) 0 c] w fun e w'=>∃ b,e=.returned (.slice (some b) 0 0)∧Below w.heap.size w w'∧w.drawn≤w'.drawn)
theorem Jf {f : FuncId} {fn : Func} {c : Code} (hf : P.funcs[f]? = some fn) (hb : fn.body = some c) (hname : (fn.name == "runtime.NumGoroutine") = false) (h : K7 P f) {g : Nat → F} {v : Value} {args : Array Value} (ha : args.toList = [v]) (hv : RepF w Z (.sl 0 g) v) :
  Dg P f args w fun v w'=>Grows w w'∧∃ A,v=.slice A 0 0:=by
 have e:args = #[v]:=by rw [← Array.toArray_toList (xs:=args),ha]
 subst e
 cases hv with
 | sl _ _ A c sz a V hc hs hk hA hV hr =>
  refine .inl ⟨Mw hf hb hname _ _,?_⟩
  cases A with
  | none =>
   intro cs
   obtain ⟨e,w',fr,he,hcs⟩:=h.1 c w cs
   obtain ⟨rfl,rfl⟩:=he
   refine ⟨.returned (.slice none 0 0),_,fr,?_,hcs⟩
   exact ⟨⟨rfl,rfl,rfl,Nat.le_refl _,fun _ _=>rfl,Nat.le_refl _⟩,none,rfl⟩
  | some a0 =>
   intro cs
   obtain ⟨e,w',fr,he,hcs⟩:=h.2 a0 c w cs
   obtain ⟨b,rfl,hB,hD⟩:=he
   refine ⟨.returned (.slice (some b) 0 0),_,fr,?_,hcs⟩
   exact ⟨⟨hB.os,hB.tape,hB.output,hB.size,hB.block,hD⟩,some b,rfl⟩
theorem Zm {f : FuncId} {fn : Func} {c : Code} (hf : P.funcs[f]? = some fn) (hb : fn.body = some c) (hname : (fn.name == "runtime.NumGoroutine") = false) (h : K7 P f) {pre : List F → Bool} {res : List F → F}
  (hpre:∀ xs,pre xs=true→∃ n g,xs=[.sl n g]) (hres:∀ g,pre [.sl 0 g]=true→∃ g',res [.sl 0 g]=.sl 0 g')
  (hn:Ai P f (fun xs=>LG xs&&pre xs) res):Ai P f pre res:=by
 intro xs hp w Z args hZ hL
 obtain ⟨n,g,rfl⟩:=hpre xs hp
 by_cases h0:n=0
 ·subst h0
  obtain ⟨v,hv⟩:∃ v,args.toList=[v]:=by
   have:=hL.1
   match h:args.toList,this with
   | [v],_=>exact ⟨v,rfl⟩
  obtain ⟨g',hg'⟩:=hres g hp
  rw [hg']
  refine (Jf hf hb hname h hv (hL.2 0 _ v rfl (by rw [hv];rfl))).mono fun v w' ⟨hg,A,hA⟩=>?_
  subst hA
  refine ⟨hg,Z,fun b hb=>.inl hb,.sl 0 g' A 0 0 ⟨0,0,none⟩ (fun _=>.nilFunc) (Nat.le_refl _) (fun i hi=>by omega) (fun i j u hi=>by omega) (fun h=>absurd rfl h) (fun i j u hi=>by omega) (fun i j u hi=>by omega)⟩
 ·exact hn _ (by simp only [LG,hp,Bool.and_true];exact decide_eq_true (by omega)) w Z args hZ hL
theorem iO {f : FuncId} {fn : Func} {c : Code} (hf : P.funcs[f]? = some fn) (hb : fn.body = some c) (hname : (fn.name == "runtime.NumGoroutine") = false) (h : K7 P f) {pre : List F → Bool} {r1 : List F → F}
  (hpre:∀ xs,pre xs=true→∃ n g,xs=[.sl n g]) (hn:EJ P f (.own (fun xs=>LG xs&&pre xs) (fun _=>true) r1 r1)):EJ P f (.own pre LG r1 (fun _=>.tup [.tup []])):=by
 intro us H slot hs hp w Z m args hH hu
 simp only [J7] at hp
 cases hx:Bb H us with
 | none=>rw [hx] at hp;cases hp
 | some xs =>
 rw [hx] at hp
 obtain ⟨n,g,rfl⟩:=hpre xs hp
 by_cases h0:n=0
 ·subst h0
  have e:D9 slot LG r1 (fun _=>.tup [.tup []]) us H=(.nils,H):=by
   simp only [D9,hx,LG,Nat.lt_irrefl,decide_false,Bool.false_eq_true,if_false]
   rfl
  rw [e]
  obtain ⟨hl,hg⟩:=Bf us _ hx
  obtain ⟨v,hv⟩:∃ v,args.toList=[v]:=by
   have h1:=hu.1
   rw [hl] at h1
   match h:args.toList,h1 with
   | [v],_=>exact ⟨v,rfl⟩
  have hu0:us[0]?=some (us[0]'(by rw [hl];simp)):=List.getElem?_eq_getElem _
  have hr:=Hj hH (fun _ _ h=>h) (hu.2 0 _ v hu0 (by rw [hv];rfl)) (hg 0 _ _ hu0 rfl)
  refine (Jf hf hb hname h hv hr).mono fun v w' ⟨hg,A,hA⟩=>?_
  subst hA
  exact ⟨Z,m,(Ext.grows hH hg).1,(Ext.grows hH hg).2,.nils A⟩
 ·have hps:LG [.sl n g]=true:=decide_eq_true (by omega)
  have:=hn us H slot hs (by simp only [J7,hx,hp,hps,Bool.and_true]) w Z m args hH hu
  have e:D9 slot (fun _=>true) r1 r1 us H=D9 slot LG r1 (fun _=>.tup [.tup []]) us H:=by
   simp only [D9,hx,hps,if_true]
  rw [e] at this
  exact this
end
end Go.Proofs.YtlefbocihikaoaaGreat.R
namespace Go.Proofs.YtlefbocihikaoaaGreat.R
open Go Go.Lib Go.RowKit
noncomputable section
/-! ### function 81 -/
def T81 {ρ:Type} (ret:N9 ρ) (z:Int):Option ρ :=
 (AC ((↑(AM 18446744073709551616 z.natAbs).length:Int)==0)
 (ret (0))
 (AC (decide (0≤IntKind.i64.wrap ((↑(AM 18446744073709551616 z.natAbs).length:Int)-1)))
 (AC (decide (IntKind.i64.wrap ((↑(AM 18446744073709551616 z.natAbs).length:Int)-1)<(↑(AM 18446744073709551616 z.natAbs).length:Int)))
 (AC (H7 (↑((AM 18446744073709551616 z.natAbs).getD (IntKind.i64.wrap ((↑(AM 18446744073709551616 z.natAbs).length:Int)-1)).toNat 0):Int))
 (ret (IntKind.i64.wrap (IntKind.i64.wrap (64*(↑(AM 18446744073709551616 z.natAbs).length:Int))-lzV (↑((AM 18446744073709551616 z.natAbs).getD (IntKind.i64.wrap ((↑(AM 18446744073709551616 z.natAbs).length:Int)-1)).toNat 0):Int).toNat)))
 none)
 none)
 none))
def G81 (z:Int):Option (Int):=T81 some z
theorem t81 (z:Int) (r:Int) (h:G81 z=some r):AY Tryz.prog Tryz.f81.results.toList [.code (AR Tryz.f81)] (start Tryz.f81.ntmps ([AH z].map .f)) (F.int .i64 r):=by
 refine AY.of_run Ap K3 (T:=[]) (n:=200) ?_
 refine gE (Y:=T81 (fun r=>some (.ret (F.int .i64 r))) z) (by kernel_rfl) ?_
 exact (gS h (fun _ h=>gR (by cases h;rfl)) (fun _ h=>(gS h (fun _ h=>(gS h (fun _ h=>(gS h (fun _ h=>gR (by cases h;rfl)) gN)) gN)) gN)))
theorem BB_pow (k:Nat):18446744073709551616 ^ k=2 ^ (64*k):=by rw [show 18446744073709551616=2 ^ 64 from rfl,← Nat.pow_mul]
theorem qB {m k:Nat} (h:k<(AM 18446744073709551616 m).length):18446744073709551616 ^ k≤m:=by
 rcases Nat.lt_or_ge m (18446744073709551616 ^ k) with h1 | h1
 ·have:=Dr h1
  omega
 ·exact h1
theorem iK (m:Nat):m<18446744073709551616 ^ (AM 18446744073709551616 m).length:=by
 have:=Jo (AM 18446744073709551616 m) (BH (by omega) m)
 rwa [DE (by omega)] at this
theorem X1 {m:Nat} (hm:m ≠ 0):bitLen m=64*((AM 18446744073709551616 m).length-1)+bitLen ((AM 18446744073709551616 m).getD ((AM 18446744073709551616 m).length-1) 0):=by
 have hne:(AM 18446744073709551616 m).length ≠ 0:=by
  intro h
  exact hm (My.1 (List.eq_nil_of_length_eq_zero h))
 have hlo:=qB (m:=m) (k:=(AM 18446744073709551616 m).length-1) (by omega)
 have hhi:=iK m
 rw [KV (by omega) _ _ (BH (by omega) m),DE (by omega)]
 have hlt:m / 18446744073709551616 ^ ((AM 18446744073709551616 m).length-1)<18446744073709551616:=by
  rw [Nat.div_lt_iff_lt_mul (Nat.pow_pos (by omega))]
  rw [Nat.mul_comm,← Nat.pow_succ]
  rwa [show ((AM 18446744073709551616 m).length-1).succ=(AM 18446744073709551616 m).length by omega]
 rw [Nat.mod_eq_of_lt hlt]
 rw [BB_pow] at hlo ⊢
 exact G1 hlo
theorem kC {z:Int} (h:z.natAbs<18446744073709551616 ^ 400):G81 z=some (bitLen z.natAbs:Nat):=by
 unfold G81 T81
 by_cases h0:z.natAbs=0
 ·rw [h0,BU]
  rfl
 ·have hne:(AM 18446744073709551616 z.natAbs).length ≠ 0:=by
   intro h
   exact h0 (My.1 (List.eq_nil_of_length_eq_zero h))
  have hl:=Dr h
  clear h
  have e1:IntKind.i64.wrap (((AM 18446744073709551616 z.natAbs).length:Int)-1)=(((AM 18446744073709551616 z.natAbs).length-1:Nat):Int):=by rw [Av (by omega) (by omega)];omega
  have hb:=HS (by omega) (BH (B:=18446744073709551616) (by omega) z.natAbs) ((AM 18446744073709551616 z.natAbs).length-1)
  have hs:=X1 h0
  have hb2:=Hv hb
  rw [show (((AM 18446744073709551616 z.natAbs).length:Int)==0)=false by simp only [beq_eq_false_iff_ne,ne_eq];omega,AJ,e1]
  rw [decide_eq_true (show (0:Int)≤(((AM 18446744073709551616 z.natAbs).length-1:Nat):Int) by omega),decide_eq_true (show (((AM 18446744073709551616 z.natAbs).length-1:Nat):Int)<((AM 18446744073709551616 z.natAbs).length:Int) by omega),Int.toNat_natCast]
  simp only [AF]
  rw [Ev.2 (by omega)]
  unfold lzV
  rw [Int.toNat_natCast]
  simp only [AF]
  generalize bitLen ((AM 18446744073709551616 z.natAbs).getD ((AM 18446744073709551616 z.natAbs).length-1) 0)=t at *
  rw [hs]
  congr 1
  rw [Av (x:=64*_) (by omega) (by omega),Av (by omega) (by omega)]
  omega
def aS:List F→F | [x]=>.int .i64 (bitLen (AG x).natAbs:Nat) | _=>.dflt
theorem okSize:Ai Tryz.prog 81 (LF 400) aS :=
 Ae (c:=AR Tryz.f81) Tryz.func81 (by kernel_rfl) (by kernel_rfl) fun xs hp=>match xs,hp with
 | [x],hp=>⟨[AH (AG x)],_,⟨(Dy hp).1,trivial⟩,t81 _ _ (kC (BI hp)),.refl _⟩
theorem tyW:Tryz.prog.underlying 86=some (.slice 49):=by kernel_rfl
theorem Zn (n c:Nat) (w:World):Calls Tryz.prog 100 #[.slice none n c] w fun e w'=>e=.returned (.slice none 0 0)∧w'=w:=by
 have q22:∀ (w:World) (a:Option Addr) (n c n' c':Nat),(binOp .eql 86 (.slice a n c) (.slice none n' c')).run Tryz.prog w=.ok (.bool a.isNone) w:=fun w a n c n' c'=>Lib.run_eql_slice_nil w _ _ a n c n' c' tyW
 go_enter Tryz.func100,(rfl:Tryz.f100.ntmps=8)
 go_wp2
 go_ret
 exact ⟨rfl,rfl⟩
set_option maxHeartbeats 2000000 in
theorem Ts (a:Addr) (c:Nat) (w:World):Calls Tryz.prog 100 #[.slice (some a) 0 c] w fun e w'=>∃ b,e=.returned (.slice (some b) 0 0)∧Below w.heap.size w w'∧w.drawn≤w'.drawn:=by
 have q22:∀ (w:World) (a:Option Addr) (n c n' c':Nat),(binOp .eql 86 (.slice a n c) (.slice none n' c')).run Tryz.prog w=.ok (.bool a.isNone) w:=fun w a n c n' c'=>Lib.run_eql_slice_nil w _ _ a n c n' c' tyW
 have u22:∀ w,Sem.run Tryz.prog (underlying 86) w=.ok (TypeDesc.slice 49) w:=run_underlying tyW
 obtain ⟨i0,hi,hz0,hz1,hz2⟩:=info_parts (P:=Tryz.prog) (e:=49) (z:=.int .u64 0) (size:=1) (bytes:=8) (by kernel_rfl)
 go_enter Tryz.func100,(rfl:Tryz.f100.ntmps=8)
 go_wp2_with (at_builtin;refine wpList_append_arg _ rfl _ _ 86 rfl 49 i0 _ 1 8 tyW hi hz0 hz1 hz2 rfl (by decide) w.heap.size 0 0 0 [] rfl rfl (by intro j u hj;simp at hj) a 0 c [] rfl rfl (by intro j u hj;simp at hj) (by intro u hu;cases hu) (fun _ j hj=>by simp at hj) (by decide) (by decide) (fun _=>?_) (fun h=>absurd h (by omega)))
 go_wp2
 go_ret
 exact ⟨⟨w.heap.size,0,none⟩,by kernel_rfl,(Below.refl _ w).alloc (Nat.le_refl _) _,Nat.le_refl _⟩
theorem OY:K7 Tryz.prog 100:=⟨Zn 0,Ts⟩
/-! ### function 100 -/
def T100 {ρ:Type} (ret:(Nat)→(Nat→F)→Option ρ) (n:Nat) (g:Nat→F):Option ρ :=
 (AC (decide (0<n))
 (AC (decide ((g 0).cells.length=1) || decide (n=0))
 (AC (decide ((↑(0+n):Int)*(((8:Nat):Int)+1)≤(↑BC:Int)))
 (AC (decide (0+n=0+n))
 (ret (0+n) (fun j ↦ if j<0 then Aj [] j else one n g (j-0)))
 none)
 none)
 none)
 none)
def G100 (n:Nat) (g:Nat→F):Option ((Nat) × (Nat→F)):=T100 (fun rn rg=>some (rn,rg)) n g
theorem t100 (n:Nat) (g:Nat→F) (rn:Nat) (rg:Nat→F) (h:G100 n g=some (rn,rg)):AY Tryz.prog Tryz.f100.results.toList [.code (AR Tryz.f100)] (start Tryz.f100.ntmps ([F.sl n g].map .f)) (F.sl rn rg):=by
 refine AY.of_run Ap K3 (T:=[]) (n:=200) ?_
 refine gE (Y:=T100 (fun rn rg=>some (.ret (F.sl rn rg))) n g) (by kernel_rfl) ?_
 exact (gS h (fun _ h=>(gS h (fun _ h=>(gS h (fun _ h=>(gS h (fun _ h=>gR (by cases h;rfl)) gN)) gN)) gN)) gN)
theorem Zo {n:Nat} {g:Nat→F} (h0:0<n) (hn:n≤1000) (hg:(g 0).cells.length=1):∃ rn rg,G100 n g=some (rn,rg)∧rn=n∧∀ j,j<n→rg j=g j:=by
 unfold G100 T100
 rw [decide_eq_true h0,decide_eq_true hg,Nat.zero_add,decide_eq_true (Ep hn),decide_eq_true (show n=n from rfl)]
 refine ⟨_,_,rfl,rfl,fun j hj=>?_⟩
 show (if j<0 then Aj [] j else one n g (j-0))=g j
 rw [if_neg (by omega),Nat.sub_zero]
 match n,h0,hj with
 | 1,_,hj=>rw [show j=0 by omega];rfl
 | n+2,_,_=>rfl
def GX:List F→Bool | [.sl n g]=>Ay (.sl n g)&&BD 1000 (.sl n g) | _=>false
def WI:List F→F | [x]=>AO (AP x) | _=>.dflt
theorem GO {xs:List F} (h:GX xs=true):∃ n g,xs=[.sl n g]:=by
 unfold GX at h
 split at h
 ·exact ⟨_,_,rfl⟩
 ·cases h
theorem MV {n:Nat} {g:Nat→F} (h:GX [.sl n g]=true):Ay (.sl n g)=true∧n≤1000:=by
 simp only [GX,Bool.and_eq_true] at h
 exact ⟨h.1,by simpa [BD] using h.2⟩
theorem YN {n:Nat} {g:Nat→F} (h:Ay (.sl n g)=true) (h0:0<n):(g 0).cells.length=1:=by
 simp only [Ay,Ci,List.all_eq_true,List.mem_range] at h
 rw [← jC (h 0 h0)]
 rfl
theorem okClone:Ai Tryz.prog 100 GX WI :=
 Zm (c:=AR Tryz.f100) Tryz.func100 (by kernel_rfl) (by kernel_rfl) OY (fun _=>GO) (fun g _=>⟨_,rfl⟩) <|
 Ae (c:=AR Tryz.f100) Tryz.func100 (by kernel_rfl) (by kernel_rfl) fun xs hp=>by
  simp only [Bool.and_eq_true] at hp
  obtain ⟨n,g,rfl⟩:=GO hp.2
  obtain ⟨h1,h2⟩:=MV hp.2
  have h0:0<n:=of_decide_eq_true hp.1
  obtain ⟨rn,rg,e,rfl,hr⟩:=Zo h0 h2 (YN h1 h0)
  exact ⟨[.sl rn g],_,.refl _,t100 _ _ _ _ e,fun w Z v hv=>(Bw h1).1 _ _ _ (FLe.sl hr _ _ _ hv)⟩
/-! ### function 100 -/
def rA {ρ:Type} (ret:(F)→Option ρ) (w:List Nat):Option ρ :=
 (AC (decide (0<w.length))
 (AC (decide ((↑(0+w.length):Int)*(((8:Nat):Int)+1)≤(↑BC:Int)))
 (AC (decide (0+w.length=0+w.length)&&true&&decide (0+w.length=0+w.length))
 (AC (H8 (0+w.length) fun j ↦ if j<0 then Aj [] j else one w.length (fun i ↦ BP (w.getD i 0)) (j-0))
 (ret (F.tup [F.tup [F.int .i64 ((1:Nat):Int),F.sl (0+w.length) fun j ↦ if j<0 then Aj [] j else one w.length (fun i ↦ BP (w.getD i 0)) (j-0)]]))
 none)
 none)
 none)
 none)
def G100o (w:List Nat):Option (F):=rA some w
theorem t100o (w:List Nat) (r:F) (h:G100o w=some r):AY Tryz.prog (ResultVar.tmp 1000000 :: Go.Proofs.Tryz.f100.results.toList) [.code (AR Tryz.f100)] (start Tryz.f100.ntmps ([AO w].map .f)) (r):=by
 refine AY.of_run Ap K3 (T:=[]) (n:=200) ?_
 refine gE (Y:=rA (fun r=>some (.ret (r))) w) (by kernel_rfl) ?_
 exact (gS h (fun _ h=>(gS h (fun _ h=>(gS h (fun _ h=>(gS h (fun _ h=>gR (by cases h;rfl)) gN)) gN)) gN)) gN)
def Pp:List F→F | [x]=>.tup [.tup [.int .i64 1,AO (AP x)]] | _=>.dflt
theorem mF:EJ Tryz.prog 100 (.own GX LG Pp (fun _=>.tup [.tup []])) :=
 iO (c:=AR Tryz.f100) Tryz.func100 (by kernel_rfl) (by kernel_rfl) OY (fun _=>GO) <|
 fn_own (c:=AR Tryz.f100) Tryz.func100 (by kernel_rfl) (by kernel_rfl) fun xs hp=>by
  simp only [Bool.and_eq_true] at hp
  obtain ⟨n,g,rfl⟩:=GO hp.2
  obtain ⟨h1,h2⟩:=MV hp.2
  have h0:0<n:=of_decide_eq_true hp.1
  have hlen:(AP (.sl n g)).length=n:=MB _ _ _
  have e:Pp [.sl n g]=.tup [.tup [.int .i64 ((1:Nat):Int),AO (AP (.sl n g))]]:=rfl
  simp only [if_true]
  rw [e]
  have hx:=(Bw h1).1
  generalize AP (.sl n g)=l at hx hlen ⊢
  subst hlen
  have ho:=fun r=>t100o l r
  unfold G100o rA at ho
  rw [decide_eq_true h0,Nat.zero_add,decide_eq_true (Ep h2),decide_eq_true (show l.length=l.length from rfl)] at ho
  have hE:∀ j,j<l.length→(fun j=>if j<0 then Aj [] j else one l.length (fun i=>BP (l.getD i 0)) (j-0)) j=BP (l.getD j 0):=by
   intro j hj
   show (if j<0 then Aj [] j else one l.length (fun i=>BP (l.getD i 0)) (j-0))=BP (l.getD j 0)
   rw [if_neg (by omega),Nat.sub_zero]
   generalize l.length=n at h0 hj
   match n,h0,hj with
   | 1,_,hj=>rw [show j=0 by omega];rfl
   | n+2,_,_=>rfl
  have hS:H8 l.length (fun j=>if j<0 then Aj [] j else one l.length (fun i=>BP (l.getD i 0)) (j-0))=true:=by
   unfold H8
   rw [List.all_eq_true]
   intro j hj
   rw [hE j (List.mem_range.1 hj)]
   rfl
  simp only [Bool.and_true,AF,hS] at ho
  exact ⟨[AO l],_,[.tup [.int .i64 ((1:Nat):Int),AO l]],⟨hx,trivial⟩,ho _ rfl,⟨.of (.obj _ _ _ _ _ hE),trivial⟩,rfl⟩
def oP:Env:=(oQ.add 81 (.pure (LF 400) aS)).add 100 (.pure GX WI)
theorem D2:Ax Tryz.prog oP:=(Env.add_ok (Env.add_ok K3 okSize.sp) okClone.sp)
end
end Go.Proofs.YtlefbocihikaoaaGreat.R
