/-
 The own walk and what it shows,part 4 of 10.
-/
import Derived.WalkKit
import Derived.Lib.Walk
import Derived.Lib.SliceRun
import Derived.OwnWalk
import Derived.Test.YtonmnfkibnflnaaGreatJ1
import Derived.Test.YtonmnfkibnflnaaGreatJ2
import Derived.Test.YtonmnfkibnflnaaGreatJ3
set_option linter.unusedVariables false
set_option linter.unusedSimpArgs false
set_option maxRecDepth 100000
set_option exponentiation.threshold 30000
namespace Go.Proofs.YtonmnfkibnflnaaGreat.R
open Go
noncomputable section
/-! ### function 88 -/
def T88 {ρ:Type} (ret:(Int)→Option ρ) (x:Int) (y:Int):Option ρ :=
 (AD (Aq 400 (AF y))
 (AD (Aq 400 (AF x)&&Aq 400 (LE [AF y]))
 (ret (AG (AF x)+AG (LE [AF y])))
 none)
 none)
def G88 (x:Int) (y:Int):Option (Int):=T88 some x y
theorem t88 (x:Int) (y:Int) (r:Int) (h:G88 x y=some r):AX Tryz.prog Tryz.f88.results.toList [.code (AT Tryz.f88)] (start Tryz.f88.ntmps ([AF x,AF y].map .f)) (AF r):=by
 refine AX.of_run Au Lb (T:=[]) (n:=200) ?_
 refine gE (Y:=T88 (fun r=>some (.ret (AF r))) x y) (by kernel_rfl) ?_
 exact (gS h (fun _ h=>(gS h (fun _ h=>gR (by cases h;rfl)) gN)) gN)
/-! ### function 51 -/
def kT (s:Bool) (t:Bool) (a:List Nat) (b:List Nat) (m:Nat) (n:Int) (i:Int) (g:Nat→F):St:=⟨Al 2 ((U.hp 0 0) :: (U.hp 1 0) :: (U.hp 2 0) :: (U.hs 3 m 0 m) :: Al 28 ((U.f (AL a)) :: (U.f (F.int .i64 n)) :: (U.f (F.int .i64 i)) :: Al 63 [])),[HO.box [(U.f (F.bool s)),(U.f (AL a))],HO.box [(U.f (F.bool t)),(U.f (AL b))],HO.box [(U.f (F.bool false)),U.nils],HO.arr 1 m g]⟩
def kS (s:Bool) (t:Bool) (a:List Nat) (b:List Nat) (m:Nat) (n:Int) (i:Int) (g:Nat→F) (x:Int) (c:Int) (nb:Int) (j:Int):St:=⟨Al 2 ((U.hp 0 0) :: (U.hp 1 0) :: (U.hp 2 0) :: (U.hs 3 m 0 m) :: (U.f (F.int .i64 i)) :: (U.f (F.int .u64 x)) :: (U.f (F.int .u64 c)) :: Al 25 ((U.f (AL a)) :: (U.f (F.int .i64 n)) :: (U.f (F.int .i64 i)) :: Al 5 ((U.f (AL b)) :: (U.f (F.int .i64 nb)) :: (U.f (F.int .i64 j)) :: Al 55 []))),[HO.box [(U.f (F.bool s)),(U.f (AL a))],HO.box [(U.f (F.bool t)),(U.f (AL b))],HO.box [(U.f (F.bool false)),U.nils],HO.arr 1 m g]⟩
abbrev KJ42 (ρ:Type):=(Bool)→(Bool)→(List Nat)→(List Nat)→(Nat)→(Int)→(Int)→(Nat→F)→(Int)→(Int)→(Int)→(Int)→Option ρ
abbrev KJ43 (ρ:Type):=(Bool)→(Bool)→(List Nat)→(List Nat)→(Nat)→(Int)→(Int)→(Nat→F)→Option ρ
def jW {ρ:Type} (ret:(Bool)→(Nat)→(Nat→F)→Option ρ) (c5:KJ43 ρ) (c9:KJ42 ρ) (s:Bool) (t:Bool) (a:List Nat) (b:List Nat) (m:Nat) (n:Int) (i:Int) (g:Nat→F):Option ρ :=
 (AD (decide (i<n))
 (AD (decide (0≤i))
 (AD (decide (i<(↑a.length:Int)))
 (c9 (s) (t) (a) (b) (m) (n) (i) (g) ((↑(a.getD i.toNat 0):Int)) (0) ((↑b.length:Int)) (0))
 none)
 none)
 (AD (decide (m=m))
 (AD (Ay (F.sl m (B9 0 g))&&BB 1000 (F.sl m (B9 0 g)))
 (ret (decide (sgn (!s==t) (val 18446744073709551616 (AS (F.sl m (B9 0 g))))<0)) ((AM 18446744073709551616 (sgn (!s==t) (val 18446744073709551616 (AS (F.sl m (B9 0 g))))).natAbs).length) (fun i ↦ BK ((AM 18446744073709551616 (sgn (!s==t) (val 18446744073709551616 (AS (F.sl m (B9 0 g))))).natAbs).getD i 0)))
 none)
 none))
def jV {ρ:Type} (ret:(Bool)→(Nat)→(Nat→F)→Option ρ) (c5:KJ43 ρ) (c9:KJ42 ρ) (s:Bool) (t:Bool) (a:List Nat) (b:List Nat) (m:Nat) (n:Int) (i:Int) (g:Nat→F) (x:Int) (c:Int) (nb:Int) (j:Int):Option ρ :=
 (AD (decide (j<nb))
 (AD (decide (0≤j))
 (AD (decide (j<(↑b.length:Int)))
 (AD (ZJ x (↑(b.getD j.toNat 0):Int))
 (AD (ED (Hk x (↑(b.getD j.toNat 0):Int)) c 0)
 (AD (decide (m=m))
 (AD (decide (0≤IntKind.i64.wrap (i+j)))
 (AD (decide (IntKind.i64.wrap (i+j)<(↑m:Int)))
 (AD (decide (m=m))
 (AD (decide (0+(IntKind.i64.wrap (i+j)).toNat<m))
 (AD (decide ((g (0+(IntKind.i64.wrap (i+j)).toNat)).cells.length=1))
 (AD (okV (Value.int IntKind.u64 0) ((List.drop 0 (g (0+(IntKind.i64.wrap (i+j)).toNat)).cells).headD F.dflt)&&true)
 (AD (ED (Hl ((List.drop 0 (g (0+(IntKind.i64.wrap (i+j)).toNat)).cells).headD F.dflt)) (Hm (Hk x (↑(b.getD j.toNat 0):Int)) c 0) 0)
 (AD (decide (m=m))
 (AD (decide (0≤IntKind.i64.wrap (i+j)))
 (AD (decide (IntKind.i64.wrap (i+j)<(↑m:Int)))
 (AD (decide (m=m))
 (AD (decide (0+(IntKind.i64.wrap (i+j)).toNat<m))
 (AD (decide ((g (0+(IntKind.i64.wrap (i+j)).toNat)).cells.length=1))
 (AD ((Cd (g (0+(IntKind.i64.wrap (i+j)).toNat)) || true)&&true)
 (c9 (s) (t) (a) (b) (m) (n) (i) (fun j_1 ↦ if j_1=0+(IntKind.i64.wrap (i+j)).toNat then F.int .u64 (Hm (Hl ((List.drop 0 (g (0+(IntKind.i64.wrap (i+j)).toNat)).cells).headD F.dflt)) (Hm (Hk x (↑(b.getD j.toNat 0):Int)) c 0) 0) else g j_1) (x) (IntKind.u64.wrap (IntKind.u64.wrap (Pq x (↑(b.getD j.toNat 0):Int)+Ks (Hk x (↑(b.getD j.toNat 0):Int)) c 0)+Ks (Hl ((List.drop 0 (g (0+(IntKind.i64.wrap (i+j)).toNat)).cells).headD F.dflt)) (Hm (Hk x (↑(b.getD j.toNat 0):Int)) c 0) 0)) (nb) (IntKind.i64.wrap (j+1)))
 none)
 none)
 none)
 none)
 none)
 none)
 none)
 none)
 none)
 none)
 none)
 none)
 none)
 none)
 none)
 none)
 none)
 none)
 none)
 (AD (decide (m=m))
 (AD (decide (0≤IntKind.i64.wrap (i+(↑b.length:Int))))
 (AD (decide (IntKind.i64.wrap (i+(↑b.length:Int))<(↑m:Int)))
 (AD (decide (m=m))
 (AD (decide (0+(IntKind.i64.wrap (i+(↑b.length:Int))).toNat<m))
 (AD (decide ((g (0+(IntKind.i64.wrap (i+(↑b.length:Int))).toNat)).cells.length=1))
 (AD ((Cd (g (0+(IntKind.i64.wrap (i+(↑b.length:Int))).toNat)) || true)&&true)
 (c5 (s) (t) (a) (b) (m) (n) (IntKind.i64.wrap (i+1)) (fun j ↦ if j=0+(IntKind.i64.wrap (i+(↑b.length:Int))).toNat then F.int .u64 c else g j))
 none)
 none)
 none)
 none)
 none)
 none)
 none))
mutual
def P9:Nat→(Bool)→(Bool)→(List Nat)→(List Nat)→(Nat)→(Int)→(Int)→(Nat→F)→Option ((Bool) × (Nat) × (Nat→F))
 | 0,_,_,_,_,_,_,_,_=>none
 | k+1,s,t,a,b,m,n,i,g=>jW (fun rb rn rg=>some (rb,rn,rg)) (P9 k) (So k) s t a b m n i g
def So:Nat→(Bool)→(Bool)→(List Nat)→(List Nat)→(Nat)→(Int)→(Int)→(Nat→F)→(Int)→(Int)→(Int)→(Int)→Option ((Bool) × (Nat) × (Nat→F))
 | 0,_,_,_,_,_,_,_,_,_,_,_,_=>none
 | k+1,s,t,a,b,m,n,i,g,x,c,nb,j=>jV (fun rb rn rg=>some (rb,rn,rg)) (P9 k) (So k) s t a b m n i g x c nb j
end
def T51 {ρ:Type} (ret:(Bool)→(Nat)→(Nat→F)→Option ρ) (c5:KJ43 ρ) (c9:KJ42 ρ) (x:Int) (y:Int):Option ρ :=
 (AD (((↑(AM 18446744073709551616 x.natAbs).length:Int)==0)==false)
 (AD ((↑(AM 18446744073709551616 y.natAbs).length:Int)==0)
 (ret (false) (0) (fun x ↦ F.bool false))
 (AD (decide (0≤IntKind.i64.wrap ((↑(AM 18446744073709551616 x.natAbs).length:Int)+(↑(AM 18446744073709551616 y.natAbs).length:Int))))
 (AD (decide (IntKind.i64.wrap ((↑(AM 18446744073709551616 x.natAbs).length:Int)+(↑(AM 18446744073709551616 y.natAbs).length:Int))≤IntKind.i64.wrap ((↑(AM 18446744073709551616 x.natAbs).length:Int)+(↑(AM 18446744073709551616 y.natAbs).length:Int))))
 (AD (decide (IntKind.i64.wrap ((↑(AM 18446744073709551616 x.natAbs).length:Int)+(↑(AM 18446744073709551616 y.natAbs).length:Int))*(((8:Nat):Int)+1)≤(↑Bs:Int)))
 (c5 (decide (x<0)) (decide (y<0)) (AM 18446744073709551616 x.natAbs) (AM 18446744073709551616 y.natAbs) ((IntKind.i64.wrap ((↑(AM 18446744073709551616 x.natAbs).length:Int)+(↑(AM 18446744073709551616 y.natAbs).length:Int))).toNat) ((↑(AM 18446744073709551616 x.natAbs).length:Int)) (0) (fun x ↦ F.int .u64 0))
 none)
 none)
 none))
 (ret (false) (0) (fun x ↦ F.bool false)))
def G51 (k:Nat) (x:Int) (y:Int):Option ((Bool) × (Nat) × (Nat→F)):=T51 (fun rb rn rg=>some (rb,rn,rg)) (P9 k) (So k) x y
mutual
theorem t51_5:∀ (k:Nat) (s:Bool) (t:Bool) (a:List Nat) (b:List Nat) (m:Nat) (n:Int) (i:Int) (g:Nat→F) (rb:Bool) (rn:Nat) (rg:Nat→F),P9 k s t a b m n i g=some (rb,rn,rg)→AX Tryz.prog Tryz.f51.results.toList (at_ Tryz.f51 5) (kT s t a b m n i g) (F.agg [F.bool rb,F.sl rn rg])
 | 0,_,_,_,_,_,_,_,_,_,_,_,h=>nomatch h
 | k+1,s,t,a,b,m,n,i,g,rb,rn,rg,h=>by
  refine AX.of_cut Au Lb (T:=[(5,[2,3,4,5,34,35,36],1000),(9,[2,3,4,5,6,7,8,34,35,36,42,43,44],1000)]) (n:=200) ?_
  refine gE (Y:=jW (fun rb rn rg=>some (.ret (F.agg [F.bool rb,F.sl rn rg]))) (fun s t a b m n i g=>some (.cut (at_ Tryz.f51 5) (kT s t a b m n i g))) (fun s t a b m n i g x c nb j=>some (.cut (at_ Tryz.f51 9) (kS s t a b m n i g x c nb j))) s t a b m n i g) (by kernel_rfl) ?_
  exact (gS h (fun _ h=>(gS h (fun _ h=>(gS h (fun _ h=>gC (t51_9 k _ _ _ _ _ _ _ _ _ _ _ _ rb rn rg h)) gN)) gN)) (fun _ h=>(gS h (fun _ h=>(gS h (fun _ h=>gR (by cases h;rfl)) gN)) gN)))
theorem t51_9:∀ (k:Nat) (s:Bool) (t:Bool) (a:List Nat) (b:List Nat) (m:Nat) (n:Int) (i:Int) (g:Nat→F) (x:Int) (c:Int) (nb:Int) (j:Int) (rb:Bool) (rn:Nat) (rg:Nat→F),So k s t a b m n i g x c nb j=some (rb,rn,rg)→AX Tryz.prog Tryz.f51.results.toList (at_ Tryz.f51 9) (kS s t a b m n i g x c nb j) (F.agg [F.bool rb,F.sl rn rg])
 | 0,_,_,_,_,_,_,_,_,_,_,_,_,_,_,_,h=>nomatch h
 | k+1,s,t,a,b,m,n,i,g,x,c,nb,j,rb,rn,rg,h=>by
  refine AX.of_cut Au Lb (T:=[(5,[2,3,4,5,34,35,36],1000),(9,[2,3,4,5,6,7,8,34,35,36,42,43,44],1000)]) (n:=200) ?_
  refine gE (Y:=jV (fun rb rn rg=>some (.ret (F.agg [F.bool rb,F.sl rn rg]))) (fun s t a b m n i g=>some (.cut (at_ Tryz.f51 5) (kT s t a b m n i g))) (fun s t a b m n i g x c nb j=>some (.cut (at_ Tryz.f51 9) (kS s t a b m n i g x c nb j))) s t a b m n i g x c nb j) (by kernel_rfl) ?_
  exact (gS h (fun _ h=>(gS h (fun _ h=>(gS h (fun _ h=>(gS h (fun _ h=>(gS h (fun _ h=>(gS h (fun _ h=>(gS h (fun _ h=>(gS h (fun _ h=>(gS h (fun _ h=>(gS h (fun _ h=>(gS h (fun _ h=>(gS h (fun _ h=>(gS h (fun _ h=>(gS h (fun _ h=>(gS h (fun _ h=>(gS h (fun _ h=>(gS h (fun _ h=>(gS h (fun _ h=>(gS h (fun _ h=>(gS h (fun _ h=>gC (t51_9 k _ _ _ _ _ _ _ _ _ _ _ _ rb rn rg h)) gN)) gN)) gN)) gN)) gN)) gN)) gN)) gN)) gN)) gN)) gN)) gN)) gN)) gN)) gN)) gN)) gN)) gN)) gN)) (fun _ h=>(gS h (fun _ h=>(gS h (fun _ h=>(gS h (fun _ h=>(gS h (fun _ h=>(gS h (fun _ h=>(gS h (fun _ h=>(gS h (fun _ h=>gC (t51_5 k _ _ _ _ _ _ _ _ rb rn rg h)) gN)) gN)) gN)) gN)) gN)) gN)) gN)))
end
theorem t51 (k:Nat) (x:Int) (y:Int) (rb:Bool) (rn:Nat) (rg:Nat→F) (h:G51 k x y=some (rb,rn,rg)):AX Tryz.prog Tryz.f51.results.toList [.code (AT Tryz.f51)] (start Tryz.f51.ntmps ([AF x,AF y].map .f)) (F.agg [F.bool rb,F.sl rn rg]):=by
 refine AX.of_run Au Lb (T:=[(5,[2,3,4,5,34,35,36],1000),(9,[2,3,4,5,6,7,8,34,35,36,42,43,44],1000)]) (n:=200) ?_
 refine gE (Y:=T51 (fun rb rn rg=>some (.ret (F.agg [F.bool rb,F.sl rn rg]))) (fun s t a b m n i g=>some (.cut (at_ Tryz.f51 5) (kT s t a b m n i g))) (fun s t a b m n i g x c nb j=>some (.cut (at_ Tryz.f51 9) (kS s t a b m n i g x c nb j))) x y) (by kernel_rfl) ?_
 exact (gS h (fun _ h=>(gS h (fun _ h=>gR (by cases h;rfl)) (fun _ h=>(gS h (fun _ h=>(gS h (fun _ h=>(gS h (fun _ h=>gC (t51_5 k _ _ _ _ _ _ _ _ rb rn rg h)) gN)) gN)) gN)))) (fun _ h=>gR (by cases h;rfl)))
theorem OZ {m p v:Nat} {g:Nat→F} {o:List Nat} (ho:o.length=m) (hp:p<m) (hg:∀ j,j<m→g j=BK (o.getD j 0)) :
  ∀ j,j<m→(fun j=>if j=0+p then F.int .u64 (v:Int) else g j) j=BK ((o.set p v).getD j 0):=by
 intro j hj
 show (if j=0+p then F.int .u64 (v:Int) else g j)=_
 by_cases h:j=0+p
 ·rw [if_pos h,h,Nat.zero_add]
  simp [List.getD,BK,show p<o.length by omega]
 ·rw [if_neg h,hg j hj]
  simp [List.getD,List.getElem?_set,show p ≠ j by omega]
theorem OA {o:List Nat} {p v j:Nat} (h:j ≠ p):(o.set p v).getD j 0=o.getD j 0:=by
 simp [List.getD,List.getElem?_set,Ne.symm h]
theorem LO {x y:Nat}:Hk x y=((x*y % 18446744073709551616:Nat):Int)∧Pq x y=((x*y / 18446744073709551616:Nat):Int):=by
 unfold Hk Pq
 rw [← Int.natCast_mul]
 omega
theorem mC {x y o c:Nat} (hx:x<18446744073709551616) (hy:y<18446744073709551616) (ho:o<18446744073709551616) (hc:c<18446744073709551616) :
  Hm (o:Int) (Hm (Hk x y) c 0) 0=(((x*y+o+c) % 18446744073709551616:Nat):Int) ∧
  IntKind.u64.wrap (IntKind.u64.wrap (Pq x y+Ks (Hk x y) c 0)+Ks (o:Int) (Hm (Hk x y) c 0) 0)=(((x*y+o+c) / 18446744073709551616:Nat):Int) ∧
  ED (Hk x y) c 0=true∧ED (o:Int) (Hm (Hk x y) c 0) 0=true∧ZJ x y=true∧(x*y+o+c) / 18446744073709551616<18446744073709551616:=by
 have h:=ZA (B:=18446744073709551616) (by omega) hx hy ho hc
 rw [LO.1,LO.2]
 simp only [HU,VF,Dw]
 unfold Hm Ks
 generalize x*y=p at *
 refine ⟨by omega,by omega,by omega,by omega,by omega,h⟩
theorem XE (v:Nat):(List.drop 0 (BK v).cells).headD F.dflt=BK v:=rfl
theorem Wj (v:Nat):(okV (Value.int IntKind.u64 0) (BK v)&&true)=true:=rfl
theorem PB (v:Nat):Hl (BK v)=(v:Int):=rfl
theorem Xn {B:Nat} {o:List Nat} {p c x y:Nat} (hp:p<o.length) :
  val B (o.set p ((x*y+o.getD p 0+c) % B))+B ^ (p+1)*((x*y+o.getD p 0+c) / B)=val B o+B ^ p*c+B ^ p*(x*y):=by
 have h1:=NT B o p ((x*y+o.getD p 0+c) % B) hp
 have h2:=Nat.mod_add_div (x*y+o.getD p 0+c) B
 have h3:B ^ p*(x*y+o.getD p 0+c)=B ^ p*((x*y+o.getD p 0+c) % B)+B ^ (p+1)*((x*y+o.getD p 0+c) / B):=by
  rw [Nat.pow_succ,Nat.mul_assoc,← Nat.mul_add,h2]
 rw [Nat.mul_add,Nat.mul_add] at h3
 omega
theorem HH {B:Nat} {l:List Nat} {j:Nat} (h:j<l.length):val B (l.take (j+1))=val B (l.take j)+B ^ j*l.getD j 0:=by
 rw [List.take_add_one,Jw]
 simp [List.getD,List.getElem?_eq_getElem h,val,Nat.min_eq_left (Nat.le_of_lt h)]
theorem aP {s t:Bool} {a b:List Nat} {m i x:Nat} {n:Int} (ob:okD 18446744073709551616 b) (hx:x<18446744073709551616) (hm:m=a.length+b.length) (hi:i<a.length) (hl:m≤900) :
  ∀ (r j c k:Nat) (o:List Nat) (g:Nat→F),r+j=b.length→o.length=m→okD 18446744073709551616 o→c<18446744073709551616→(∀ q,i+j≤q→(j=0 ∨ i+b.length≤q)→(i+b.length≤q→o.getD q 0=0)) →
   (∀ q,q<m→g q=BK (o.getD q 0))→r<k →
   ∃ o' g',So (k+1) s t a b m n i g x c b.length j=P9 (k-r) s t a b m n ((i+1:Nat):Int) g'∧o'.length=m∧okD 18446744073709551616 o'∧(∀ q,i+1+b.length≤q→o'.getD q 0=0) ∧
    (∀ q,q<m→g' q=BK (o'.getD q 0))∧val 18446744073709551616 o'+18446744073709551616 ^ i*x*val 18446744073709551616 (b.take j)=val 18446744073709551616 o+18446744073709551616 ^ (i+j)*c+18446744073709551616 ^ i*x*val 18446744073709551616 b
 | r,j,c,0,o,g,_,_,_,_,_,_,hk=>by omega
 | 0,j,c,k+1,o,g,hr,ho,oo,hc,hz,hg,hk=>by
  obtain rfl:j=b.length:=by omega
  have hp:i+b.length<m:=by omega
  have ei:IntKind.i64.wrap ((i:Int)+(b.length:Int))=((i+b.length:Nat):Int):=by rw [As (by omega) (by omega)];omega
  have e1:IntKind.i64.wrap ((i:Int)+1)=((i+1:Nat):Int):=by rw [As (by omega) (by omega)];omega
  refine ⟨o.set (i+b.length) c,_,?_,by simp [ho],Nv oo hc,?_,OZ ho hp hg,?_⟩
  ·rw [So]
   unfold jV
   rw [decide_eq_false (show ¬ (b.length:Int)<b.length by omega),AJ,ei,e1,Int.toNat_natCast,decide_eq_true (show (0:Int)≤((i+b.length:Nat):Int) by omega),decide_eq_true (show ((i+b.length:Nat):Int)<(m:Int) by omega),decide_eq_true (show m=m from rfl),decide_eq_true (show 0+(i+b.length)<m by omega),hg (0+(i+b.length)) (by omega),decide_eq_true (DO _),EW]
   rfl
  ·intro q hq
   rw [OA (by omega)]
   exact hz q (by omega) (.inr (by omega)) (by omega)
  ·have h1:=NT 18446744073709551616 o (i+b.length) c (by omega)
   rw [hz (i+b.length) (by omega) (.inr (by omega)) (by omega),Nat.mul_zero,Nat.add_zero] at h1
   rw [h1,List.take_length]
 | r+1,j,c,k+1,o,g,hr,ho,oo,hc,hz,hg,hk=>by
  have hj:j<b.length:=by omega
  have hp:i+j<m:=by omega
  have hy:=Dk ob hj
  have hov:=Dk oo (show i+j<o.length by omega)
  obtain ⟨c1,c2,c3,c4,c5,c6⟩:=mC hx hy hov hc
  have ei:IntKind.i64.wrap ((i:Int)+(j:Int))=((i+j:Nat):Int):=by rw [As (by omega) (by omega)];omega
  have e1:IntKind.i64.wrap ((j:Int)+1)=((j+1:Nat):Int):=by rw [As (by omega) (by omega)];omega
  obtain ⟨o',g',h1,h2,h3,h4,h5,h6⟩:=aP (s:=s) (t:=t) (n:=n) ob hx hm hi hl r (j+1) ((x*b.getD j 0+o.getD (i+j) 0+c) / 18446744073709551616) k (o.set (i+j) ((x*b.getD j 0+o.getD (i+j) 0+c) % 18446744073709551616)) _ (by omega) (by simp [ho]) (Nv oo (Nat.mod_lt _ (by omega))) c6
   (fun q hq _ hq2=>by rw [OA (by omega)];exact hz q (by omega) (.inr hq2) hq2) (OZ ho hp hg) (by omega)
  refine ⟨o',g',?_,h2,h3,h4,h5,?_⟩
  ·rw [show k+1-(r+1)=k-r by omega,← h1]
   conv=>lhs;rw [So]
   unfold jV
   rw [decide_eq_true (show (j:Int)<b.length by omega),decide_eq_true (show (0:Int)≤(j:Int) by omega),ei,e1,Int.toNat_natCast,Int.toNat_natCast,decide_eq_true (show (0:Int)≤((i+j:Nat):Int) by omega),decide_eq_true (show ((i+j:Nat):Int)<(m:Int) by omega),decide_eq_true (show m=m from rfl),decide_eq_true (show 0+(i+j)<m by omega),hg (0+(i+j)) (by omega),decide_eq_true (DO _),XE,Wj,PB,EW,Nat.zero_add,c1,c2,c3,c4,c5]
   rfl
  ·have hs:=Xn (B:=18446744073709551616) (o:=o) (p:=i+j) (c:=c) (x:=x) (y:=b.getD j 0) (by omega)
   have ht:=HH (B:=18446744073709551616) (l:=b) hj
   rw [ht,Nat.mul_add] at h6
   have e2:18446744073709551616 ^ (i+j)*(x*b.getD j 0)=18446744073709551616 ^ i*x*(18446744073709551616 ^ j*b.getD j 0):=by
    rw [Nat.pow_add,Nat.mul_assoc,Nat.mul_assoc]
    congr 1
    rw [Nat.mul_left_comm]
   rw [show i+(j+1)=i+j+1 by omega] at h6
   omega
theorem aO {s t:Bool} {a b:List Nat} {m:Nat} (oa:okD 18446744073709551616 a) (ob:okD 18446744073709551616 b) (hm:m=a.length+b.length) (hl:m≤900) :
  ∀ (r i k:Nat) (o:List Nat) (g:Nat→F),r+i=a.length→o.length=m→okD 18446744073709551616 o→(∀ q,i+b.length≤q→o.getD q 0=0)→(∀ q,q<m→g q=BK (o.getD q 0))→val 18446744073709551616 o=val 18446744073709551616 (a.take i)*val 18446744073709551616 b →
   r*(b.length+3)<k→∃ sb rn rg,P9 k s t a b m a.length i g=some (sb,rn,rg)∧F.agg [.bool sb,.sl rn rg]=AF (sgn (!(s==t)) (val 18446744073709551616 a*val 18446744073709551616 b))
 | r,i,0,o,g,_,_,_,_,_,_,hk=>by omega
 | 0,i,k+1,o,g,hr,ho,oo,hz,hg,hv,hk=>by
  obtain rfl:i=a.length:=by omega
  rw [List.take_length] at hv
  rw [P9]
  unfold jW
  rw [decide_eq_false (show ¬ (a.length:Int)<a.length by omega),AJ,show B9 0 g=g from rfl,D3 ho hg,DZ ho hg oo,show BB 1000 (.sl m g)=true from Nat.ble_eq_true_of_le (by omega),hv,decide_eq_true (show m=m from rfl)]
  exact ⟨_,_,_,rfl,rfl⟩
 | r+1,i,k+1,o,g,hr,ho,oo,hz,hg,hv,hk=>by
  have hi:i<a.length:=by omega
  have hx:=Dk oa hi
  rw [Nat.add_mul,Nat.one_mul] at hk
  obtain ⟨k',rfl⟩:∃ k',k=k'+1:=⟨k-1,by omega⟩
  obtain ⟨o',g',h1,h2,h3,h4,h5,h6⟩:=aP (s:=s) (t:=t) (n:=(a.length:Int)) ob hx hm hi hl b.length 0 0 k' o g (by omega) ho oo (by omega) (fun q _ _ hq=>hz q hq) hg (by omega)
  have hv':val 18446744073709551616 o'=val 18446744073709551616 (a.take (i+1))*val 18446744073709551616 b:=by
   rw [HH hi,Nat.add_mul,← hv]
   simp only [List.take_zero,val,Nat.mul_zero,Nat.add_zero] at h6
   exact h6
  obtain ⟨sb,rn,rg,g1,g2⟩:=aO (s:=s) (t:=t) oa ob hm hl r (i+1) (k'-b.length) o' g' (by omega) h2 h3 (fun q hq=>h4 q hq) h5 hv' (by omega)
  refine ⟨sb,rn,rg,?_,g2⟩
  rw [← g1,P9]
  unfold jW
  rw [decide_eq_true (show (i:Int)<a.length by omega),decide_eq_true (show (0:Int)≤(i:Int) by omega),Int.toNat_natCast]
  exact h1
theorem fW (x y:Int):sgn (!(decide (x<0)==decide (y<0))) (x.natAbs*y.natAbs)=x*y:=by
 have e:((x.natAbs*y.natAbs:Nat):Int)=(x*y).natAbs:=by rw [Int.natAbs_mul]
 unfold sgn
 rw [e]
 by_cases hx:x<0 <;> by_cases hy:y<0
 ·rw [decide_eq_true hx,decide_eq_true hy]
  have:=Int.mul_pos_of_neg_of_neg hx hy
  simp;omega
 ·rw [decide_eq_true hx,decide_eq_false hy]
  have:=Int.mul_nonpos_of_nonpos_of_nonneg (Int.le_of_lt hx) (Int.not_lt.1 hy)
  simp;omega
 ·rw [decide_eq_false hx,decide_eq_true hy]
  have:=Int.mul_nonpos_of_nonneg_of_nonpos (Int.not_lt.1 hx) (Int.le_of_lt hy)
  simp;omega
 ·rw [decide_eq_false hx,decide_eq_false hy]
  have:=Int.mul_nonneg (Int.not_lt.1 hx) (Int.not_lt.1 hy)
  simp;omega
theorem by_law {x y:Int} (hx:x.natAbs<18446744073709551616 ^ 400) (hy:y.natAbs<18446744073709551616 ^ 400):∃ sb rn rg,G51 200000 x y=some (sb,rn,rg)∧FLe (F.agg [.bool sb,.sl rn rg]) (AF (x*y)):=by
 have lx:=EX hx
 have ly:=EX hy
 have z:FLe (F.agg [.bool false,.sl 0 fun _=>F.bool false]) (AF 0):=by
  unfold AF
  rw [show AM 18446744073709551616 (Int.natAbs 0)=[] from BU _]
  exact FLe.agg ⟨.refl _,FLe.sl fun j hj=>by omega,trivial⟩
 unfold G51 T51
 by_cases hx0:x=0
 ·subst hx0
  rw [show AM 18446744073709551616 (Int.natAbs 0)=[] from BU _,Int.zero_mul]
  exact ⟨_,_,_,rfl,z⟩
 by_cases hy0:y=0
 ·subst hy0
  rw [show AM 18446744073709551616 (Int.natAbs 0)=[] from BU _,Int.mul_zero]
  have:(((AM 18446744073709551616 x.natAbs).length:Int)==0)=false:=by
   have:=C5 (n:=x.natAbs).2 (by omega)
   simp only [beq_eq_false_iff_ne,ne_eq];omega
  rw [this]
  exact ⟨_,_,_,rfl,z⟩
 have px:=C5 (n:=x.natAbs).2 (by omega)
 have py:=C5 (n:=y.natAbs).2 (by omega)
 have ew:IntKind.i64.wrap (((AM 18446744073709551616 x.natAbs).length:Int)+((AM 18446744073709551616 y.natAbs).length:Int))=(((AM 18446744073709551616 x.natAbs).length+(AM 18446744073709551616 y.natAbs).length:Nat):Int):=by
  rw [As (by omega) (by omega)];omega
 rw [ew,show (((AM 18446744073709551616 x.natAbs).length:Int)==0)=false by simp only [beq_eq_false_iff_ne,ne_eq];omega,show (((AM 18446744073709551616 y.natAbs).length:Int)==0)=false by simp only [beq_eq_false_iff_ne,ne_eq];omega]
 rw [decide_eq_true (show (0:Int)≤(((AM 18446744073709551616 x.natAbs).length+(AM 18446744073709551616 y.natAbs).length:Nat):Int) by omega),decide_eq_true (Int.le_refl _),decide_eq_true (GW (show (AM 18446744073709551616 x.natAbs).length+(AM 18446744073709551616 y.natAbs).length≤1000 by omega)),Int.toNat_natCast]
 have fuel:(AM 18446744073709551616 x.natAbs).length*((AM 18446744073709551616 y.natAbs).length+3)<200000:=Nat.lt_of_le_of_lt (Nat.mul_le_mul lx (show (AM 18446744073709551616 y.natAbs).length+3≤403 by omega)) (by decide)
 obtain ⟨sb,rn,rg,h1,h2⟩:=aO (s:=decide (x<0)) (t:=decide (y<0)) (a:=AM 18446744073709551616 x.natAbs) (b:=AM 18446744073709551616 y.natAbs) (BG (by omega) _) (BG (by omega) _) rfl (by omega) (AM 18446744073709551616 x.natAbs).length 0 200000 (List.replicate ((AM 18446744073709551616 x.natAbs).length+(AM 18446744073709551616 y.natAbs).length) 0) (fun _=>F.int .u64 0) rfl (by simp)
  (fun w hw=>by have:=(List.mem_replicate.1 hw).2;omega) (fun q hq=>by simp [List.getD,List.getElem?_replicate];split <;> rfl) (fun q hq=>by simp [List.getD,List.getElem?_replicate,BK,hq]) (by rw [L4];simp [val]) fuel
 rw [DN,DN,fW] at h2
 exact ⟨sb,rn,rg,h1,by rw [h2];exact .refl _⟩
def AN:List F→F | [x,y]=>AF (AG x*AG y) | _=>.dflt
theorem okBy:Ak Tryz.prog 51 (Me 400) AN :=
 Ad (c:=AT Tryz.f51) Tryz.func51 (by kernel_rfl) (by kernel_rfl) fun xs hp=>match xs,hp with
 | [x,y],hp=>by
  obtain ⟨hx,hy⟩:=MI hp
  obtain ⟨sb,rn,rg,h1,h2⟩:=by_law (BA hx) (BA hy)
  exact ⟨[AF (AG x),AF (AG y)],_,⟨(D8 hx).1,(D8 hy).1,trivial⟩,t51 200000 _ _ _ _ _ h1,h2⟩
theorem sX {x y:Int} (hx:x.natAbs<18446744073709551616 ^ 400) (hy:y.natAbs<18446744073709551616 ^ 400):G88 x y=some (x-y):=by
 unfold G88 T88
 have h1:(-y).natAbs<18446744073709551616 ^ 400:=by rw [Int.natAbs_neg];exact hy
 simp only [LE,B4,B6 hx,B6 hy,B6 h1,Bool.and_self,AH]
 congr 1
def CL:List F→F | [x,y]=>AF (AG x-AG y) | _=>.dflt
theorem okLess2:Ak Tryz.prog 88 (Me 400) CL :=
 Ad (c:=AT Tryz.f88) Tryz.func88 (by kernel_rfl) (by kernel_rfl) fun xs hp=>match xs,hp with
 | [x,y],hp=>by
  obtain ⟨hx,hy⟩:=MI hp
  exact ⟨[AF (AG x),AF (AG y)],_,⟨(D8 hx).1,(D8 hy).1,trivial⟩,t88 _ _ _ (sX (BA hx) (BA hy)),.refl _⟩
def envN9:Env:=(envN8.add 51 (.pure (Me 400) AN)).add 88 (.pure (Me 400) CL)
theorem Zq:Az Tryz.prog envN9:=(Env.add_ok (Env.add_ok Lb okBy.sp) okLess2.sp)
end
noncomputable section
def AZ (n:Nat):Nat:=if n=0 then 0 else n.log2+1
theorem CW {n j:Nat}:AZ n≤j ↔ n<2 ^ j:=by
 unfold AZ
 by_cases h:n=0
 ·rw [if_pos h];subst h;simp [Nat.pow_pos]
 ·rw [if_neg h,Nat.add_one_le_iff,Nat.log2_lt h]
theorem Hu {n k:Nat} (h:2 ^ k≤n):AZ n=k+AZ (n / 2 ^ k):=by
 have key:∀ j,AZ n≤j ↔ k+AZ (n / 2 ^ k)≤j:=by
  intro j
  rcases Nat.lt_or_ge j k with hj | hj
  ·have h1:¬ AZ n≤j:=by
    rw [CW]
    have:=Nat.pow_le_pow_right (show 0<2 by omega) (Nat.le_of_lt hj)
    omega
   exact ⟨fun x=>absurd x h1,fun x=>by omega⟩
  ·have:AZ (n / 2 ^ k)≤j-k ↔ n / 2 ^ k<2 ^ (j-k):=CW
   rw [Nat.div_lt_iff_lt_mul (Nat.pow_pos (by omega)),← Nat.pow_add,Nat.sub_add_cancel hj,← CW] at this
   omega
 have h1:=(key (AZ n)).1 (Nat.le_refl _)
 have h2:=(key (k+AZ (n / 2 ^ k))).2 (Nat.le_refl _)
 omega
def GX:ByteArray:=ByteArray.mk (([0,1,2,2,3,3,3,3,4,4,4,4,4,4,4,4]++List.replicate 16 5++List.replicate 32 6++List.replicate 64 7++List.replicate 128 8:List UInt8).toArray)
/-! ### function 103 -/
def T103 {ρ:Type} (ret:(Int)→Option ρ) (x:Nat):Option ρ :=
 (AD (decide ((↑x:Int) ≥ 4294967296))
 (AD (decide ((↑x:Int).fdiv (2 ^ 32) ≥ 65536))
 (AD (decide (((↑x:Int).fdiv (2 ^ 32)).fdiv (2 ^ 16) ≥ 256))
 (AD (decide (0≤IntKind.u8.wrap ((((↑x:Int).fdiv (2 ^ 32)).fdiv (2 ^ 16)).fdiv (2 ^ 8))))
 (AD (decide (IntKind.u8.wrap ((((↑x:Int).fdiv (2 ^ 32)).fdiv (2 ^ 16)).fdiv (2 ^ 8))<((256:Nat):Int)))
 (ret (IntKind.i64.wrap (IntKind.i64.wrap (IntKind.i64.wrap (32+16)+8)+IntKind.i64.wrap (CP GX (IntKind.u8.wrap ((((↑x:Int).fdiv (2 ^ min (Int.toNat 32) IntKind.u64.bits)).fdiv (2 ^ min (Int.toNat 16) IntKind.u64.bits)).fdiv (2 ^ min (Int.toNat 8) IntKind.u64.bits)))))))
 none)
 none)
 (AD (decide (0≤IntKind.u8.wrap (((↑x:Int).fdiv (2 ^ 32)).fdiv (2 ^ 16))))
 (AD (decide (IntKind.u8.wrap (((↑x:Int).fdiv (2 ^ 32)).fdiv (2 ^ 16))<((256:Nat):Int)))
 (ret (IntKind.i64.wrap (IntKind.i64.wrap (32+16)+IntKind.i64.wrap (CP GX (IntKind.u8.wrap (((↑x:Int).fdiv (2 ^ min (Int.toNat 32) IntKind.u64.bits)).fdiv (2 ^ min (Int.toNat 16) IntKind.u64.bits)))))))
 none)
 none))
 (AD (decide ((↑x:Int).fdiv (2 ^ 32) ≥ 256))
 (AD (decide (0≤IntKind.u8.wrap (((↑x:Int).fdiv (2 ^ 32)).fdiv (2 ^ 8))))
 (AD (decide (IntKind.u8.wrap (((↑x:Int).fdiv (2 ^ 32)).fdiv (2 ^ 8))<((256:Nat):Int)))
 (ret (IntKind.i64.wrap (IntKind.i64.wrap (32+8)+IntKind.i64.wrap (CP GX (IntKind.u8.wrap (((↑x:Int).fdiv (2 ^ min (Int.toNat 32) IntKind.u64.bits)).fdiv (2 ^ min (Int.toNat 8) IntKind.u64.bits)))))))
 none)
 none)
 (AD (decide (0≤IntKind.u8.wrap ((↑x:Int).fdiv (2 ^ 32))))
 (AD (decide (IntKind.u8.wrap ((↑x:Int).fdiv (2 ^ 32))<((256:Nat):Int)))
 (ret (IntKind.i64.wrap (32+IntKind.i64.wrap (CP GX (IntKind.u8.wrap ((↑x:Int).fdiv (2 ^ min (Int.toNat 32) IntKind.u64.bits)))))))
 none)
 none)))
 (AD (decide ((↑x:Int) ≥ 65536))
 (AD (decide ((↑x:Int).fdiv (2 ^ 16) ≥ 256))
 (AD (decide (0≤IntKind.u8.wrap (((↑x:Int).fdiv (2 ^ 16)).fdiv (2 ^ 8))))
 (AD (decide (IntKind.u8.wrap (((↑x:Int).fdiv (2 ^ 16)).fdiv (2 ^ 8))<((256:Nat):Int)))
 (ret (IntKind.i64.wrap (IntKind.i64.wrap (IntKind.i64.wrap (0+16)+8)+IntKind.i64.wrap (CP GX (IntKind.u8.wrap (((↑x:Int).fdiv (2 ^ min (Int.toNat 16) IntKind.u64.bits)).fdiv (2 ^ min (Int.toNat 8) IntKind.u64.bits)))))))
 none)
 none)
 (AD (decide (0≤IntKind.u8.wrap ((↑x:Int).fdiv (2 ^ 16))))
 (AD (decide (IntKind.u8.wrap ((↑x:Int).fdiv (2 ^ 16))<((256:Nat):Int)))
 (ret (IntKind.i64.wrap (IntKind.i64.wrap (0+16)+IntKind.i64.wrap (CP GX (IntKind.u8.wrap ((↑x:Int).fdiv (2 ^ min (Int.toNat 16) IntKind.u64.bits)))))))
 none)
 none))
 (AD (decide ((↑x:Int) ≥ 256))
 (AD (decide (0≤IntKind.u8.wrap ((↑x:Int).fdiv (2 ^ 8))))
 (AD (decide (IntKind.u8.wrap ((↑x:Int).fdiv (2 ^ 8))<((256:Nat):Int)))
 (ret (IntKind.i64.wrap (IntKind.i64.wrap (0+8)+IntKind.i64.wrap (CP GX (IntKind.u8.wrap ((↑x:Int).fdiv (2 ^ min (Int.toNat 8) IntKind.u64.bits)))))))
 none)
 none)
 (AD (decide (0≤IntKind.u8.wrap (↑x:Int)))
 (AD (decide (IntKind.u8.wrap (↑x:Int)<((256:Nat):Int)))
 (ret (IntKind.i64.wrap (0+IntKind.i64.wrap (CP GX (IntKind.u8.wrap (↑x:Int))))))
 none)
 none))))
def G103 (x:Nat):Option (Int):=T103 some x
theorem t103 (x:Nat) (r:Int) (h:G103 x=some r):AX Tryz.prog Tryz.f103.results.toList [.code (AT Tryz.f103)] (start Tryz.f103.ntmps ([BK x].map .f)) (F.int .i64 r):=by
 refine AX.of_run Au Zq (T:=[]) (n:=200) ?_
 refine gE (Y:=T103 (fun r=>some (.ret (F.int .i64 r))) x) (by kernel_rfl) ?_
 exact (gS h (fun _ h=>(gS h (fun _ h=>(gS h (fun _ h=>(gS h (fun _ h=>(gS h (fun _ h=>gR (by cases h;rfl)) gN)) gN)) (fun _ h=>(gS h (fun _ h=>(gS h (fun _ h=>gR (by cases h;rfl)) gN)) gN)))) (fun _ h=>(gS h (fun _ h=>(gS h (fun _ h=>(gS h (fun _ h=>gR (by cases h;rfl)) gN)) gN)) (fun _ h=>(gS h (fun _ h=>(gS h (fun _ h=>gR (by cases h;rfl)) gN)) gN)))))) (fun _ h=>(gS h (fun _ h=>(gS h (fun _ h=>(gS h (fun _ h=>(gS h (fun _ h=>gR (by cases h;rfl)) gN)) gN)) (fun _ h=>(gS h (fun _ h=>(gS h (fun _ h=>gR (by cases h;rfl)) gN)) gN)))) (fun _ h=>(gS h (fun _ h=>(gS h (fun _ h=>(gS h (fun _ h=>gR (by cases h;rfl)) gN)) gN)) (fun _ h=>(gS h (fun _ h=>(gS h (fun _ h=>gR (by cases h;rfl)) gN)) gN)))))))
theorem tab_at:∀ v:Nat,v<256→CP GX (v:Int)=(AZ v:Nat):=by
 have h:∀ v ∈ List.range 256,CP GX (v:Int)=(AZ v:Nat):=by decide +kernel
 intro v hv
 exact h v (List.mem_range.2 hv)
theorem OB (n k:Nat):Int.fdiv (n:Int) (2 ^ k)=((n / 2 ^ k:Nat):Int):=by
 rw [Int.fdiv_eq_ediv_of_nonneg _ (Int.pow_nonneg (by omega))]
 norm_cast
theorem wrapB {n:Nat} (h:n<256):IntKind.u8.wrap (n:Int)=n:=by
 unfold IntKind.wrap
 simp [IntKind.bits,IntKind.signed]
 omega
theorem len_law {x:Nat} (hx:x<18446744073709551616):G103 x=some (AZ x:Nat):=by
 unfold G103 T103
 have e32:min (Int.toNat 32) IntKind.u64.bits=32:=rfl
 have e16:min (Int.toNat 16) IntKind.u64.bits=16:=rfl
 have e8:min (Int.toNat 8) IntKind.u64.bits=8:=rfl
 rw [e32,e16,e8]
 simp only [OB]
 have leaf:∀ (v s:Nat) (t:Int),v<256→t=(s:Int)→s≤64→AZ x=s+AZ v →
   AD (decide (0≤IntKind.u8.wrap (v:Int))) (AD (decide (IntKind.u8.wrap (v:Int)<((256:Nat):Int))) (some (IntKind.i64.wrap (t+IntKind.i64.wrap (CP GX (IntKind.u8.wrap (v:Int)))))) none) none=some ((AZ x:Nat):Int):=by
  intro v s t hv ht hs hb
  have hl:AZ v≤8:=CW.2 (by simpa using hv)
  rw [wrapB hv,decide_eq_true (show (0:Int)≤(v:Int) by omega),decide_eq_true (show (v:Int)<((256:Nat):Int) by omega),tab_at v hv,ht]
  simp only [AH]
  rw [As (x:=((AZ v:Nat):Int)) (by omega) (by omega),As (by omega) (by omega),hb]
  congr 1
 have sh:∀ {n:Nat} (k:Nat),2 ^ k≤n→AZ n=k+AZ (n / 2 ^ k):=fun k h=>Hu h
 by_cases h1:x ≥ 4294967296
 ·rw [decide_eq_true (show (x:Int) ≥ 4294967296 by omega),AH]
  have s1:=sh 32 (show 2 ^ 32≤x by omega)
  by_cases h2:x / 2 ^ 32 ≥ 65536
  ·rw [decide_eq_true (show ((x / 2 ^ 32:Nat):Int) ≥ 65536 by omega),AH]
   have s2:=sh 16 (show 2 ^ 16≤x / 2 ^ 32 by omega)
   by_cases h3:x / 2 ^ 32 / 2 ^ 16 ≥ 256
   ·rw [decide_eq_true (show ((x / 2 ^ 32 / 2 ^ 16:Nat):Int) ≥ 256 by omega),AH]
    have s3:=sh 8 (show 2 ^ 8≤x / 2 ^ 32 / 2 ^ 16 by omega)
    exact leaf (x / 2 ^ 32 / 2 ^ 16 / 2 ^ 8) 56 _ (by omega) rfl (by omega) (by omega)
   ·rw [decide_eq_false (show ¬ ((x / 2 ^ 32 / 2 ^ 16:Nat):Int) ≥ 256 by omega),AJ]
    exact leaf (x / 2 ^ 32 / 2 ^ 16) 48 _ (by omega) rfl (by omega) (by omega)
  ·rw [decide_eq_false (show ¬ ((x / 2 ^ 32:Nat):Int) ≥ 65536 by omega),AJ]
   by_cases h3:x / 2 ^ 32 ≥ 256
   ·rw [decide_eq_true (show ((x / 2 ^ 32:Nat):Int) ≥ 256 by omega),AH]
    have s3:=sh 8 (show 2 ^ 8≤x / 2 ^ 32 by omega)
    exact leaf (x / 2 ^ 32 / 2 ^ 8) 40 _ (by omega) rfl (by omega) (by omega)
   ·rw [decide_eq_false (show ¬ ((x / 2 ^ 32:Nat):Int) ≥ 256 by omega),AJ]
    exact leaf (x / 2 ^ 32) 32 _ (by omega) rfl (by omega) (by omega)
 ·rw [decide_eq_false (show ¬ (x:Int) ≥ 4294967296 by omega),AJ]
  by_cases h2:x ≥ 65536
  ·rw [decide_eq_true (show (x:Int) ≥ 65536 by omega),AH]
   have s2:=sh 16 (show 2 ^ 16≤x by omega)
   by_cases h3:x / 2 ^ 16 ≥ 256
   ·rw [decide_eq_true (show ((x / 2 ^ 16:Nat):Int) ≥ 256 by omega),AH]
    have s3:=sh 8 (show 2 ^ 8≤x / 2 ^ 16 by omega)
    exact leaf (x / 2 ^ 16 / 2 ^ 8) 24 _ (by omega) rfl (by omega) (by omega)
   ·rw [decide_eq_false (show ¬ ((x / 2 ^ 16:Nat):Int) ≥ 256 by omega),AJ]
    exact leaf (x / 2 ^ 16) 16 _ (by omega) rfl (by omega) (by omega)
  ·rw [decide_eq_false (show ¬ (x:Int) ≥ 65536 by omega),AJ]
   by_cases h3:x ≥ 256
   ·rw [decide_eq_true (show (x:Int) ≥ 256 by omega),AH]
    have s3:=sh 8 (show 2 ^ 8≤x by omega)
    exact leaf (x / 2 ^ 8) 8 _ (by omega) rfl (by omega) (by omega)
   ·rw [decide_eq_false (show ¬ (x:Int) ≥ 256 by omega),AJ]
    exact leaf x 0 _ (by omega) rfl (by omega) (by omega)
def iC:List F→Bool | [.int .u64 x]=>I7 x | _=>false
def qN:List F→F | [.int .u64 x]=>.int .i64 (AZ x.toNat:Nat) | _=>.dflt
theorem okLen64:Ak Tryz.prog 103 iC qN :=
 B2 (c:=AT Tryz.f103) Tryz.func103 (by kernel_rfl) (by kernel_rfl) fun xs hp=>match xs,hp with
 | [.int .u64 x],hp=>by
  obtain ⟨h0,h1⟩:=Ga.1 hp
  obtain ⟨x,rfl⟩:=Int.eq_ofNat_of_zero_le h0
  exact t103 x _ (len_law (by omega))
def uY:Env:=envN9.add 103 (.pure iC qN)
theorem Va:Az Tryz.prog uY:=(Env.add_ok Zq okLen64.sp)
end
noncomputable section
/-! ### function 89 -/
def T89 {ρ:Type} (ret:(Int)→Option ρ) (x:Nat):Option ρ :=
 (AD (I7 (↑x:Int))
 (ret (IntKind.i64.wrap (64-(↑(AZ (↑x:Int).toNat):Int))))
 none)
def G89 (x:Nat):Option (Int):=T89 some x
theorem t89 (x:Nat) (r:Int) (h:G89 x=some r):AX Tryz.prog Tryz.f89.results.toList [.code (AT Tryz.f89)] (start Tryz.f89.ntmps ([BK x].map .f)) (F.int .i64 r):=by
 refine AX.of_run Au Va (T:=[]) (n:=200) ?_
 refine gE (Y:=T89 (fun r=>some (.ret (F.int .i64 r))) x) (by kernel_rfl) ?_
 exact (gS h (fun _ h=>gR (by cases h;rfl)) gN)
def lzV (x:Nat):Int:=64-(AZ x:Nat)
theorem Lr {x:Nat} (hx:x<18446744073709551616):AZ x≤64:=CW.2 (by simpa using hx)
theorem lz_law {x:Nat} (hx:x<18446744073709551616):G89 x=some (lzV x):=by
 have h:=Lr hx
 unfold G89 T89 lzV
 rw [show I7 (x:Int)=true from Ga.2 (by omega),AH]
 simp only [Int.toNat_natCast]
 rw [As (by omega) (by omega)]
def resLz:List F→F | [.int .u64 x]=>.int .i64 (lzV x.toNat) | _=>.dflt
theorem okLz:Ak Tryz.prog 89 iC resLz :=
 B2 (c:=AT Tryz.f89) Tryz.func89 (by kernel_rfl) (by kernel_rfl) fun xs hp=>match xs,hp with
 | [.int .u64 x],hp=>by
  obtain ⟨h0,h1⟩:=Ga.1 hp
  obtain ⟨x,rfl⟩:=Int.eq_ofNat_of_zero_le h0
  exact t89 x _ (lz_law (by omega))
def uX:Env:=uY.add 89 (.pure iC resLz)
theorem MU:Az Tryz.prog uX:=(Env.add_ok Va okLz.sp)
end
noncomputable section
/-! ### function 101 -/
def Qd (y:Int) (s:Int) (y1:Int) (y0:Int) (u:Int) (u1:Int) (u0:Int) (q:Int) (r:Int):St:=⟨Al 2 ((U.f (F.int .u64 y)) :: Al 5 ((U.f (F.int .u64 s)) :: (U.f (F.int .u64 y1)) :: (U.f (F.int .u64 y0)) :: (U.f (F.int .u64 u)) :: Al 1 ((U.f (F.int .u64 u1)) :: (U.f (F.int .u64 u0)) :: (U.f (F.int .u64 q)) :: (U.f (F.int .u64 r)) :: Al 118 []))),[]⟩
def Qc (y:Int) (s:Int) (y1:Int) (y0:Int) (u0:Int) (q:Int) (v:Int) (p:Int) (r:Int):St:=⟨Al 2 ((U.f (F.int .u64 y)) :: Al 5 ((U.f (F.int .u64 s)) :: (U.f (F.int .u64 y1)) :: (U.f (F.int .u64 y0)) :: Al 3 ((U.f (F.int .u64 u0)) :: (U.f (F.int .u64 q)) :: (U.f (F.int .u64 v)) :: (U.f (F.int .u64 p)) :: (U.f (F.int .u64 r)) :: Al 116 []))),[]⟩
abbrev oK (ρ:Type):=(Int)→(Int)→(Int)→(Int)→(Int)→(Int)→(Int)→(Int)→(Int)→Option ρ
def Xd {ρ:Type} (ret:(Int)→(Int)→Option ρ) (c17:oK ρ) (c24:oK ρ) (y:Int) (s:Int) (y1:Int) (y0:Int) (u:Int) (u1:Int) (u0:Int) (q:Int) (r:Int):Option ρ :=
 (AD (decide (q ≥ 4294967296)==false)
 (AD (decide (IntKind.u64.wrap (q*y0) > IntKind.u64.wrap (IntKind.u64.wrap (4294967296*r)+u1)))
 (AD (decide (IntKind.u64.wrap (r+y1) ≥ 4294967296))
 (AD (y1 != 0)
 (c24 (y) (s) (y1) (y0) (u0) (IntKind.u64.wrap (q-1)) (IntKind.u64.wrap (IntKind.u64.wrap (IntKind.u64.wrap (IntKind.u64.wrap (u*4294967296)+u1)-IntKind.u64.wrap (IntKind.u64.wrap (q-1)*y))-IntKind.u64.wrap (IntKind.u64.wrap ((IntKind.u64.wrap (IntKind.u64.wrap (IntKind.u64.wrap (u*4294967296)+u1)-IntKind.u64.wrap (IntKind.u64.wrap (q-1)*y))).tdiv y1)*y1))) (IntKind.u64.wrap (IntKind.u64.wrap (IntKind.u64.wrap (u*4294967296)+u1)-IntKind.u64.wrap (IntKind.u64.wrap (q-1)*y))) (IntKind.u64.wrap ((IntKind.u64.wrap (IntKind.u64.wrap (IntKind.u64.wrap (u*4294967296)+u1)-IntKind.u64.wrap (IntKind.u64.wrap (q-1)*y))).tdiv y1)))
 none)
 (c17 (y) (s) (y1) (y0) (u) (u1) (u0) (IntKind.u64.wrap (q-1)) (IntKind.u64.wrap (r+y1))))
 (AD (y1 != 0)
 (c24 (y) (s) (y1) (y0) (u0) (q) (IntKind.u64.wrap (IntKind.u64.wrap (IntKind.u64.wrap (IntKind.u64.wrap (u*4294967296)+u1)-IntKind.u64.wrap (q*y))-IntKind.u64.wrap (IntKind.u64.wrap ((IntKind.u64.wrap (IntKind.u64.wrap (IntKind.u64.wrap (u*4294967296)+u1)-IntKind.u64.wrap (q*y))).tdiv y1)*y1))) (IntKind.u64.wrap (IntKind.u64.wrap (IntKind.u64.wrap (u*4294967296)+u1)-IntKind.u64.wrap (q*y))) (IntKind.u64.wrap ((IntKind.u64.wrap (IntKind.u64.wrap (IntKind.u64.wrap (u*4294967296)+u1)-IntKind.u64.wrap (q*y))).tdiv y1)))
 none))
 (AD (decide (IntKind.u64.wrap (r+y1) ≥ 4294967296))
 (AD (y1 != 0)
 (c24 (y) (s) (y1) (y0) (u0) (IntKind.u64.wrap (q-1)) (IntKind.u64.wrap (IntKind.u64.wrap (IntKind.u64.wrap (IntKind.u64.wrap (u*4294967296)+u1)-IntKind.u64.wrap (IntKind.u64.wrap (q-1)*y))-IntKind.u64.wrap (IntKind.u64.wrap ((IntKind.u64.wrap (IntKind.u64.wrap (IntKind.u64.wrap (u*4294967296)+u1)-IntKind.u64.wrap (IntKind.u64.wrap (q-1)*y))).tdiv y1)*y1))) (IntKind.u64.wrap (IntKind.u64.wrap (IntKind.u64.wrap (u*4294967296)+u1)-IntKind.u64.wrap (IntKind.u64.wrap (q-1)*y))) (IntKind.u64.wrap ((IntKind.u64.wrap (IntKind.u64.wrap (IntKind.u64.wrap (u*4294967296)+u1)-IntKind.u64.wrap (IntKind.u64.wrap (q-1)*y))).tdiv y1)))
 none)
 (c17 (y) (s) (y1) (y0) (u) (u1) (u0) (IntKind.u64.wrap (q-1)) (IntKind.u64.wrap (r+y1)))))
def Xc {ρ:Type} (ret:(Int)→(Int)→Option ρ) (c17:oK ρ) (c24:oK ρ) (y:Int) (s:Int) (y1:Int) (y0:Int) (u0:Int) (q:Int) (v:Int) (p:Int) (r:Int):Option ρ :=
 (AD (decide (r ≥ 4294967296)==false)
 (AD (decide (IntKind.u64.wrap (r*y0) > IntKind.u64.wrap (IntKind.u64.wrap (4294967296*v)+u0)))
 (AD (decide (IntKind.u64.wrap (v+y1) ≥ 4294967296))
 (AD (decide (0≤s))
 (ret (IntKind.u64.wrap (IntKind.u64.wrap (q*4294967296)+IntKind.u64.wrap (r-1))) ((IntKind.u64.wrap (IntKind.u64.wrap (IntKind.u64.wrap (p*4294967296)+u0)-IntKind.u64.wrap (IntKind.u64.wrap (r-1)*y))).fdiv (2 ^ min s.toNat IntKind.u64.bits)))
 none)
 (c24 (y) (s) (y1) (y0) (u0) (q) (IntKind.u64.wrap (v+y1)) (p) (IntKind.u64.wrap (r-1))))
 (AD (decide (0≤s))
 (ret (IntKind.u64.wrap (IntKind.u64.wrap (q*4294967296)+r)) ((IntKind.u64.wrap (IntKind.u64.wrap (IntKind.u64.wrap (p*4294967296)+u0)-IntKind.u64.wrap (r*y))).fdiv (2 ^ min s.toNat IntKind.u64.bits)))
 none))
 (AD (decide (IntKind.u64.wrap (v+y1) ≥ 4294967296))
 (AD (decide (0≤s))
 (ret (IntKind.u64.wrap (IntKind.u64.wrap (q*4294967296)+IntKind.u64.wrap (r-1))) ((IntKind.u64.wrap (IntKind.u64.wrap (IntKind.u64.wrap (p*4294967296)+u0)-IntKind.u64.wrap (IntKind.u64.wrap (r-1)*y))).fdiv (2 ^ min s.toNat IntKind.u64.bits)))
 none)
 (c24 (y) (s) (y1) (y0) (u0) (q) (IntKind.u64.wrap (v+y1)) (p) (IntKind.u64.wrap (r-1)))))
mutual
def Kn:Nat→(Int)→(Int)→(Int)→(Int)→(Int)→(Int)→(Int)→(Int)→(Int)→Option ((Int) × (Int))
 | 0,_,_,_,_,_,_,_,_,_=>none
 | k+1,y,s,y1,y0,u,u1,u0,q,r=>Xd (fun rq rr=>some (rq,rr)) (Kn k) (GA k) y s y1 y0 u u1 u0 q r
def GA:Nat→(Int)→(Int)→(Int)→(Int)→(Int)→(Int)→(Int)→(Int)→(Int)→Option ((Int) × (Int))
 | 0,_,_,_,_,_,_,_,_,_=>none
 | k+1,y,s,y1,y0,u0,q,v,p,r=>Xc (fun rq rr=>some (rq,rr)) (Kn k) (GA k) y s y1 y0 u0 q v p r
end
def T101 {ρ:Type} (ret:(Int)→(Int)→Option ρ) (c17:oK ρ) (c24:oK ρ) (hi:Nat) (lo:Nat) (y:Nat):Option ρ :=
 (AD ((↑y:Int)==0)
 none
 (AD (decide ((↑y:Int)≤(↑hi:Int)))
 none
 (AD ((↑hi:Int)==0)
 (AD ((↑y:Int) != 0)
 (AD ((↑y:Int) != 0)
 (ret (IntKind.u64.wrap ((↑lo:Int).tdiv (↑y:Int))) ((↑lo:Int).tmod (↑y:Int)))
 none)
 none)
 (AD (I7 (↑y:Int))
 (AD (decide (0≤IntKind.u64.wrap (lzV (↑y:Int).toNat)))
 (AD (decide (0≤IntKind.u64.wrap (lzV (↑y:Int).toNat)))
 (AD (decide (0≤IntKind.u64.wrap (64-IntKind.u64.wrap (lzV (↑y:Int).toNat))))
 (AD (decide (0≤IntKind.u64.wrap (lzV (↑y:Int).toNat)))
 (AD ((IntKind.u64.wrap ((↑y:Int)*2 ^ min (IntKind.u64.wrap (lzV (↑y:Int).toNat)).toNat IntKind.u64.bits)).fdiv (2 ^ min (Int.toNat 32) IntKind.u64.bits) != 0)
 (c17 (IntKind.u64.wrap ((↑y:Int)*2 ^ min (IntKind.u64.wrap (lzV (↑y:Int).toNat)).toNat IntKind.u64.bits)) (IntKind.u64.wrap (lzV (↑y:Int).toNat)) ((IntKind.u64.wrap ((↑y:Int)*2 ^ min (IntKind.u64.wrap (lzV (↑y:Int).toNat)).toNat IntKind.u64.bits)).fdiv (2 ^ min (Int.toNat 32) IntKind.u64.bits)) (B8 BinOp.and IntKind.u64 (IntKind.u64.wrap ((↑y:Int)*2 ^ min (IntKind.u64.wrap (lzV (↑y:Int).toNat)).toNat IntKind.u64.bits)) 4294967295) (B8 BinOp.or IntKind.u64 (IntKind.u64.wrap ((↑hi:Int)*2 ^ min (IntKind.u64.wrap (lzV (↑y:Int).toNat)).toNat IntKind.u64.bits)) ((↑lo:Int).fdiv (2 ^ min (IntKind.u64.wrap (64-IntKind.u64.wrap (lzV (↑y:Int).toNat))).toNat IntKind.u64.bits))) ((IntKind.u64.wrap ((↑lo:Int)*2 ^ min (IntKind.u64.wrap (lzV (↑y:Int).toNat)).toNat IntKind.u64.bits)).fdiv (2 ^ min (Int.toNat 32) IntKind.u64.bits)) (B8 BinOp.and IntKind.u64 (IntKind.u64.wrap ((↑lo:Int)*2 ^ min (IntKind.u64.wrap (lzV (↑y:Int).toNat)).toNat IntKind.u64.bits)) 4294967295) (IntKind.u64.wrap ((B8 BinOp.or IntKind.u64 (IntKind.u64.wrap ((↑hi:Int)*2 ^ min (IntKind.u64.wrap (lzV (↑y:Int).toNat)).toNat IntKind.u64.bits)) ((↑lo:Int).fdiv (2 ^ min (IntKind.u64.wrap (64-IntKind.u64.wrap (lzV (↑y:Int).toNat))).toNat IntKind.u64.bits))).tdiv ((IntKind.u64.wrap ((↑y:Int)*2 ^ min (IntKind.u64.wrap (lzV (↑y:Int).toNat)).toNat IntKind.u64.bits)).fdiv (2 ^ min (Int.toNat 32) IntKind.u64.bits)))) (IntKind.u64.wrap (B8 BinOp.or IntKind.u64 (IntKind.u64.wrap ((↑hi:Int)*2 ^ min (IntKind.u64.wrap (lzV (↑y:Int).toNat)).toNat IntKind.u64.bits)) ((↑lo:Int).fdiv (2 ^ min (IntKind.u64.wrap (64-IntKind.u64.wrap (lzV (↑y:Int).toNat))).toNat IntKind.u64.bits))-IntKind.u64.wrap (IntKind.u64.wrap ((B8 BinOp.or IntKind.u64 (IntKind.u64.wrap ((↑hi:Int)*2 ^ min (IntKind.u64.wrap (lzV (↑y:Int).toNat)).toNat IntKind.u64.bits)) ((↑lo:Int).fdiv (2 ^ min (IntKind.u64.wrap (64-IntKind.u64.wrap (lzV (↑y:Int).toNat))).toNat IntKind.u64.bits))).tdiv ((IntKind.u64.wrap ((↑y:Int)*2 ^ min (IntKind.u64.wrap (lzV (↑y:Int).toNat)).toNat IntKind.u64.bits)).fdiv (2 ^ min (Int.toNat 32) IntKind.u64.bits)))*(IntKind.u64.wrap ((↑y:Int)*2 ^ min (IntKind.u64.wrap (lzV (↑y:Int).toNat)).toNat IntKind.u64.bits)).fdiv (2 ^ min (Int.toNat 32) IntKind.u64.bits)))))
 none)
 none)
 none)
 none)
 none)
 none))))
def G101 (k:Nat) (hi:Nat) (lo:Nat) (y:Nat):Option ((Int) × (Int)):=T101 (fun rq rr=>some (rq,rr)) (Kn k) (GA k) hi lo y
mutual
theorem WK:∀ (k:Nat) (y:Int) (s:Int) (y1:Int) (y0:Int) (u:Int) (u1:Int) (u0:Int) (q:Int) (r:Int) (rq:Int) (rr:Int),Kn k y s y1 y0 u u1 u0 q r=some (rq,rr)→AX Tryz.prog Tryz.f101.results.toList (at_ Tryz.f101 17) (Qd y s y1 y0 u u1 u0 q r) (F.tup [F.int .u64 rq,F.int .u64 rr])
 | 0,_,_,_,_,_,_,_,_,_,_,_,h=>nomatch h
 | k+1,y,s,y1,y0,u,u1,u0,q,r,rq,rr,h=>by
  refine AX.of_cut Au MU (T:=[(17,[2,8,9,10,11,13,14,15,16],1000),(24,[2,8,9,10,14,15,16,17,18],1000)]) (n:=200) ?_
  refine gE (Y:=Xd (fun rq rr=>some (.ret (F.tup [F.int .u64 rq,F.int .u64 rr]))) (fun y s y1 y0 u u1 u0 q r=>some (.cut (at_ Tryz.f101 17) (Qd y s y1 y0 u u1 u0 q r))) (fun y s y1 y0 u0 q v p r=>some (.cut (at_ Tryz.f101 24) (Qc y s y1 y0 u0 q v p r))) y s y1 y0 u u1 u0 q r) (by kernel_rfl) ?_
  exact (gS h (fun _ h=>(gS h (fun _ h=>(gS h (fun _ h=>(gS h (fun _ h=>gC (NZ k _ _ _ _ _ _ _ _ _ rq rr h)) gN)) (fun _ h=>gC (WK k _ _ _ _ _ _ _ _ _ rq rr h)))) (fun _ h=>(gS h (fun _ h=>gC (NZ k _ _ _ _ _ _ _ _ _ rq rr h)) gN)))) (fun _ h=>(gS h (fun _ h=>(gS h (fun _ h=>gC (NZ k _ _ _ _ _ _ _ _ _ rq rr h)) gN)) (fun _ h=>gC (WK k _ _ _ _ _ _ _ _ _ rq rr h)))))
theorem NZ:∀ (k:Nat) (y:Int) (s:Int) (y1:Int) (y0:Int) (u0:Int) (q:Int) (v:Int) (p:Int) (r:Int) (rq:Int) (rr:Int),GA k y s y1 y0 u0 q v p r=some (rq,rr)→AX Tryz.prog Tryz.f101.results.toList (at_ Tryz.f101 24) (Qc y s y1 y0 u0 q v p r) (F.tup [F.int .u64 rq,F.int .u64 rr])
 | 0,_,_,_,_,_,_,_,_,_,_,_,h=>nomatch h
 | k+1,y,s,y1,y0,u0,q,v,p,r,rq,rr,h=>by
  refine AX.of_cut Au MU (T:=[(17,[2,8,9,10,11,13,14,15,16],1000),(24,[2,8,9,10,14,15,16,17,18],1000)]) (n:=200) ?_
  refine gE (Y:=Xc (fun rq rr=>some (.ret (F.tup [F.int .u64 rq,F.int .u64 rr]))) (fun y s y1 y0 u u1 u0 q r=>some (.cut (at_ Tryz.f101 17) (Qd y s y1 y0 u u1 u0 q r))) (fun y s y1 y0 u0 q v p r=>some (.cut (at_ Tryz.f101 24) (Qc y s y1 y0 u0 q v p r))) y s y1 y0 u0 q v p r) (by kernel_rfl) ?_
  exact (gS h (fun _ h=>(gS h (fun _ h=>(gS h (fun _ h=>(gS h (fun _ h=>gR (by cases h;rfl)) gN)) (fun _ h=>gC (NZ k _ _ _ _ _ _ _ _ _ rq rr h)))) (fun _ h=>(gS h (fun _ h=>gR (by cases h;rfl)) gN)))) (fun _ h=>(gS h (fun _ h=>(gS h (fun _ h=>gR (by cases h;rfl)) gN)) (fun _ h=>gC (NZ k _ _ _ _ _ _ _ _ _ rq rr h)))))
end
theorem t101 (k:Nat) (hi:Nat) (lo:Nat) (y:Nat) (rq:Int) (rr:Int) (h:G101 k hi lo y=some (rq,rr)):AX Tryz.prog Tryz.f101.results.toList [.code (AT Tryz.f101)] (start Tryz.f101.ntmps ([BK hi,BK lo,BK y].map .f)) (F.tup [F.int .u64 rq,F.int .u64 rr]):=by
 refine AX.of_run Au MU (T:=[(17,[2,8,9,10,11,13,14,15,16],1000),(24,[2,8,9,10,14,15,16,17,18],1000)]) (n:=200) ?_
 refine gE (Y:=T101 (fun rq rr=>some (.ret (F.tup [F.int .u64 rq,F.int .u64 rr]))) (fun y s y1 y0 u u1 u0 q r=>some (.cut (at_ Tryz.f101 17) (Qd y s y1 y0 u u1 u0 q r))) (fun y s y1 y0 u0 q v p r=>some (.cut (at_ Tryz.f101 24) (Qc y s y1 y0 u0 q v p r))) hi lo y) (by kernel_rfl) ?_
 exact (gS h gN (fun _ h=>(gS h gN (fun _ h=>(gS h (fun _ h=>(gS h (fun _ h=>(gS h (fun _ h=>gR (by cases h;rfl)) gN)) gN)) (fun _ h=>(gS h (fun _ h=>(gS h (fun _ h=>(gS h (fun _ h=>(gS h (fun _ h=>(gS h (fun _ h=>(gS h (fun _ h=>gC (WK k _ _ _ _ _ _ _ _ _ rq rr h)) gN)) gN)) gN)) gN)) gN)) gN)))))))
theorem jA (q y1 y0:Nat):q*(y1*4294967296+y0)=q*y1*4294967296+q*y0:=by rw [Nat.mul_add,Nat.mul_assoc]
theorem W3 {q r u u1 y y1 y0:Nat} (hy:y=y1*4294967296+y0) (hq:q*y1+r=u) (hu:u<y) (hu1:u1<4294967296) (h:4294967296≤q ∨ 4294967296*r+u1<q*y0):(u*4294967296+u1) / y<q:=by
 rw [Nat.div_lt_iff_lt_mul (by omega)]
 rcases h with h | h
 ·have:=Nat.mul_le_mul_right y h
  omega
 ·subst hy
  rw [jA,← hq]
  generalize q*y1=a at *
  generalize q*y0=b at *
  omega
theorem W2 {q r u u1 y y1 y0:Nat} (hy:y=y1*4294967296+y0) (hy0:0<y) (hq:q*y1+r=u) (h:q*y0≤4294967296*r+u1):q≤(u*4294967296+u1) / y:=by
 rw [Nat.le_div_iff_mul_le hy0]
 subst hy
 rw [jA,← hq]
 generalize q*y1=a at *
 generalize q*y0=b at *
 omega
theorem VX {q r u u1 y y1 y0:Nat} (hy:y=y1*4294967296+y0) (h0:y0<4294967296) (hq:q*y1+r=u) (hu:u<y) (hr:4294967296≤r):q*y0≤4294967296*r+u1:=by
 have hlt:q<4294967296:=by
  rcases Nat.lt_or_ge q 4294967296 with h | h
  ·exact h
  ·exfalso
   have:=Nat.mul_le_mul_right y1 h
   omega
 have h1:q*y0≤4294967296*4294967296:=Nat.mul_le_mul (Nat.le_of_lt hlt) (Nat.le_of_lt h0)
 have h2:4294967296*4294967296≤4294967296*r:=Nat.mul_le_mul_left _ hr
 omega
theorem wmul (a b:Nat):IntKind.u64.wrap ((a:Int)*(b:Int))=((a*b % 18446744073709551616:Nat):Int):=by
 rw [Dw,← Int.natCast_mul]
 omega
theorem iK {u u1 y:Nat} (hy:0<y) (hyb:y<18446744073709551616):IntKind.u64.wrap (IntKind.u64.wrap (IntKind.u64.wrap ((u:Int)*4294967296)+u1)-IntKind.u64.wrap ((((u*4294967296+u1) / y:Nat):Int)*y))=(((u*4294967296+u1) % y:Nat):Int):=by
 have h1:=Nat.div_add_mod' (u*4294967296+u1) y
 have h2:=Nat.mod_lt (u*4294967296+u1) hy
 rw [wmul]
 generalize (u*4294967296+u1) % y=p at *
 generalize (u*4294967296+u1) / y*y=P at *
 simp only [Dw]
 omega
theorem wdiv {p y1:Nat} (hp:p<18446744073709551616):IntKind.u64.wrap ((p:Int).tdiv (y1:Int))=((p / y1:Nat):Int):=by
 rw [show (p:Int).tdiv (y1:Int)=((p / y1:Nat):Int) from rfl,Dw]
 have h1:=Nat.div_le_self p y1
 generalize p / y1=t at *
 omega
theorem vv {p y1:Nat} (hp:p<18446744073709551616):IntKind.u64.wrap ((p:Int)-IntKind.u64.wrap (((p / y1:Nat):Int)*(y1:Int)))=((p % y1:Nat):Int):=by
 have h1:=Nat.div_add_mod' p y1
 rw [wmul,Dw]
 generalize p / y1*y1=P at *
 generalize p % y1=t at *
 omega
theorem VW {y s y1 y0 u u1 u0:Nat} (hy:y=y1*4294967296+y0) (h0:y0<4294967296) (hy1:2147483648≤y1) (hy1':y1<4294967296) (hu:u<y) (hu1:u1<4294967296) :
  ∀ (j k q r:Nat),q*y1+r=u→(u*4294967296+u1) / y≤q→r<4294967296→4294967296≤r+j*2147483648→j+10≤k →
   ∃ k',10≤k'∧Kn k y s y1 y0 u u1 u0 q r=GA k' y s y1 y0 u0 (((u*4294967296+u1) / y:Nat):Int) (((u*4294967296+u1) % y % y1:Nat):Int) (((u*4294967296+u1) % y:Nat):Int) (((u*4294967296+u1) % y / y1:Nat):Int)
 | 0,k,q,r,_,_,h1,h2,_=>by omega
 | j+1,0,q,r,_,_,_,_,hk=>by omega
 | j+1,k+1,q,r,hq,hQ,hr,hj,hk=>by
  have hy0:0<y:=by omega
  have hyb:y<18446744073709551616:=by omega
  have hne:((y1:Int) != 0)=true:=by simp only [bne_iff_ne,ne_eq];omega
  have hp:(u*4294967296+u1) % y<18446744073709551616:=Nat.lt_trans (Nat.mod_lt _ hy0) hyb
  have fin:∀ (qI:Int),qI=(((u*4294967296+u1) / y:Nat):Int)→∃ k',10≤k'∧GA k y s y1 y0 u0 qI (IntKind.u64.wrap (IntKind.u64.wrap (IntKind.u64.wrap (IntKind.u64.wrap ((u:Int)*4294967296)+u1)-IntKind.u64.wrap (qI*y))-IntKind.u64.wrap (IntKind.u64.wrap ((IntKind.u64.wrap (IntKind.u64.wrap (IntKind.u64.wrap ((u:Int)*4294967296)+u1)-IntKind.u64.wrap (qI*y))).tdiv y1)*y1))) (IntKind.u64.wrap (IntKind.u64.wrap (IntKind.u64.wrap ((u:Int)*4294967296)+u1)-IntKind.u64.wrap (qI*y))) (IntKind.u64.wrap ((IntKind.u64.wrap (IntKind.u64.wrap (IntKind.u64.wrap ((u:Int)*4294967296)+u1)-IntKind.u64.wrap (qI*y))).tdiv y1))=GA k' y s y1 y0 u0 (((u*4294967296+u1) / y:Nat):Int) (((u*4294967296+u1) % y % y1:Nat):Int) (((u*4294967296+u1) % y:Nat):Int) (((u*4294967296+u1) % y / y1:Nat):Int):=by
   rintro qI rfl
   exact ⟨k,by omega,by rw [iK hy0 hyb,wdiv hp,vv hp]⟩
  have f3:IntKind.u64.wrap ((r:Int)+y1)=((r+y1:Nat):Int):=by clear hQ hq;rw [Dw];omega
  have dec:(u*4294967296+u1) / y<q→∃ k',10≤k'∧AD (decide (IntKind.u64.wrap ((r:Int)+y1) ≥ 4294967296)) (AD ((y1:Int) != 0) (GA k y s y1 y0 u0 (IntKind.u64.wrap ((q:Int)-1)) (IntKind.u64.wrap (IntKind.u64.wrap (IntKind.u64.wrap (IntKind.u64.wrap ((u:Int)*4294967296)+u1)-IntKind.u64.wrap (IntKind.u64.wrap ((q:Int)-1)*y))-IntKind.u64.wrap (IntKind.u64.wrap ((IntKind.u64.wrap (IntKind.u64.wrap (IntKind.u64.wrap ((u:Int)*4294967296)+u1)-IntKind.u64.wrap (IntKind.u64.wrap ((q:Int)-1)*y))).tdiv y1)*y1))) (IntKind.u64.wrap (IntKind.u64.wrap (IntKind.u64.wrap ((u:Int)*4294967296)+u1)-IntKind.u64.wrap (IntKind.u64.wrap ((q:Int)-1)*y))) (IntKind.u64.wrap ((IntKind.u64.wrap (IntKind.u64.wrap (IntKind.u64.wrap ((u:Int)*4294967296)+u1)-IntKind.u64.wrap (IntKind.u64.wrap ((q:Int)-1)*y))).tdiv y1))) none)
    (Kn k y s y1 y0 u u1 u0 (IntKind.u64.wrap ((q:Int)-1)) (IntKind.u64.wrap ((r:Int)+y1)))=GA k' y s y1 y0 u0 (((u*4294967296+u1) / y:Nat):Int) (((u*4294967296+u1) % y % y1:Nat):Int) (((u*4294967296+u1) % y:Nat):Int) (((u*4294967296+u1) % y / y1:Nat):Int):=by
   intro hgt
   have hqp:0<q:=Nat.lt_of_le_of_lt (Nat.zero_le _) hgt
   have hq1:(q-1)*y1+(r+y1)=u:=by
    have:q*y1=(q-1)*y1+y1:=by rw [← Nat.succ_mul];congr 1;omega
    omega
   have hqb:q<18446744073709551616*18446744073709551616:=by
    have:q*1≤q*y1:=Nat.mul_le_mul_left _ (by omega)
    omega
   have f4:IntKind.u64.wrap ((q:Int)-1)=((q-1:Nat):Int):=by
    rw [Dw]
    have:q*1≤q*y1:=Nat.mul_le_mul_left _ (by omega)
    omega
   rw [hne,f3]
   by_cases hb:4294967296≤r+y1
   ·rw [decide_eq_true (show ((r+y1:Nat):Int) ≥ 4294967296 by omega),AH,AH]
    refine fin _ ?_
    rw [f4]
    have:=W2 (u1:=u1) hy hy0 hq1 (VX hy h0 hq1 hu hb)
    congr 1
    omega
   ·rw [decide_eq_false (show ¬ ((r+y1:Nat):Int) ≥ 4294967296 by omega),AJ,f4]
    exact VW hy h0 hy1 hy1' hu hu1 j k (q-1) (r+y1) hq1 (by omega) (by omega) (by omega) (by omega)
  rw [Kn]
  unfold Xd
  by_cases hc:4294967296≤q
  ·rw [decide_eq_true (show (q:Int) ≥ 4294967296 by omega),show (true==false)=false from rfl,AJ]
   exact dec (W3 hy hq hu hu1 (.inl hc))
  ·rw [decide_eq_false (show ¬ (q:Int) ≥ 4294967296 by omega),show (false==false)=true from rfl,AH]
   have hqy:q*y0≤4294967296*4294967296:=Nat.mul_le_mul (by omega) (by omega)
   have hqy':q*y0<18446744073709551616:=by
    rcases Nat.eq_zero_or_pos y0 with h | h
    ·rw [h];omega
    ·have:=Nat.mul_lt_mul_of_lt_of_le (show q<4294967296 by omega) (Nat.le_of_lt h0) (by omega)
     omega
   rw [wmul,Nat.mod_eq_of_lt hqy',show IntKind.u64.wrap (IntKind.u64.wrap (4294967296*(r:Int))+u1)=((4294967296*r+u1:Nat):Int) by simp only [Dw];omega]
   by_cases hd:4294967296*r+u1<q*y0
   ·rw [decide_eq_true (show ((q*y0:Nat):Int) > ((4294967296*r+u1:Nat):Int) by omega),AH]
    exact dec (W3 hy hq hu hu1 (.inr hd))
   ·rw [decide_eq_false (show ¬ ((q*y0:Nat):Int) > ((4294967296*r+u1:Nat):Int) by omega),AJ,hne,AH]
    refine fin _ ?_
    have:=W2 (u1:=u1) hy hy0 hq (by omega)
    congr 1
    omega
theorem VV {y s y1 y0 p u0:Nat} {q:Nat} (hy:y=y1*4294967296+y0) (h0:y0<4294967296) (hy1:2147483648≤y1) (hy1':y1<4294967296) (hu:p<y) (hu1:u0<4294967296) (hs:s≤64) (hq0:q<4294967296) :
  ∀ (j k r v:Nat),r*y1+v=p→(p*4294967296+u0) / y≤r→v<4294967296→4294967296≤v+j*2147483648→j≤k →
   GA k y s y1 y0 u0 q v p r=some (((q*4294967296+(p*4294967296+u0) / y:Nat):Int),(((p*4294967296+u0) % y / 2 ^ s:Nat):Int))
 | 0,k,r,v,_,_,h1,h2,_=>by omega
 | j+1,0,r,v,_,_,_,_,hk=>by omega
 | j+1,k+1,r,v,hq,hQ,hr,hj,hk=>by
  have hy0:0<y:=by omega
  have hyb:y<18446744073709551616:=by omega
  have hQC:(p*4294967296+u0) / y<4294967296:=by rw [Nat.div_lt_iff_lt_mul hy0];omega
  have es:min s IntKind.u64.bits=s:=Nat.min_eq_left hs
  have hss:decide ((0:Int)≤(s:Int))=true:=decide_eq_true (by omega)
  have fin:∀ (rI:Int),rI=(((p*4294967296+u0) / y:Nat):Int)→some (IntKind.u64.wrap (IntKind.u64.wrap ((q:Int)*4294967296)+rI),(IntKind.u64.wrap (IntKind.u64.wrap (IntKind.u64.wrap ((p:Int)*4294967296)+u0)-IntKind.u64.wrap (rI*y))).fdiv (2 ^ min (s:Int).toNat IntKind.u64.bits))=some (((q*4294967296+(p*4294967296+u0) / y:Nat):Int),(((p*4294967296+u0) % y / 2 ^ s:Nat):Int)):=by
   rintro rI rfl
   rw [iK hy0 hyb,Int.toNat_natCast,es,OB]
   congr 2
   simp only [Dw]
   clear hQ
   generalize (p*4294967296+u0) / y=Q at *
   omega
  have f3:IntKind.u64.wrap ((v:Int)+y1)=((v+y1:Nat):Int):=by rw [Dw];omega
  have dec:(p*4294967296+u0) / y<r→AD (decide (IntKind.u64.wrap ((v:Int)+y1) ≥ 4294967296)) (AD (decide ((0:Int)≤(s:Int))) (some (IntKind.u64.wrap (IntKind.u64.wrap ((q:Int)*4294967296)+IntKind.u64.wrap ((r:Int)-1)),(IntKind.u64.wrap (IntKind.u64.wrap (IntKind.u64.wrap ((p:Int)*4294967296)+u0)-IntKind.u64.wrap (IntKind.u64.wrap ((r:Int)-1)*y))).fdiv (2 ^ min (s:Int).toNat IntKind.u64.bits))) none)
    (GA k y s y1 y0 u0 q (IntKind.u64.wrap ((v:Int)+y1)) p (IntKind.u64.wrap ((r:Int)-1)))=some (((q*4294967296+(p*4294967296+u0) / y:Nat):Int),(((p*4294967296+u0) % y / 2 ^ s:Nat):Int)):=by
   intro hgt
   have hqp:0<r:=Nat.lt_of_le_of_lt (Nat.zero_le _) hgt
   have hq1:(r-1)*y1+(v+y1)=p:=by
    have:r*y1=(r-1)*y1+y1:=by rw [← Nat.succ_mul];congr 1;omega
    omega
   have f4:IntKind.u64.wrap ((r:Int)-1)=((r-1:Nat):Int):=by
    rw [Dw]
    have:r*1≤r*y1:=Nat.mul_le_mul_left _ (by omega)
    omega
   rw [hss,f3,f4]
   by_cases hb:4294967296≤v+y1
   ·rw [decide_eq_true (show ((v+y1:Nat):Int) ≥ 4294967296 by omega),AH,AH]
    refine fin _ ?_
    have:=W2 (u1:=u0) hy hy0 hq1 (VX hy h0 hq1 hu hb)
    congr 1
    omega
   ·rw [decide_eq_false (show ¬ ((v+y1:Nat):Int) ≥ 4294967296 by omega),AJ]
    exact VV hy h0 hy1 hy1' hu hu1 hs hq0 j k (r-1) (v+y1) hq1 (by omega) (by omega) (by omega) (by omega)
  rw [GA]
  unfold Xc
  by_cases hc:4294967296≤r
  ·rw [decide_eq_true (show (r:Int) ≥ 4294967296 by omega),show (true==false)=false from rfl,AJ]
   exact dec (W3 hy hq hu hu1 (.inl hc))
  ·rw [decide_eq_false (show ¬ (r:Int) ≥ 4294967296 by omega),show (false==false)=true from rfl,AH]
   have hqy':r*y0<18446744073709551616:=by
    rcases Nat.eq_zero_or_pos y0 with h | h
    ·rw [h];omega
    ·have:=Nat.mul_lt_mul_of_lt_of_le (show r<4294967296 by omega) (Nat.le_of_lt h0) (by omega)
     omega
   rw [wmul,Nat.mod_eq_of_lt hqy',show IntKind.u64.wrap (IntKind.u64.wrap (4294967296*(v:Int))+u0)=((4294967296*v+u0:Nat):Int) by simp only [Dw];omega]
   by_cases hd:4294967296*v+u0<r*y0
   ·rw [decide_eq_true (show ((r*y0:Nat):Int) > ((4294967296*v+u0:Nat):Int) by omega),AH]
    exact dec (W3 hy hq hu hu1 (.inr hd))
   ·rw [decide_eq_false (show ¬ ((r*y0:Nat):Int) > ((4294967296*v+u0:Nat):Int) by omega),AJ,hss,AH]
    refine fin _ ?_
    have:=W2 (u1:=u0) hy hy0 hq (by omega)
    congr 1
    omega
theorem iL {a b i:Nat} (hi:i≤64) (hb:b<2 ^ i) (hab:2 ^ i*a<18446744073709551616):B8 .or .u64 ((2 ^ i*a:Nat):Int) (b:Int)=((2 ^ i*a+b:Nat):Int):=by
 have e64:2 ^ i*2 ^ (64-i)=18446744073709551616:=by rw [← Nat.pow_add,show i+(64-i)=64 by omega]
 have hi0:0<2 ^ i:=Nat.two_pow_pos i
 have ha:a<2 ^ (64-i):=by
  rw [← e64] at hab
  exact Nat.lt_of_mul_lt_mul_left hab
 have hs:2 ^ i*a+b<18446744073709551616:=by
  have:=Nat.mul_le_mul_left (2 ^ i) (show a+1≤2 ^ (64-i) from ha)
  rw [e64,Nat.mul_add] at this
  omega
 rw [bOr,JW,JW,Xi,BitVec.toNat_or,BitVec.toNat_ofNat,BitVec.toNat_ofNat,Nat.mod_eq_of_lt (show 2 ^ i*a<2 ^ 64 from hab),Nat.mod_eq_of_lt (show b<2 ^ 64 by omega),← Nat.two_pow_add_eq_or_of_lt hb,Nat.mod_eq_of_lt hs]
theorem div_two {C M Y u u1 u0:Nat} (hY:0<Y) (hM:M=(u*C+u1)*C+u0) :
  M / Y=(u*C+u1) / Y*C+((u*C+u1) % Y*C+u0) / Y∧M % Y=((u*C+u1) % Y*C+u0) % Y:=by
 have h:=Nat.div_add_mod (u*C+u1) Y
 generalize (u*C+u1) / Y=q at *
 generalize (u*C+u1) % Y=p at *
 have e:M=(p*C+u0)+Y*(q*C):=by
  rw [hM,← h,Nat.add_mul,Nat.mul_assoc]
  omega
 rw [e,Nat.add_mul_div_left _ _ hY,Nat.add_mul_mod_self_left]
 exact ⟨by omega,rfl⟩
theorem qX {C u w Y Y1 Y0:Nat} (hY:Y=Y1*C+Y0) (h1:0<Y1) (hw:w<C):(u*C+w) / Y≤u / Y1:=by
 have hY0:0<Y:=by
  have:=Nat.mul_pos h1 (show 0<C by omega)
  omega
 rcases Nat.lt_or_ge (u / Y1) ((u*C+w) / Y) with h | h
 ·exfalso
  have h2:u / Y1+1≤(u*C+w) / Y:=h
  rw [Nat.le_div_iff_mul_le hY0] at h2
  have h3:(u / Y1+1)*(Y1*C)≤(u / Y1+1)*Y:=Nat.mul_le_mul_left _ (by omega)
  have h4:u+1≤(u / Y1+1)*Y1:=by
   have e:=Nat.div_add_mod' u Y1
   have e2:=Nat.mod_lt u h1
   rw [Nat.add_mul]
   omega
  have h5:=Nat.mul_le_mul_right C h4
  rw [Nat.mul_assoc,Nat.add_mul] at h5
  omega
 ·exact h
theorem Yo (s:Nat):((2:Int) ^ s)=((2 ^ s:Nat):Int):=by simp
theorem wshl {x s:Nat}:IntKind.u64.wrap ((x:Int)*2 ^ s)=((x*2 ^ s % 18446744073709551616:Nat):Int):=by
 rw [Yo,← Int.natCast_mul,Dw]
 omega
theorem nL {h l y:Nat} (hh:h<y) (hy:y<18446744073709551616) (hl:l<18446744073709551616):G101 20 h l y=some ((((h*18446744073709551616+l) / y:Nat):Int),(((h*18446744073709551616+l) % y:Nat):Int)):=by
 have hne:((y:Int) != 0)=true:=by simp only [bne_iff_ne,ne_eq];omega
 have heq:((y:Int)==0)=false:=by simp only [beq_eq_false_iff_ne,ne_eq];omega
 unfold G101 T101
 rw [heq,AJ,decide_eq_false (show ¬ (y:Int)≤h by omega),AJ]
 by_cases h0:h=0
 ·subst h0
  rw [show (((0:Nat):Int)==0)=true from rfl,AH,hne,AH,AH,wdiv hl,show (l:Int).tmod y=((l % y:Nat):Int) from rfl]
  simp only [Nat.zero_mul,Nat.zero_add]
 ·have hh0:((h:Int)==0)=false:=by simp only [beq_eq_false_iff_ne,ne_eq];omega
  have b1:=Lr hy
  have b2:2≤AZ y:=by
   rcases Nat.lt_or_ge (AZ y) 2 with hb | hb
   ·have:=(CW (n:=y) (j:=1)).1 (by omega)
    omega
   ·exact hb
  obtain ⟨s,hs⟩:∃ s:Nat,s+AZ y=64:=⟨64-AZ y,by omega⟩
  have u1:y<2 ^ AZ y:=CW.1 (Nat.le_refl _)
  have u2:2 ^ (AZ y-1)≤y:=by
   rcases Nat.lt_or_ge y (2 ^ (AZ y-1)) with hb | hb
   ·have:=CW.2 hb
    omega
   ·exact hb
  have hs0:0<2 ^ s:=Nat.two_pow_pos s
  have e1:2 ^ AZ y*2 ^ s=18446744073709551616:=by rw [← Nat.pow_add,show AZ y+s=64 by omega]
  have e2:2 ^ (AZ y-1)*2 ^ s=9223372036854775808:=by rw [← Nat.pow_add,show AZ y-1+s=63 by omega]
  have Y1:y*2 ^ s<18446744073709551616:=by rw [← e1];exact Nat.mul_lt_mul_of_pos_right u1 hs0
  have Y2:9223372036854775808≤y*2 ^ s:=by rw [← e2];exact Nat.mul_le_mul_right _ u2
  have H1:h*2 ^ s<y*2 ^ s:=Nat.mul_lt_mul_of_pos_right hh hs0
  have es:IntKind.u64.wrap (lzV (y:Int).toNat)=(s:Int):=by
   unfold lzV
   rw [Int.toNat_natCast,Dw]
   omega
  have et:IntKind.u64.wrap (64-(s:Int))=((64-s:Nat):Int):=by rw [Dw];omega
  have m1:min (s:Int).toNat IntKind.u64.bits=s:=by rw [Int.toNat_natCast];exact Nat.min_eq_left (by show s≤64;omega)
  have m2:min ((64-s:Nat):Int).toNat IntKind.u64.bits=64-s:=by rw [Int.toNat_natCast];exact Nat.min_eq_left (by show 64-s≤64;omega)
  have e3:2 ^ s*2 ^ (64-s)=18446744073709551616:=by rw [← Nat.pow_add,show s+(64-s)=64 by omega]
  have hl1:l / 2 ^ (64-s)<2 ^ s:=by
   rw [Nat.div_lt_iff_lt_mul (Nat.two_pow_pos _),e3]
   exact hl
  have un:B8 .or .u64 ((h*2 ^ s:Nat):Int) ((l / 2 ^ (64-s):Nat):Int)=((h*2 ^ s+l / 2 ^ (64-s):Nat):Int):=by
   rw [Nat.mul_comm h]
   exact iL (by omega) hl1 (by rw [Nat.mul_comm];omega)
  rw [hh0,AJ,show I7 (y:Int)=true from Ga.2 (by omega),AH,es,et,m1,m2,decide_eq_true (show (0:Int)≤(s:Int) by omega),decide_eq_true (show (0:Int)≤((64-s:Nat):Int) by omega),OB]
  simp only [AH]
  rw [wshl,wshl,wshl,Nat.mod_eq_of_lt Y1,Nat.mod_eq_of_lt (show h*2 ^ s<18446744073709551616 by omega),un]
  rw [K8,K8,bA Y1,bA (Nat.mod_lt _ (by omega))]
  have hun:h*2 ^ s+l / 2 ^ (64-s)<y*2 ^ s:=by
   have:=Nat.mul_le_mul_right (2 ^ s) (show h+1≤y from hh)
   rw [Nat.add_mul] at this
   omega
  have hN:(h*18446744073709551616+l)*2 ^ s=(h*2 ^ s+l / 2 ^ (64-s))*18446744073709551616+l*2 ^ s % 18446744073709551616:=by
   have d1:=Nat.div_add_mod (l*2 ^ s) 18446744073709551616
   have d2:l*2 ^ s / 18446744073709551616=l / 2 ^ (64-s):=by
    rw [← e3,Nat.mul_comm l,Nat.mul_div_mul_left _ _ hs0]
   rw [d2] at d1
   rw [Nat.add_mul,Nat.add_mul,Nat.mul_right_comm h 18446744073709551616]
   omega
  have hl':l*2 ^ s % 18446744073709551616<18446744073709551616:=Nat.mod_lt _ (by omega)
  have q1:(h*18446744073709551616+l)*2 ^ s / (y*2 ^ s)=(h*18446744073709551616+l) / y:=Nat.mul_div_mul_right _ _ hs0
  have q2:(h*18446744073709551616+l)*2 ^ s % (y*2 ^ s)=(h*18446744073709551616+l) % y*2 ^ s:=Nat.mul_mod_mul_right _ _ _
  have q3:(h*18446744073709551616+l) % y*2 ^ s / 2 ^ s=(h*18446744073709551616+l) % y:=Nat.mul_div_cancel _ hs0
  generalize h*2 ^ s+l / 2 ^ (64-s)=u at *
  generalize l*2 ^ s % 18446744073709551616=w at *
  generalize y*2 ^ s=Y at *
  have hy1:((((Y / 4294967296:Nat)):Int) != 0)=true:=by simp only [bne_iff_ne,ne_eq];omega
  rw [hy1,AH,wdiv (by omega),vv (by omega)]
  have hMw:(h*18446744073709551616+l)*2 ^ s=(u*4294967296+w / 4294967296)*4294967296+w % 4294967296:=by
   rw [hN]
   omega
  obtain ⟨dv,md⟩:=div_two (C:=4294967296) (Y:=Y) (u:=u) (u1:=w / 4294967296) (u0:=w % 4294967296) (by omega) hMw
  have hq:=Nat.div_add_mod' u (Y / 4294967296)
  have hr:u % (Y / 4294967296)<Y / 4294967296:=Nat.mod_lt _ (by omega)
  obtain ⟨k',hk',e⟩:=VW (y:=Y) (s:=s) (y1:=Y / 4294967296) (y0:=Y % 4294967296) (u:=u) (u1:=w / 4294967296) (u0:=w % 4294967296) (by omega) (Nat.mod_lt _ (by omega)) (by omega) (by omega) hun (by omega) 2 20 (u / (Y / 4294967296)) (u % (Y / 4294967296)) hq (qX (Y0:=Y % 4294967296) (by omega) (by omega) (by omega)) (by omega) (by omega) (by omega)
  rw [e]
  have hp:(u*4294967296+w / 4294967296) % Y<Y:=Nat.mod_lt _ (by omega)
  have hQ:(u*4294967296+w / 4294967296) / Y<4294967296:=by rw [Nat.div_lt_iff_lt_mul (by omega)];omega
  rw [VV (y:=Y) (s:=s) (y1:=Y / 4294967296) (y0:=Y % 4294967296) (p:=(u*4294967296+w / 4294967296) % Y) (u0:=w % 4294967296) (by omega) (Nat.mod_lt _ (by omega)) (by omega) (by omega) hp (Nat.mod_lt _ (by omega)) (by omega) hQ 2 k' ((u*4294967296+w / 4294967296) % Y / (Y / 4294967296)) ((u*4294967296+w / 4294967296) % Y % (Y / 4294967296)) (Nat.div_add_mod' _ _) (qX (Y0:=Y % 4294967296) (by omega) (by omega) (Nat.mod_lt _ (by omega))) (Nat.lt_of_lt_of_le (Nat.mod_lt _ (by omega)) (by omega)) (by omega) (by omega)]
  rw [← dv,← md,q1,q2,q3]
def ZL (h l y:Int):Bool:=I7 h&&I7 l&&I7 y&&decide (h<y)
theorem VJ {h l y:Int}:ZL h l y=true ↔ (0≤h∧h<18446744073709551616)∧(0≤l∧l<18446744073709551616)∧(0≤y∧y<18446744073709551616)∧h<y:=by
 simp only [ZL,Bool.and_eq_true,Ga,decide_eq_true_eq,and_assoc]
def Yl:List F→Bool | [.int .u64 h,.int .u64 l,.int .u64 y]=>ZL h l y | _=>false
def divQ (h l y:Int):Int:=(h*18446744073709551616+l) / y
def divR (h l y:Int):Int:=(h*18446744073709551616+l) % y
def YR:List F→F | [.int .u64 h,.int .u64 l,.int .u64 y]=>.tup [.int .u64 (divQ h l y),.int .u64 (divR h l y)] | _=>.dflt
theorem aF (h l y:Nat):divQ h l y=(((h*18446744073709551616+l) / y:Nat):Int):=by rw [Int.natCast_ediv,Int.natCast_add,Int.natCast_mul];rfl
theorem aE (h l y:Nat):divR h l y=(((h*18446744073709551616+l) % y:Nat):Int):=by rw [Int.natCast_emod,Int.natCast_add,Int.natCast_mul];rfl
theorem okDiv64:Ak Tryz.prog 101 Yl YR :=
 B2 (c:=AT Tryz.f101) Tryz.func101 (by kernel_rfl) (by kernel_rfl) fun xs hp=>match xs,hp with
 | [.int .u64 h,.int .u64 l,.int .u64 y],hp=>by
  obtain ⟨⟨h0,h1⟩,⟨l0,l1⟩,⟨y0,y1⟩,hy⟩:=VJ.1 hp
  obtain ⟨h,rfl⟩:=Int.eq_ofNat_of_zero_le h0
  obtain ⟨l,rfl⟩:=Int.eq_ofNat_of_zero_le l0
  obtain ⟨y,rfl⟩:=Int.eq_ofNat_of_zero_le y0
  have e:=nL (h:=h) (l:=l) (y:=y) (by omega) (by omega) (by omega)
  rw [← aF,← aE] at e
  exact t101 20 h l y _ _ e
def uW:Env:=uX.add 101 (.pure Yl YR)
theorem MT:Az Tryz.prog uW:=(Env.add_ok MU okDiv64.sp)
end
noncomputable section
def DF (n:Nat):F:=.int .u32 (n:Int)
def VH:F→Bool | .int .u32 n=>decide (0≤n)&&decide (n<4294967296) | _=>false
def Ql:F→Nat | .int .u32 n=>n.toNat | _=>0
theorem w32_eq {x:F} (h:VH x=true):DF (Ql x)=x:=by
 unfold VH at h
 split at h
 ·simp only [Bool.and_eq_true,decide_eq_true_eq] at h
  simp only [DF,Ql]
  rw [Int.toNat_of_nonneg h.1]
 ·cases h
def AP (l:List Nat):F:=slF DF 0 l
def A5 (x:F):Bool:=Dq VH x
def AV (x:F):List Nat:=Gi Ql x
theorem Dm (l:List Nat):AV (AP l)=l:=NV (fun n=>by simp [Ql,DF]) l
theorem DD {l:List Nat} (h:okD 4294967296 l):A5 (AP l)=true:=N5 l fun n hn=>by
 have:=h n hn
 simp only [VH,DF,Bool.and_eq_true,decide_eq_true_eq]
 omega
theorem Bq {x:F} (hx:A5 x=true):FLe x (AP (AV x))∧FLe (AP (AV x)) x:=WM (fun _ h=>w32_eq h) hx
theorem C0 {x:F} (hx:A5 x=true):okD 4294967296 (AV x):=by
 cases x with
 | sl n g =>
  simp only [A5,Dq,List.all_eq_true,List.mem_range] at hx
  intro w hw
  simp only [AV,Gi,List.mem_map,List.mem_range] at hw
  obtain ⟨i,hi,rfl⟩:=hw
  have h:=hx i hi
  unfold VH at h
  split at h
  ·rename_i n' he
   simp only [Bool.and_eq_true,decide_eq_true_eq] at h
   rw [he]
   simp only [Ql]
   omega
  ·cases h
 | _=>simp [A5,Dq] at hx
def AQ (z:Int):F:=.agg [.bool (decide (z<0)),AP (AM 4294967296 z.natAbs)]
theorem bQ (n:Nat):Ql (DF n)=n:=by simp [Ql,DF]
theorem Et {m:Nat} {g:Nat→F} {l:List Nat} (hl:l.length=m) (hg:∀ j,j<m→g j=DF (l.getD j 0)):AV (.sl m g)=l :=
 RC hl fun j hj=>by rw [hg j hj,bQ]
theorem Ew {m:Nat} {g:Nat→F} {l:List Nat} (hl:l.length=m) (hg:∀ j,j<m→g j=DF (l.getD j 0)) (ho:okD 4294967296 l):A5 (.sl m g)=true:=by
 simp only [A5,Dq,List.all_eq_true,List.mem_range]
 intro j hj
 rw [hg j hj]
 have:=Dk ho (show j<l.length by omega)
 simp only [VH,DF,Bool.and_eq_true,decide_eq_true_eq]
 omega
theorem Oc (n:Nat):(DF n).cells.length=1:=rfl
theorem Gy {n:Nat} {x:F} (hx:A5 x=true) (h:BB n x=true):(AV x).length≤n:=by
 cases x with
 | sl m g=>simpa [AV,Gi,BB] using h
 | _=>simp [A5,Dq] at hx
theorem HJ {n:Nat} {l:List Nat}:BB n (AP l)=Nat.ble l.length n:=rfl
theorem Vf {n:Nat}:AM 4294967296 n=[] ↔ n=0:=by
 constructor
 ·intro h
  have:=Dl (B:=4294967296) (by omega) n
  rw [h] at this
  exact this.symm
 ·rintro rfl;exact BU _
theorem EJ {n:Nat}:((AM 4294967296 n).length:Int) > 0 ↔ n ≠ 0:=by
 rw [ne_eq,← Vf,← List.length_eq_zero_iff]
 omega
def Ao (n:Nat):F→Bool | .agg [.bool s,x]=>A5 x&&BB n x&&(Oe (AV x)&&(!s || !BB 0 x)) | _=>false
def AW:F→Int | .agg [.bool s,x]=>sgn s (val 4294967296 (AV x)) | _=>0
theorem Py {x:F} (hx:A5 x=true) (ht:Dn (AV x)):AM 4294967296 (val 4294967296 (AV x))=AV x:=OG (by omega) (C0 hx) ht
theorem DR {n k:Nat} (h:n<4294967296 ^ k):(AM 4294967296 n).length≤k:=by
 rcases Nat.lt_or_ge k (AM 4294967296 n).length with hk | hk
 ·exfalso
  have h1:=D2 (B:=4294967296) (a:=List.replicate k (4294967296-1)) (b:=AM 4294967296 n) (by omega) (fun w hw=>by have:=(List.mem_replicate.1 hw).2;omega) (CS (by omega) n) (by simpa using hk)
  have h2:∀ k:Nat,val 4294967296 (List.replicate k (4294967296-1))+1=4294967296 ^ k:=by
   intro k
   induction k with
   | zero=>rfl
   | succ k ih =>
    simp only [List.replicate_succ,val,Nat.pow_succ,← ih]
    omega
  rw [Dl (by omega)] at h1
  have:=h2 k
  omega
 ·exact hk
theorem ZH {x:F} (hx:A5 x=true):BB 0 x=true ↔ AV x=[]:=by
 cases x with
 | sl m g=>simp [BB,AV,Gi]
 | _=>simp [A5,Dq] at hx
theorem N4 {n:Nat} {x:F} (h:Ao n x=true):∃ s y,x=.agg [.bool s,y]∧A5 y=true∧AQ (AW x)=.agg [.bool s,AP (AV y)]:=by
 unfold Ao at h
 split at h
 ·rename_i s y
  simp only [Bool.and_eq_true,EM] at h
  obtain ⟨⟨hy,hl⟩,ht,hs⟩:=h
  have e:AQ (AW (.agg [.bool s,y]))=.agg [.bool s,AP (AV y)]:=by
   rw [show AW (.agg [.bool s,y])=sgn s (val 4294967296 (AV y)) from rfl]
   unfold AQ
   rw [D5,QR,Py hy ht]
   congr 2
   cases s with
   | false=>rfl
   | true =>
    simp only [Bool.not_true,Bool.false_or,Bool.not_eq_true'] at hs
    have:AV y ≠ []:=fun e=>by rw [(ZH hy).2 e] at hs;cases hs
    have:=L5 (B:=4294967296) (by omega) _ ht this
    rw [Bool.true_and]
    congr 1
    exact decide_eq_true (by omega)
  exact ⟨s,y,rfl,hy,e⟩
 ·cases h
theorem DY {n:Nat} {x:F} (h:Ao n x=true):FLe x (AQ (AW x))∧FLe (AQ (AW x)) x:=by
 obtain ⟨s,y,hx,hy,e⟩:=N4 h
 rw [e,hx]
 exact ⟨FLe.agg ⟨.refl _,(Bq hy).1,trivial⟩,FLe.agg ⟨.refl _,(Bq hy).2,trivial⟩⟩
theorem Bb (z:Int):AW (AQ z)=z:=by
 simp only [AW,AQ,Dm,Dl (show 1<4294967296 by omega),X6]
theorem BC {n:Nat} {z:Int} (h:z.natAbs<4294967296 ^ n):Ao n (AQ z)=true:=by
 simp only [Ao,AQ,HJ,DD (BG (B:=4294967296) (by omega) _),Dm,Bool.and_eq_true,EM]
 refine ⟨⟨trivial,?_⟩,CS (by omega) _,?_⟩
 ·rw [Nat.ble_eq];exact DR h
 ·by_cases h0:z<0
  ·have:(AM 4294967296 z.natAbs).length ≠ 0:=fun e=>by
    have:=Vf.1 (List.length_eq_zero_iff.1 e)
    omega
   cases hb:Nat.ble (AM 4294967296 z.natAbs).length 0 with
   | false=>simp
   | true=>rw [Nat.ble_eq] at hb;omega
  ·simp [h0]
theorem A7 {n:Nat} {x:F} (h:Ao n x=true):(AW x).natAbs<4294967296 ^ n:=by
 unfold Ao at h
 split at h
 ·rename_i s y
  simp only [Bool.and_eq_true] at h
  obtain ⟨⟨hy,hl⟩,_⟩:=h
  simp only [AW,D5]
  exact Nat.lt_of_lt_of_le (K1 _ (C0 hy)) (Nat.pow_le_pow_right (by omega) (Gy hy hl))
 ·cases h
def iE (n:Nat):List F→Bool | [x]=>Ao n x | _=>false
def Kp (n:Nat):List F→Bool | [x,y]=>Ao n x&&Ao n y | _=>false
theorem Ex (n:Nat):A5 (AP (AM 4294967296 n))=true:=DD (BG (by omega) n)
theorem De (n:Nat):AV (AP (AM 4294967296 n))=AM 4294967296 n:=Dm _
theorem BV (n:Nat):val 4294967296 (AM 4294967296 n)=n:=Dl (by omega) n
theorem Dy {n k j:Nat} (h:n<4294967296 ^ j) (hk:j≤k):BB k (AP (AM 4294967296 n))=true:=by
 rw [HJ,Nat.ble_eq];exact Nat.le_trans (DR h) hk
theorem tE (s:Bool) (n:Nat):AQ (sgn s n)=.agg [.bool (s&&decide (n ≠ 0)),AP (AM 4294967296 n)]:=by
 unfold AQ
 rw [D5,QR]
theorem JT {n:Nat} {x y:F} (h:Kp n [x,y]=true):Ao n x=true∧Ao n y=true:=by simpa [Kp] using h
theorem M6 {m p v:Nat} {g:Nat→F} {o:List Nat} (ho:o.length=m) (hp:p<m) (hg:∀ j,j<m→g j=DF (o.getD j 0)) :
  ∀ j,j<m→(fun j=>if j=0+p then F.int .u32 (v:Int) else g j) j=DF ((o.set p v).getD j 0):=by
 intro j hj
 show (if j=0+p then F.int .u32 (v:Int) else g j)=_
 by_cases h:j=0+p
 ·rw [if_pos h,h,Nat.zero_add]
  simp [List.getD,DF,show p<o.length by omega]
 ·rw [if_neg h,hg j hj]
  simp [List.getD,List.getElem?_set,show p ≠ j by omega]
theorem aN (v:Nat):(List.drop 0 (DF v).cells).headD F.dflt=DF v:=rfl
theorem iN (v:Nat):(okV (Value.int IntKind.u32 0) (DF v)&&true)=true:=rfl
theorem VK (v:Nat):Hl (DF v)=(v:Int):=rfl
def Kv (B:Nat):List Nat→List Nat→Nat→List Nat
 | [],_,c=>if c=0 then [] else [c]
 | x :: a,b,c=>((x+b.headD 0+c) % B) :: Kv B a b.tail ((x+b.headD 0+c) / B)
theorem Qj (B:Nat):∀ (a b:List Nat) (c:Nat),b.length≤a.length→val B (Kv B a b c)=val B a+val B b+c
 | [],b,c,h=>by
  have:b=[]:=List.eq_nil_of_length_eq_zero (by simpa using h)
  subst this
  by_cases hc:c=0 <;> simp [Kv,val,hc]
 | x :: a,b,c,h=>by
  have ih:=Qj B a b.tail ((x+b.headD 0+c) / B) (by simp at h ⊢;omega)
  simp only [Kv,val,ih]
  have h1:=Nat.mod_add_div (x+b.headD 0+c) B
  have h2:=Qi B b
  simp only [Nat.mul_add]
  omega
theorem RV {B:Nat} (hB:1<B):∀ (a b:List Nat) (c:Nat),okD B a→okD B b→c≤1→okD B (Kv B a b c)
 | [],b,c,_,_,hc=>by
  intro w hw
  by_cases h0:c=0
  ·simp [Kv,h0] at hw
  ·simp [Kv,h0] at hw;omega
 | x :: a,b,c,ha,hb,hc=>by
  have hx:=ha x (by simp)
  have hy:b.headD 0<B:=by
   cases b with
   | nil=>simp;omega
   | cons y b=>exact hb y (by simp)
  have ih:=RV hB a b.tail ((x+b.headD 0+c) / B) (fun w hw=>ha w (by simp [hw])) (fun w hw=>hb w (List.mem_of_mem_tail hw)) (by
   have:x+b.headD 0+c<B*2:=by omega
   have:=Nat.div_lt_of_lt_mul this
   omega)
  intro w hw
  simp only [Kv,List.mem_cons] at hw
  rcases hw with rfl | hw
  ·exact Nat.mod_lt _ (by omega)
  ·exact ih w hw
theorem Ri (B:Nat):∀ (a b:List Nat) (c:Nat),(Kv B a b c).length≤a.length+1
 | [],b,c=>by by_cases hc:c=0 <;> simp [Kv,hc]
 | x :: a,b,c=>by
  have:=Ri B a b.tail ((x+b.headD 0+c) / B)
  simp only [Kv,List.length_cons]
  omega
theorem N3 (B:Nat):∀ (a b:List Nat) (c:Nat),(Hb B a b c).length=a.length
 | [],b,c=>rfl
 | x :: a,b,c=>by simp [Hb,N3 B a b.tail]
def Sy (a b:List Nat):List Nat:=if a.length<b.length then Kv 4294967296 b a 0 else Kv 4294967296 a b 0
theorem oP (a b:List Nat):val 4294967296 (Sy a b)=val 4294967296 a+val 4294967296 b:=by
 unfold Sy
 by_cases h:a.length<b.length
 ·rw [if_pos h,Qj _ _ _ _ (by omega)];omega
 ·rw [if_neg h,Qj _ _ _ _ (by omega)];omega
theorem sB {a b:List Nat} (oa:okD 4294967296 a) (ob:okD 4294967296 b):okD 4294967296 (Sy a b):=by
 unfold Sy
 by_cases h:a.length<b.length
 ·rw [if_pos h];exact RV (by omega) _ _ _ ob oa (by omega)
 ·rw [if_neg h];exact RV (by omega) _ _ _ oa ob (by omega)
theorem sY (a b:List Nat):(Sy a b).length≤max a.length b.length+1:=by
 unfold Sy
 by_cases h:a.length<b.length
 ·rw [if_pos h];have:=Ri 4294967296 b a 0;omega
 ·rw [if_neg h];have:=Ri 4294967296 a b 0;omega
end
noncomputable section
theorem Lm {B:Nat} (hB:1<B):∀ (l:List Nat) (p:Nat),okD B l→l.getD p 0=val B l / B ^ p % B
 | [],p,_=>by simp [val]
 | x :: l,0,h=>by
  have hx:=h x (by simp)
  simp only [List.getD_cons_zero,val,Nat.pow_zero,Nat.div_one,Nat.add_mul_mod_self_left]
  exact (Nat.mod_eq_of_lt hx).symm
 | x :: l,p+1,h=>by
  have hx:=h x (by simp)
  have ih:=Lm hB l p fun w hw=>h w (by simp [hw])
  rw [List.getD_cons_succ,ih,val,Nat.pow_succ,Nat.mul_comm (B ^ p) B,← Nat.div_div_eq_div_mul,Nat.add_mul_div_left _ _ (by omega),Nat.div_eq_of_lt hx,Nat.zero_add]
theorem I3 (i:Nat):2 ^ i=4294967296 ^ (i / 32)*2 ^ (i % 32):=by
 rw [show 4294967296=2 ^ 32 from rfl,← Nat.pow_mul,← Nat.pow_add,Nat.div_add_mod]
theorem wA {l:List Nat} {i:Nat} (ol:okD 4294967296 l) (h:val 4294967296 l % 2 ^ (i+1)=0):∃ u,l.getD (i / 32) 0=2 ^ (i % 32+1)*u∧2 ^ (i % 32+1)*u+2 ^ (i % 32)<4294967296:=by
 have hr:i % 32<32:=Nat.mod_lt _ (by omega)
 have e32:2 ^ (i % 32+1)*2 ^ (31-i % 32)=4294967296:=by
  rw [← Nat.pow_add,show i % 32+1+(31-i % 32)=32 by omega]
 have h1:2 ^ (i+1)=4294967296 ^ (i / 32)*2 ^ (i % 32+1):=by
  rw [Nat.pow_succ,I3 i,Nat.mul_assoc,← Nat.pow_succ]
 obtain ⟨t,ht⟩:=Nat.dvd_of_mod_eq_zero h
 have hC:0<4294967296 ^ (i / 32):=Nat.pow_pos (by omega)
 have hd:l.getD (i / 32) 0=2 ^ (i % 32+1)*(t % 2 ^ (31-i % 32)):=by
  rw [Lm (by omega) l _ ol,ht,h1,Nat.mul_assoc,Nat.mul_div_cancel_left _ hC]
  conv=>lhs;rw [← e32]
  rw [Nat.mul_mod_mul_left]
 refine ⟨t % 2 ^ (31-i % 32),hd,?_⟩
 have hu:t % 2 ^ (31-i % 32)<2 ^ (31-i % 32):=Nat.mod_lt _ (Nat.two_pow_pos _)
 have h2:=Nat.mul_le_mul_left (2 ^ (i % 32+1)) (show t % 2 ^ (31-i % 32)+1≤2 ^ (31-i % 32) from hu)
 rw [e32,Nat.mul_add] at h2
 have h3:2 ^ (i % 32)<2 ^ (i % 32+1):=by
  rw [Nat.pow_succ]
  have:=Nat.two_pow_pos (i % 32)
  omega
 omega
theorem bit_set {l:List Nat} {i:Nat} (ol:okD 4294967296 l) (hi:i / 32<l.length) (h:val 4294967296 l % 2 ^ (i+1)=0) :
  (l.getD (i / 32) 0 ||| 2 ^ (i % 32))<4294967296∧val 4294967296 (l.set (i / 32) (l.getD (i / 32) 0 ||| 2 ^ (i % 32)))=val 4294967296 l+2 ^ i:=by
 obtain ⟨u,hu,hlt⟩:=wA ol h
 have h3:2 ^ (i % 32)<2 ^ (i % 32+1):=by
  rw [Nat.pow_succ]
  have:=Nat.two_pow_pos (i % 32)
  omega
 have he:(l.getD (i / 32) 0 ||| 2 ^ (i % 32))=l.getD (i / 32) 0+2 ^ (i % 32):=by
  rw [hu,← Nat.two_pow_add_eq_or_of_lt h3]
 rw [he]
 refine ⟨by rw [hu];exact hlt,?_⟩
 have hs:=NT 4294967296 l (i / 32) (l.getD (i / 32) 0+2 ^ (i % 32)) hi
 rw [Nat.mul_add,← I3 i] at hs
 omega
structure DivInv (a b i rest Q:Nat):Prop where
 eq:a=rest+b*Q
 lt:rest<b*2 ^ i
 dvd:Q % 2 ^ i=0
theorem DivInv.take {a b i rest Q:Nat} (h:DivInv a b (i+1) rest Q) (hs:b*2 ^ i≤rest):DivInv a b i (rest-b*2 ^ i) (Q+2 ^ i):=by
 obtain ⟨h1,h2⟩:=vZ h.eq h.lt hs
 refine ⟨h1,h2,?_⟩
 have h3:=h.dvd
 obtain ⟨t,ht⟩:=Nat.dvd_of_mod_eq_zero h3
 rw [ht,Nat.pow_succ,Nat.mul_assoc,← Nat.mul_add_one,Nat.mul_mod_right]
theorem DivInv.skip {a b i rest Q:Nat} (h:DivInv a b (i+1) rest Q) (hs:rest<b*2 ^ i):DivInv a b i rest Q:=by
 refine ⟨h.eq,hs,?_⟩
 obtain ⟨t,ht⟩:=Nat.dvd_of_mod_eq_zero h.dvd
 rw [ht,Nat.pow_succ,Nat.mul_assoc,Nat.mul_mod_right]
theorem DivInv.done {a b rest Q:Nat} (h:DivInv a b 0 rest Q):Q=a / b∧rest=a % b:=by
 have h1:=h.eq
 have h2:=h.lt
 rw [Nat.pow_zero,Nat.mul_one] at h2
 refine SM ?_ h2
 rw [h1,Nat.mul_comm];omega
theorem DivInv.start {a b i:Nat} (h:a<b*2 ^ i):DivInv a b i a 0:=⟨by simp,h,Nat.zero_mod _⟩
end
/-! ### function 90 -/
def T90 {ρ:Type} (ret:(Bool)→Option ρ) (a0:Int) (a1:Int) (a2:Int):Option ρ :=
 (AD (decide (a0 ≥ a1)==true)
 (ret (decide (a0≤a2)))
 (ret (false)))
def G90 (a0:Int) (a1:Int) (a2:Int):Option (Bool):=T90 some a0 a1 a2
theorem t90 (a0:Int) (a1:Int) (a2:Int) (r:Bool) (h:G90 a0 a1 a2=some r):AX Tryz.prog Tryz.f90.results.toList [.code (AT Tryz.f90)] (start Tryz.f90.ntmps ([F.int .i64 a0,F.int .i64 a1,F.int .i64 a2].map .f)) (F.bool r):=by
 refine AX.of_run Au Ei (T:=[]) (n:=200) ?_
 refine gE (Y:=T90 (fun r=>some (.ret (F.bool r))) a0 a1 a2) (by kernel_rfl) ?_
 exact (gS h (fun _ h=>gR (by cases h;rfl)) (fun _ h=>gR (by cases h;rfl)))
/-! ### function 25 -/
def T25 {ρ:Type} (ret:(Bool)→Option ρ) (a0:Int) (a1:Int) (a2:Int):Option ρ :=
 (AD (decide (a1≤a0)==true)
 (ret (decide (a0≤a2)))
 (ret (false)))
def G25 (a0:Int) (a1:Int) (a2:Int):Option (Bool):=T25 some a0 a1 a2
theorem t25 (a0:Int) (a1:Int) (a2:Int) (r:Bool) (h:G25 a0 a1 a2=some r):AX Tryz.prog Tryz.f25.results.toList [.code (AT Tryz.f25)] (start Tryz.f25.ntmps ([F.int .i64 a0,F.int .i64 a1,F.int .i64 a2].map .f)) (F.bool r):=by
 refine AX.of_run Au Ei (T:=[]) (n:=200) ?_
 refine gE (Y:=T25 (fun r=>some (.ret (F.bool r))) a0 a1 a2) (by kernel_rfl) ?_
 exact (gS h (fun _ h=>gR (by cases h;rfl)) (fun _ h=>gR (by cases h;rfl)))
/-! ### function 92 -/
def T92 {ρ:Type} (ret:(Bool)→Option ρ) (x0:Int) (y0:Int) (x1:Int) (y1:Int):Option ρ :=
 (AD (decide (x0<x1)==false)
 (AD ((x0==x1)==true)
 (ret (decide (y0<y1)))
 (ret (false)))
 (ret (true)))
def G92 (x0:Int) (y0:Int) (x1:Int) (y1:Int):Option (Bool):=T92 some x0 y0 x1 y1
theorem t92 (x0:Int) (y0:Int) (x1:Int) (y1:Int) (r:Bool) (h:G92 x0 y0 x1 y1=some r):AX Tryz.prog Tryz.f92.results.toList [.code (AT Tryz.f92)] (start Tryz.f92.ntmps ([F.agg [F.int .i64 x0,F.int .i64 y0],F.agg [F.int .i64 x1,F.int .i64 y1]].map .f)) (F.bool r):=by
 refine AX.of_run Au Ei (T:=[]) (n:=200) ?_
 refine gE (Y:=T92 (fun r=>some (.ret (F.bool r))) x0 y0 x1 y1) (by kernel_rfl) ?_
 exact (gS h (fun _ h=>(gS h (fun _ h=>gR (by cases h;rfl)) (fun _ h=>gR (by cases h;rfl)))) (fun _ h=>gR (by cases h;rfl)))
/-! ### function 48 -/
def T48 {ρ:Type} (ret:(Int)→Option ρ) (x0:Int) (y0:Int) (x1:Int) (y1:Int):Option ρ :=
 (AD (x0==x1&&(y0==y1&&true))
 (ret (0))
 (AD (decide (x0<x1)==false)
 (AD ((x0==x1)==true)
 (AD (decide (y0<y1))
 (ret (-1))
 (ret (1)))
 (ret (1)))
 (ret (-1))))
def G48 (x0:Int) (y0:Int) (x1:Int) (y1:Int):Option (Int):=T48 some x0 y0 x1 y1
theorem t48 (x0:Int) (y0:Int) (x1:Int) (y1:Int) (r:Int) (h:G48 x0 y0 x1 y1=some r):AX Tryz.prog Tryz.f48.results.toList [.code (AT Tryz.f48)] (start Tryz.f48.ntmps ([F.agg [F.int .i64 x0,F.int .i64 y0],F.agg [F.int .i64 x1,F.int .i64 y1]].map .f)) (F.int .i64 r):=by
 refine AX.of_run Au Ei (T:=[]) (n:=200) ?_
 refine gE (Y:=T48 (fun r=>some (.ret (F.int .i64 r))) x0 y0 x1 y1) (by kernel_rfl) ?_
 exact (gS h (fun _ h=>gR (by cases h;rfl)) (fun _ h=>(gS h (fun _ h=>(gS h (fun _ h=>(gS h (fun _ h=>gR (by cases h;rfl)) (fun _ h=>gR (by cases h;rfl)))) (fun _ h=>gR (by cases h;rfl)))) (fun _ h=>gR (by cases h;rfl)))))
/-! ### function 49 -/
def T49 {ρ:Type} (ret:(Int)→Option ρ) (a0:Int):Option ρ :=
 (AD (decide (a0<0))
 (ret (-1))
 (AD (decide (a0 > 0))
 (ret (1))
 (ret (0))))
def G49 (a0:Int):Option (Int):=T49 some a0
theorem t49 (a0:Int) (r:Int) (h:G49 a0=some r):AX Tryz.prog Tryz.f49.results.toList [.code (AT Tryz.f49)] (start Tryz.f49.ntmps ([F.int .i64 a0].map .f)) (F.int .i64 r):=by
 refine AX.of_run Au Ei (T:=[]) (n:=200) ?_
 refine gE (Y:=T49 (fun r=>some (.ret (F.int .i64 r))) a0) (by kernel_rfl) ?_
 exact (gS h (fun _ h=>gR (by cases h;rfl)) (fun _ h=>(gS h (fun _ h=>gR (by cases h;rfl)) (fun _ h=>gR (by cases h;rfl)))))
/-! ### function 47 -/
def T47 {ρ:Type} (ret:(Int)→Option ρ) (x0:Int) (y0:Int) (x1:Int) (y1:Int) (x2:Int) (y2:Int):Option ρ :=
 (ret (IntKind.i64.wrap (IntKind.i64.wrap (IntKind.i64.wrap (x1-x0)*IntKind.i64.wrap (y2-y0))-IntKind.i64.wrap (IntKind.i64.wrap (y1-y0)*IntKind.i64.wrap (x2-x0)))))
def G47 (x0:Int) (y0:Int) (x1:Int) (y1:Int) (x2:Int) (y2:Int):Option (Int):=T47 some x0 y0 x1 y1 x2 y2
theorem t47 (x0:Int) (y0:Int) (x1:Int) (y1:Int) (x2:Int) (y2:Int) (r:Int) (h:G47 x0 y0 x1 y1 x2 y2=some r):AX Tryz.prog Tryz.f47.results.toList [.code (AT Tryz.f47)] (start Tryz.f47.ntmps ([F.agg [F.int .i64 x0,F.int .i64 y0],F.agg [F.int .i64 x1,F.int .i64 y1],F.agg [F.int .i64 x2,F.int .i64 y2]].map .f)) (F.int .i64 r):=by
 refine AX.of_run Au Ei (T:=[]) (n:=200) ?_
 refine gE (Y:=T47 (fun r=>some (.ret (F.int .i64 r))) x0 y0 x1 y1 x2 y2) (by kernel_rfl) ?_
 exact gR (by cases h;rfl)
/-! ### function 91 -/
def T91 {ρ:Type} (ret:(Int)→Option ρ) (x0:Int) (y0:Int) (x1:Int) (y1:Int) (x2:Int) (y2:Int):Option ρ :=
 (AD (decide (IntKind.i64.wrap (IntKind.i64.wrap (IntKind.i64.wrap (x1-x0)*IntKind.i64.wrap (y2-y0))-IntKind.i64.wrap (IntKind.i64.wrap (y1-y0)*IntKind.i64.wrap (x2-x0)))<0))
 (ret (-1))
 (AD (decide (IntKind.i64.wrap (IntKind.i64.wrap (IntKind.i64.wrap (x1-x0)*IntKind.i64.wrap (y2-y0))-IntKind.i64.wrap (IntKind.i64.wrap (y1-y0)*IntKind.i64.wrap (x2-x0))) > 0))
 (ret (1))
 (ret (0))))
def G91 (x0:Int) (y0:Int) (x1:Int) (y1:Int) (x2:Int) (y2:Int):Option (Int):=T91 some x0 y0 x1 y1 x2 y2
theorem t91 (x0:Int) (y0:Int) (x1:Int) (y1:Int) (x2:Int) (y2:Int) (r:Int) (h:G91 x0 y0 x1 y1 x2 y2=some r):AX Tryz.prog Tryz.f91.results.toList [.code (AT Tryz.f91)] (start Tryz.f91.ntmps ([F.agg [F.int .i64 x0,F.int .i64 y0],F.agg [F.int .i64 x1,F.int .i64 y1],F.agg [F.int .i64 x2,F.int .i64 y2]].map .f)) (F.int .i64 r):=by
 refine AX.of_run Au Ei (T:=[]) (n:=200) ?_
 refine gE (Y:=T91 (fun r=>some (.ret (F.int .i64 r))) x0 y0 x1 y1 x2 y2) (by kernel_rfl) ?_
 exact (gS h (fun _ h=>gR (by cases h;rfl)) (fun _ h=>(gS h (fun _ h=>gR (by cases h;rfl)) (fun _ h=>gR (by cases h;rfl)))))
def iH:List F→Bool | [.int .i64 _,.int .i64 _,.int .i64 _]=>true | _=>false
def pre1i:List F→Bool | [.int .i64 _]=>true | _=>false
def iI:List F→Bool | [.agg [.int .i64 _,.int .i64 _]]=>true | _=>false
def Tt:List F→Bool | [.agg [.int .i64 _,.int .i64 _],.agg [.int .i64 _,.int .i64 _]]=>true | _=>false
def iG:List F→Bool | [.agg [.int .i64 _,.int .i64 _],.agg [.int .i64 _,.int .i64 _],.agg [.int .i64 _,.int .i64 _]]=>true | _=>false
def inV (a lo hi:Int):Bool:=decide (lo≤a)&&decide (a≤hi)
def gO:List F→F | [.int .i64 a,.int .i64 b,.int .i64 c]=>.bool (inV a b c) | _=>.dflt
theorem tM (a b c:Int):G90 a b c=some (inV a b c):=by
 unfold G90 T90 inV
 have e:decide (a ≥ b)=decide (b≤a):=rfl
 rw [e]
 cases decide (b≤a) <;> rfl
theorem tN (a b c:Int):G25 a b c=some (inV a b c):=by
 unfold G25 T25 inV
 cases decide (b≤a) <;> rfl
theorem okIn:Ak Tryz.prog 90 iH gO :=
 B2 (c:=AT Tryz.f90) Tryz.func90 (by kernel_rfl) (by kernel_rfl) fun xs hp=>match xs,hp with
 | [.int .i64 a,.int .i64 b,.int .i64 c],hp=>t90 a b c _ (tM a b c)
theorem rQ:Ak Tryz.prog 25 iH gO :=
 B2 (c:=AT Tryz.f25) Tryz.func25 (by kernel_rfl) (by kernel_rfl) fun xs hp=>match xs,hp with
 | [.int .i64 a,.int .i64 b,.int .i64 c],hp=>t25 a b c _ (tN a b c)
def DX (x0 y0 x1 y1:Int):Bool:=decide (x0<x1) || (x0==x1&&decide (y0<y1))
theorem dF (x0 y0 x1 y1:Int):G92 x0 y0 x1 y1=some (DX x0 y0 x1 y1):=by
 unfold G92 T92 DX
 cases decide (x0<x1) <;> cases (x0==x1) <;> rfl
def gK:List F→F | [.agg [.int .i64 a,.int .i64 b],.agg [.int .i64 c,.int .i64 d]]=>.bool (DX a b c d) | _=>.dflt
theorem okLess:Ak Tryz.prog 92 Tt gK :=
 B2 (c:=AT Tryz.f92) Tryz.func92 (by kernel_rfl) (by kernel_rfl) fun xs hp=>match xs,hp with
 | [.agg [.int .i64 a,.int .i64 b],.agg [.int .i64 c,.int .i64 d]],hp=>t92 a b c d _ (dF a b c d)
def I9 (x0 y0 x1 y1:Int):Int:=bif x0==x1&&y0==y1 then 0 else bif DX x0 y0 x1 y1 then -1 else 1
theorem nS (x0 y0 x1 y1:Int):G48 x0 y0 x1 y1=some (I9 x0 y0 x1 y1):=by
 unfold G48 T48 I9 DX
 rw [Bool.and_true]
 cases (x0==x1) <;> cases (y0==y1) <;> cases decide (x0<x1) <;> cases decide (y0<y1) <;> rfl
def qU:List F→F | [.agg [.int .i64 a,.int .i64 b],.agg [.int .i64 c,.int .i64 d]]=>.int .i64 (I9 a b c d) | _=>.dflt
theorem okCmp:Ak Tryz.prog 48 Tt qU :=
 B2 (c:=AT Tryz.f48) Tryz.func48 (by kernel_rfl) (by kernel_rfl) fun xs hp=>match xs,hp with
 | [.agg [.int .i64 a,.int .i64 b],.agg [.int .i64 c,.int .i64 d]],hp=>t48 a b c d _ (nS a b c d)
def IF (n:Int):Int:=bif decide (n<0) then -1 else bif decide (n > 0) then 1 else 0
theorem bV (n:Int):G49 n=some (IF n):=by
 unfold G49 T49 IF
 cases decide (n<0) <;> cases decide (n > 0) <;> rfl
def gF:List F→F | [.int .i64 n]=>.int .i64 (IF n) | _=>.dflt
theorem okSign:Ak Tryz.prog 49 pre1i gF :=
 B2 (c:=AT Tryz.f49) Tryz.func49 (by kernel_rfl) (by kernel_rfl) fun xs hp=>match xs,hp with
 | [.int .i64 n],hp=>t49 n _ (bV n)
def AE (x0 y0 x1 y1 x2 y2:Int):Int:=IntKind.i64.wrap (IntKind.i64.wrap (IntKind.i64.wrap (x1-x0)*IntKind.i64.wrap (y2-y0))-IntKind.i64.wrap (IntKind.i64.wrap (y1-y0)*IntKind.i64.wrap (x2-x0)))
def YU:List F→F | [.agg [.int .i64 a,.int .i64 b],.agg [.int .i64 c,.int .i64 d],.agg [.int .i64 e,.int .i64 f]]=>.int .i64 (AE a b c d e f) | _=>.dflt
theorem okCross:Ak Tryz.prog 47 iG YU :=
 B2 (c:=AT Tryz.f47) Tryz.func47 (by kernel_rfl) (by kernel_rfl) fun xs hp=>match xs,hp with
 | [.agg [.int .i64 a,.int .i64 b],.agg [.int .i64 c,.int .i64 d],.agg [.int .i64 e,.int .i64 f]],hp=>t47 a b c d e f _ rfl
def IB (x0 y0 x1 y1 x2 y2:Int):Int:=IF (AE x0 y0 x1 y1 x2 y2)
theorem bS (x0 y0 x1 y1 x2 y2:Int):G91 x0 y0 x1 y1 x2 y2=some (IB x0 y0 x1 y1 x2 y2):=by
 unfold G91 T91 IB IF AE
 generalize IntKind.i64.wrap (IntKind.i64.wrap (IntKind.i64.wrap (x1-x0)*IntKind.i64.wrap (y2-y0))-IntKind.i64.wrap (IntKind.i64.wrap (y1-y0)*IntKind.i64.wrap (x2-x0)))=n
 cases decide (n<0) <;> cases decide (n > 0) <;> rfl
def gB:List F→F | [.agg [.int .i64 a,.int .i64 b],.agg [.int .i64 c,.int .i64 d],.agg [.int .i64 e,.int .i64 f]]=>.int .i64 (IB a b c d e f) | _=>.dflt
theorem okTurn:Ak Tryz.prog 91 iG gB :=
 B2 (c:=AT Tryz.f91) Tryz.func91 (by kernel_rfl) (by kernel_rfl) fun xs hp=>match xs,hp with
 | [.agg [.int .i64 a,.int .i64 b],.agg [.int .i64 c,.int .i64 d],.agg [.int .i64 e,.int .i64 f]],hp=>t91 a b c d e f _ (bS a b c d e f)
def envW1:Env:=((((((env0.add 90 (.pure iH gO)).add 25 (.pure iH gO)).add 92 (.pure Tt gK)).add 48 (.pure Tt qU)).add 49 (.pure pre1i gF)).add 47 (.pure iG YU)).add 91 (.pure iG gB)
theorem R2:Az Tryz.prog envW1:=(Env.add_ok (Env.add_ok (Env.add_ok (Env.add_ok (Env.add_ok (Env.add_ok (Env.add_ok Ei okIn.sp) rQ.sp) okLess.sp) okCmp.sp) okSign.sp) okCross.sp) okTurn.sp)
/-! ### function 73 -/
def T73 {ρ:Type} (ret:(Bool)→Option ρ) (x0:Int) (y0:Int):Option ρ :=
 (AD (inV x0 (-1000000) 1000000==true)
 (ret (inV y0 (-1000000) 1000000))
 (ret (false)))
def G73 (x0:Int) (y0:Int):Option (Bool):=T73 some x0 y0
theorem t73 (x0:Int) (y0:Int) (r:Bool) (h:G73 x0 y0=some r):AX Tryz.prog Tryz.f73.results.toList [.code (AT Tryz.f73)] (start Tryz.f73.ntmps ([F.agg [F.int .i64 x0,F.int .i64 y0]].map .f)) (F.bool r):=by
 refine AX.of_run Au R2 (T:=[]) (n:=200) ?_
 refine gE (Y:=T73 (fun r=>some (.ret (F.bool r))) x0 y0) (by kernel_rfl) ?_
 exact (gS h (fun _ h=>gR (by cases h;rfl)) (fun _ h=>gR (by cases h;rfl)))
/-! ### function 31 -/
def T31 {ρ:Type} (ret:(Bool)→Option ρ) (x0:Int) (y0:Int):Option ρ :=
 (AD (inV x0 (-1000000) 1000000==true)
 (ret (inV y0 (-1000000) 1000000))
 (ret (false)))
def G31 (x0:Int) (y0:Int):Option (Bool):=T31 some x0 y0
theorem t31 (x0:Int) (y0:Int) (r:Bool) (h:G31 x0 y0=some r):AX Tryz.prog Tryz.f31.results.toList [.code (AT Tryz.f31)] (start Tryz.f31.ntmps ([F.agg [F.int .i64 x0,F.int .i64 y0]].map .f)) (F.bool r):=by
 refine AX.of_run Au R2 (T:=[]) (n:=200) ?_
 refine gE (Y:=T31 (fun r=>some (.ret (F.bool r))) x0 y0) (by kernel_rfl) ?_
 exact (gS h (fun _ h=>gR (by cases h;rfl)) (fun _ h=>gR (by cases h;rfl)))
def By (x y:Int):Bool:=inV x (-1000000) 1000000&&inV y (-1000000) 1000000
theorem Xw (x y:Int):G73 x y=some (By x y):=by
 unfold G73 T73 By
 cases inV x (-1000000) 1000000 <;> rfl
theorem Xx (x y:Int):G31 x y=some (By x y):=by
 unfold G31 T31 By
 cases inV x (-1000000) 1000000 <;> rfl
def MD:List F→F | [.agg [.int .i64 x,.int .i64 y]]=>.bool (By x y) | _=>.dflt
theorem lT:Ak Tryz.prog 73 iI MD :=
 B2 (c:=AT Tryz.f73) Tryz.func73 (by kernel_rfl) (by kernel_rfl) fun xs hp=>match xs,hp with
 | [.agg [.int .i64 x,.int .i64 y]],hp=>t73 x y _ (Xw x y)
theorem lU:Ak Tryz.prog 31 iI MD :=
 B2 (c:=AT Tryz.f31) Tryz.func31 (by kernel_rfl) (by kernel_rfl) fun xs hp=>match xs,hp with
 | [.agg [.int .i64 x,.int .i64 y]],hp=>t31 x y _ (Xx x y)
theorem IE {x y:Int}:By x y=true ↔ -1000000≤x∧x≤1000000∧-1000000≤y∧y≤1000000:=by
 simp only [By,inV,Bool.and_eq_true,decide_eq_true_eq]
 omega
def envW2:Env:=(envW1.add 73 (.pure iI MD)).add 31 (.pure iI MD)
theorem uK:Az Tryz.prog envW2:=(Env.add_ok (Env.add_ok R2 lT.sp) lU.sp)
/-! ### function 4 -/
def T4 {ρ:Type} (ret:(Bool)→Option ρ) (a0:ByteArray):Option ρ :=
 (ret (decide ((↑a0.size:Int) > 1048576)))
def G4 (a0:ByteArray):Option (Bool):=T4 some a0
theorem t4 (a0:ByteArray) (r:Bool) (h:G4 a0=some r):AX Tryz.prog Tryz.f4.results.toList [.code (AT Tryz.f4)] (start Tryz.f4.ntmps ([AB a0].map .f)) (F.bool r):=by
 refine AX.of_run Au Ei (T:=[]) (n:=200) ?_
 refine gE (Y:=T4 (fun r=>some (.ret (F.bool r))) a0) (by kernel_rfl) ?_
 exact gR (by cases h;rfl)
/-! ### function 40 -/
def T40 {ρ:Type} (ret:(Int)→(Int)→Option ρ) (s:ByteArray) (p:Int):Option ρ :=
 (AD (decide (p ≥ (↑s.size:Int)))
 (ret (0) (p))
 (AD (decide (0≤IntKind.i64.wrap (IntKind.i64.wrap (p+1)-1)))
 (AD (decide (IntKind.i64.wrap (IntKind.i64.wrap (p+1)-1)<(↑s.size:Int)))
 (ret (IntKind.i64.wrap (CP s (↑(IntKind.i64.wrap (IntKind.i64.wrap (p+1)-1)).toNat:Int))) (IntKind.i64.wrap (p+1)))
 none)
 none))
def G40 (s:ByteArray) (p:Int):Option ((Int) × (Int)):=T40 (fun r q=>some (r,q)) s p
theorem t40 (s:ByteArray) (p:Int) (r:Int) (q:Int) (h:G40 s p=some (r,q)):Ct Tryz.prog 1 Tryz.f40.results.toList [.code (AT Tryz.f40)] (Cx Tryz.f40.ntmps [U.hp 0 0] [HO.box [U.f (AB s),U.f (F.int .i64 p)]]) (F.tup [F.int .i64 r,F.agg [AB s,F.int .i64 q]]):=by
 refine AX.of_run Au Ei (T:=[]) (n:=200) ?_
 refine gE (Y:=T40 (fun r q=>some (.ret (F.tup [F.int .i64 r,F.agg [AB s,F.int .i64 q]]))) s p) (by kernel_rfl) ?_
 exact (gS h (fun _ h=>gR (by cases h;rfl)) (fun _ h=>(gS h (fun _ h=>(gS h (fun _ h=>gR (by cases h;rfl)) gN)) gN)))
/-! ### function 11 -/
def T11 {ρ:Type} (ret:(Int)→Option ρ) (a0:ByteArray):Option ρ :=
 (ret (0))
def G11 (a0:ByteArray):Option (Int):=T11 some a0
theorem t11 (a0:ByteArray) (r:Int) (h:G11 a0=some r):AX Tryz.prog [ResultVar.cell 2 46] [.code (AT Tryz.f11)] (start Tryz.f11.ntmps ([AB a0].map .f)) (F.agg [AB a0,F.int .i64 r]):=by
 refine AX.of_run Au Ei (T:=[]) (n:=200) ?_
 refine gE (Y:=T11 (fun r=>some (.ret (F.agg [AB a0,F.int .i64 r]))) a0) (by kernel_rfl) ?_
 exact gR (by cases h;rfl)
theorem Il {x:Int} (h0:-9223372036854775808≤x) (h1:x≤9223372036854775807):IntKind.i64.wrap x=x:=by
 unfold IntKind.wrap
 simp [IntKind.bits,IntKind.signed]
 omega
def rG:List F→Bool | [b]=>A1 b | _=>false
theorem okBig:Gk Tryz.prog 4 (.pure rG (fun xs=>match xs with | [b]=>.bool (decide (((AA b).size:Int) > 1048576)) | _=>.bool false)) :=
 Ad (c:=AT Tryz.f4) Tryz.func4 (by kernel_rfl) (by kernel_rfl) fun xs hp=>match xs,hp with
 | [b],hp=>⟨[AB (AA b)],_,⟨(Ci hp).1,trivial⟩,t4 (AA b) _ rfl,.refl _⟩
def Bj (s:ByteArray) (p:Int):Bool:=decide (0≤p∧p≤s.size∧s.size≤1048576)
theorem RB {s:ByteArray} {p:Int}:Bj s p=true ↔ 0≤p∧p≤s.size∧s.size≤1048576:=by simp [Bj]
def GK (s:ByteArray) (p:Int):Int × Int:=(G40 s p).getD (0,0)
theorem QU {s:ByteArray} {p:Int} (h:Bj s p=true):G40 s p=some (GK s p)∧0≤(GK s p).1∧(GK s p).1<256∧Bj s (GK s p).2=true:=by
 obtain ⟨h1,h2,h3⟩:=RB.1 h
 unfold GK G40 T40
 by_cases hp:p ≥ s.size
 ·have c1:decide (p ≥ (s.size:Int))=true:=decide_eq_true hp
  simp only [c1,AH,Option.getD_some]
  exact ⟨trivial,by omega,by omega,h⟩
 ·have c1:decide (p ≥ (s.size:Int))=false:=decide_eq_false hp
  have e:IntKind.i64.wrap (IntKind.i64.wrap (p+1)-1)=p:=by rw [Il (x:=p+1) (by omega) (by omega),Il (by omega) (by omega)];omega
  have c2:decide (0≤p)=true:=decide_eq_true h1
  have c3:decide (p<(s.size:Int))=true:=decide_eq_true (by omega)
  simp only [c1,e,c2,c3,AH,AJ,Option.getD_some]
  obtain ⟨b1,b2⟩:=SS s (p.toNat:Int)
  refine ⟨trivial,?_,?_,?_⟩
  ·rw [Il (by omega) (by omega)];exact b1
  ·rw [Il (by omega) (by omega)];exact b2
  ·rw [Il (by omega) (by omega)];exact RB.2 (by omega)
def S4:List F→Bool
 | [b,.int .i64 p]=>A1 b&&Bj (AA b) p
 | _=>false
def rd (V:ByteArray→Int→F × Int):List F→F × List F
 | [b,.int .i64 p]=>((V (AA b) p).1,[b,.int .i64 (V (AA b) p).2])
 | cs=>(.dflt,cs)
theorem JR {cs:List F} (h:S4 cs=true):∃ b p,cs=[b,.int .i64 p]∧A1 b=true∧Bj (AA b) p=true:=by
 unfold S4 at h
 split at h
 ·simp only [Bool.and_eq_true] at h
  exact ⟨_,_,rfl,h.1,h.2⟩
 ·cases h
theorem okNext:Gk Tryz.prog 40 (Np (fun cs xs=>match xs with | []=>S4 cs | _=>false) (fun cs xs=>rd (fun s p=>(.int .i64 (GK s p).1,(GK s p).2)) cs)) :=
 MR (c:=AT Tryz.f40) Tryz.func40 (by kernel_rfl) (by kernel_rfl) fun cs xs hp=>by
  cases xs with
  | cons _ _=>cases hp
  | nil =>
   obtain ⟨b,p,rfl,hb,hr⟩:=JR hp
   obtain ⟨h1,_⟩:=QU hr
   exact ⟨[AB (AA b),.int .i64 p],[],_,_,⟨(Ci hb).1,.refl _,trivial⟩,trivial,t40 _ _ _ _ h1,.refl _,⟨(Ci hb).2,.refl _,trivial⟩⟩
theorem okOpen:Gk Tryz.prog 11 (sM rG (fun xs=>match xs with | [b]=>[b,.int .i64 0] | _=>[])) :=
 fn_new (c:=AT Tryz.f11) (t:=2) (ty:=46) Tryz.func11 (by kernel_rfl) (by kernel_rfl) (by kernel_rfl) (fun ti h=>by
  have e:(Jz Tryz.prog 46).map TI.isAgg=some true:=by kernel_rfl
  rw [h] at e
  exact Option.some.inj e) fun xs hp=>match xs,hp with
 | [b],hp=>⟨[AB (AA b)],[AB (AA b),.int .i64 0],⟨(Ci hp).1,trivial⟩,t11 (AA b) 0 rfl,⟨(Ci hp).2,.refl _,trivial⟩⟩
def envD1:Env:=((env0.add 40 (Np (fun cs xs=>match xs with | []=>S4 cs | _=>false) (fun cs xs=>rd (fun s p=>(.int .i64 (GK s p).1,(GK s p).2)) cs))).add 11 (sM rG (fun xs=>match xs with | [b]=>[b,.int .i64 0] | _=>[]))).add 4 (.pure rG (fun xs=>match xs with | [b]=>.bool (decide (((AA b).size:Int) > 1048576)) | _=>.bool false))
theorem Z3:Az Tryz.prog envD1:=(Env.add_ok (Env.add_ok (Env.add_ok Ei okNext) okOpen) okBig)
def Df (x0 y0 x1 y1:Int):Bool:=By x0 y0&&(By x1 y1&&DX x0 y0 x1 y1)
def envW3:Env:=envW2
theorem uJ:Az Tryz.prog envW3:=uK
structure Sg where
 x0:Int
 y0:Int
 x1:Int
 y1:Int
def Sg.zero:Sg:=⟨0,0,0,0⟩
def sgF (s:Sg):F:=.agg [.int .i64 s.x0,.int .i64 s.y0,.int .i64 s.x1,.int .i64 s.y1]
def Mc (l:List Sg):F:=slF sgF .zero l
def envW4:Env:=envW3
theorem uI:Az Tryz.prog envW4:=uJ
def uH:Env:=envW4
theorem E0:Az Tryz.prog uH:=uI
section
variable {P:Program} {w:World} {Z:Nat→Prop} {m:Nat→Nat} {H:List HO} {d:Bool}
inductive OwnLe:F→F→Prop
 | nil:OwnLe (.tup []) (.tup [])
 | obj (k:IntKind) (sz:Int) (n:Nat) (g g':Nat→F) (h:∀ j,j<n→g j=g' j):OwnLe (.tup [.int k sz,.sl n g]) (.tup [.int k sz,.sl n g'])
 | dat (x:F) (h:Bi x=true):OwnLe x x
def JB:List F→List F→Prop
 | [],[]=>True
 | x :: xs,y :: ys=>OwnLe x y∧JB xs ys
 | _,_=>False
theorem dR {n:Nat} {g:Nat→F} (h:I8 n g=true) {i:Nat} (hi:i<n):Hj (g i)=true:=by
 unfold I8 at h
 exact List.all_eq_true.1 h i (List.mem_range.2 hi)
theorem Mu:∀ (cs:List F),WP cs=true→∀ (j:Nat) (u:F),cs[j]?=some u→Hj u=true
 | [],_,j,u,hu=>by simp at hu
 | c :: cs,h,j,u,hu=>by
  simp only [WP,Bool.and_eq_true] at h
  cases j with
  | zero=>simp at hu;exact hu ▸ h.1
  | succ j=>simp at hu;exact Mu cs h.2 j u hu
theorem X8 {x:F} (h:Hj x=true) {j:Nat} {u:F} (hu:x.cells[j]?=some u):Hj u=true:=by
 cases x with
 | agg cs=>exact Mu cs (by simpa [Hj] using h) j u hu
 | _ =>
  cases j with
  | zero=>simp [F.cells] at hu;rw [← hu];exact h
  | succ j=>simp [F.cells] at hu
theorem RepF.scal0_any {w w':World} {Z Z':Nat→Prop} {x:F} {v:Value} (h:RepF w Z x v):Hj x=true→RepF w' Z' x v:=by
 induction h with
 | bool b=>intro _;exact .bool b
 | int k n=>intro _;exact .int k n
 | str s=>intro _;exact .str s
 | sl n g A c sz a V hc hs hk hA hV hr ih =>
  intro h
  have h0:n=0:=Nat.eq_of_beq_eq_true (by simpa [Hj] using h)
  subst h0
  exact .sl 0 g A c sz a V hc hs hk (fun h=>absurd rfl h) (fun i j u hi=>by omega) (fun i j u hi=>by omega)
 | cl n g v h h0 ih=>intro h';exact .cl n g v (ih (by simpa [Hj] using h')) h0
 | agg cs vs hl hr ih=>intro h;exact .agg cs vs hl fun j u v hu hv=>ih j u v hu hv (Mu cs (by simpa [Hj] using h) j u hu)
 | tup cs vs hl hr ih=>intro h;simp [Hj] at h
theorem Yu:∀ (us:List U) (es:List F),Gj d H us=some es→us.length=es.length∧∀ (j:Nat) (u:U),us[j]?=some u→∃ e,es[j]?=some e∧Ii d H u=some e
 | [],es,h=>by simp only [Gj,Option.some.injEq] at h;subst h;exact ⟨rfl,fun j u hu=>by simp at hu⟩
 | u :: us,es,h=>by
  simp only [Gj] at h
  split at h
  ·rename_i x xs hx hxs
   cases h
   obtain ⟨h1,h2⟩:=Yu us xs hxs
   refine ⟨by simp [h1],fun j v hv=>?_⟩
   cases j with
   | zero=>simp at hv;subst hv;exact ⟨x,rfl,hx⟩
   | succ j=>simp at hv;obtain ⟨e,h3,h4⟩:=h2 j v hv;exact ⟨e,by simpa using h3,h4⟩
  ·cases h
theorem RO:∀ {es fs:List F},JB es fs→es.length=fs.length∧∀ (j:Nat) (e:F),es[j]?=some e→∃ f,fs[j]?=some f∧OwnLe e f
 | [],[],_=>⟨rfl,fun j e h=>by simp at h⟩
 | x :: xs,y :: ys,h=>by
  obtain ⟨h1,h2⟩:=RO h.2
  refine ⟨by simp [h1],fun j e he=>?_⟩
  cases j with
  | zero=>simp at he;subst he;exact ⟨y,rfl,h.1⟩
  | succ j=>simp at he;obtain ⟨f,h3,h4⟩:=h2 j e he;exact ⟨f,by simpa using h3,h4⟩
 | [],_ :: _,h=>h.elim
 | _ :: _,[],h=>h.elim
theorem Tx {x:F} (h:Bi x=true) (es:List F):DV (x :: es)=DV es:=by
 cases x <;> first | rfl | simp [Bi] at h
theorem Yt:∀ (us:List U) (es fs:List F),Gj d H us=some es→JB es fs→(∀ u ∈ us,∀ o g f l,u ≠ .hs o g f l)→DV fs=[]
 | [],es,fs,h,hle,_=>by
  simp only [Gj,Option.some.injEq] at h
  subst h
  cases fs with
  | nil=>rfl
  | cons=>exact hle.elim
 | u :: us,es,fs,h,hle,hn=>by
  simp only [Gj] at h
  split at h
  case h_2=>cases h
  rename_i x xs hx hxs
  cases h
  cases fs with
  | nil=>exact hle.elim
  | cons y ys =>
   have ih:=Yt us xs ys hxs hle.2 (fun u hu=>hn u (by simp [hu]))
   have h1:=hle.1
   cases u with
   | f x' =>
    simp only [Ii] at hx
    split at hx
    ·rename_i hc
     cases hx
     simp only [Bool.and_eq_true] at hc
     cases h1 with
     | nil=>simp [Bi] at hc
     | obj=>simp [Bi] at hc
     | dat _ h=>rw [Tx h];exact ih
    ·cases hx
   | nils =>
    simp only [Ii,Option.some.injEq] at hx
    subst hx
    cases h1 with
    | nil=>exact ih
    | dat _ h=>simp [Bi] at h
   | hs o g f l=>exact absurd rfl (hn _ (by simp) o g f l)
   | _=>simp [Ii] at hx
theorem RP:∀ (us:List U) (es fs:List F),(Aw us).length≤1→Gj d H us=some es→JB es fs →
  (DV fs=[]∧∀ u ∈ us,∀ o g f l,u ≠ .hs o g f l) ∨
  ∃ o sz n g g',H[o]?=some (.arr sz n g)∧(d || I8 n g)=true∧(∀ j,j<n→g j=g' j)∧DV fs=[.arr sz n g']∧∀ u ∈ us,∀ o1 g1 f1 l1,u=.hs o1 g1 f1 l1→o1=o∧g1=n∧f1=0∧l1=n
 | [],es,fs,_,h,hle=>by
  simp only [Gj,Option.some.injEq] at h
  subst h
  cases fs with
  | nil=>exact .inl ⟨rfl,by simp⟩
  | cons=>exact hle.elim
 | u :: us,es,fs,hl,h,hle=>by
  have h':=h
  simp only [Gj] at h
  split at h
  case h_2=>cases h
  rename_i x xs hx hxs
  cases h
  cases fs with
  | nil=>exact hle.elim
  | cons y ys =>
   obtain ⟨h1,h2⟩:=hle
   simp only [Aw,List.length_append] at hl
   have ih:=RP us xs ys (by omega) hxs h2
   have rest:(∀ o g f l,u ≠ .hs o g f l)→DV (y :: ys)=DV ys→(DV (y :: ys)=[]∧∀ u' ∈ u :: us,∀ o g f l,u' ≠ .hs o g f l) ∨
     ∃ o sz n g g',H[o]?=some (.arr sz n g)∧(d || I8 n g)=true∧(∀ j,j<n→g j=g' j)∧DV (y :: ys)=[.arr sz n g']∧∀ u' ∈ u :: us,∀ o1 g1 f1 l1,u'=.hs o1 g1 f1 l1→o1=o∧g1=n∧f1=0∧l1=n:=by
    intro hu ho
    rw [ho]
    rcases ih with ⟨a1,a2⟩ | ⟨o,sz,n,g,g',a1,a2,a3,a4,a5⟩
    ·refine .inl ⟨a1,fun u' hu'=>?_⟩
     rcases List.mem_cons.1 hu' with rfl | hu'
     ·exact hu
     ·exact a2 u' hu'
    ·refine .inr ⟨o,sz,n,g,g',a1,a2,a3,a4,fun u' hu'=>?_⟩
     rcases List.mem_cons.1 hu' with rfl | hu'
     ·exact fun o1 g1 f1 l1 e=>absurd e (hu o1 g1 f1 l1)
     ·exact a5 u' hu'
   cases u with
   | f x' =>
    simp only [Ii] at hx
    split at hx
    ·rename_i hc
     cases hx
     simp only [Bool.and_eq_true] at hc
     refine rest (fun o g f l e=>by cases e) ?_
     cases h1 with
     | nil=>simp [Bi] at hc
     | obj=>simp [Bi] at hc
     | dat _ h=>exact Tx h ys
    ·cases hx
   | nils =>
    simp only [Ii,Option.some.injEq] at hx
    subst hx
    refine rest (fun o g f l e=>by cases e) ?_
    cases h1 with
    | nil=>rfl
    | dat _ h=>simp [Bi] at h
   | hs o gen off len =>
    simp only [Ii] at hx
    split at hx
    ·rename_i sz n g ho
     split at hx
     ·rename_i hc
      obtain ⟨rfl,rfl,rfl,hs⟩:=hc
      cases hx
      have hno:∀ u ∈ us,∀ o g f l,u ≠ .hs o g f l:=by
       simp only [DH,List.length_singleton] at hl
       have h0:Aw us=[]:=List.eq_nil_of_length_eq_zero (by omega)
       intro u hu o g f l e
       subst e
       have:o ∈ Aw us:=GJ us _ o hu (by simp [DH])
       rw [h0] at this;cases this
      have hob:=Yt us xs ys hxs h2 hno
      cases h1 with
      | obj _ _ _ _ g' h3 =>
       refine .inr ⟨o,sz,_,g,g',ho,hs,h3,?_,?_⟩
       ·simp [DV,hob]
       ·intro u hu o1 g1 f1 l1 e
        rcases List.mem_cons.1 hu with rfl | hu
        ·cases e;exact ⟨rfl,rfl,rfl,rfl⟩
        ·exact absurd e (hno u hu o1 g1 f1 l1)
      | dat _ h=>simp [Bi] at h
     ·cases hx
    ·cases hx
   | _=>simp [Ii] at hx
theorem Yz {w':World} {Z':Nat→Prop} {m' m2:Nat→Nat} {H2:List HO} {u:U} {e e':F} {v:Value} {b:Nat} (hu:RepU w' Z' m' H u v) (he:Ii d H u=some e) (hle:OwnLe e e')
  (hfx:∀ x v,(d || Hj x)=true→RepF w' Z' x v→RepF w' Z x v)
  (hobj:∀ o gen off len,u=.hs o gen off len→∃ sz g',off=0∧len=gen∧H2[b]?=some (.arr sz gen g')∧m2 b=m' o∧∃ g,H[o]?=some (.arr sz gen g)):RepU w' Z m2 H2 (rP b e') v:=by
 cases u with
 | f x =>
  simp only [Ii] at he
  split at he
  ·rename_i hc
   have hxe:x=e:=Option.some.inj he
   subst hxe
   simp only [Bool.and_eq_true] at hc
   cases hle with
   | nil=>simp [Bi] at hc
   | obj=>simp [Bi] at hc
   | dat _ h =>
    have key:∀ y:F,Bi y=true→rP b y=.f y:=fun y h=>by cases y <;> first | rfl | simp [Bi] at h
    rw [key _ hc.2]
    cases hu with | f _ _ hr=>exact .f _ _ (hfx _ _ hc.1 hr)
  ·cases he
 | nils =>
  simp only [Ii,Option.some.injEq] at he
  subst he
  cases hle with
  | nil=>cases hu with | nils A=>exact .nils A
  | dat _ h=>simp [Bi] at h
 | hs o gen off len =>
  obtain ⟨sz,g',rfl,rfl,hb,hm,g,ho⟩:=hobj o gen off len rfl
  simp only [Ii,ho] at he
  split at he
  ·cases he
   cases hle with
   | obj _ _ _ _ g1 h3 =>
    show RepU w' Z m2 H2 (.hs b len 0 len) v
    cases hu with
    | hs _ _ _ _ _ h1 hk hg hv =>
     obtain ⟨q1,A,c,q2,q3,q4,q5⟩:=hv sz len g ho rfl
     refine .hs b len 0 len v h1 ⟨_,hb,by simp⟩ (fun sz' n' g'' e=>?_) (fun sz' n' g'' e eg=>?_)
     ·rw [hb] at e;cases e;exact Nat.le_refl _
     ·rw [hb] at e;cases e
      rw [hm]
      exact ⟨q1,A,c,q2,q3,q4,q5⟩
   | dat _ h=>simp [Bi] at h
  ·cases he
 | _=>simp [Ii] at he
/-! Answers with one layer of fields. -/
def TF (e f:F):Prop:=Cd e=Cd f∧JB e.cells f.cells
def Vy:List F→List F→Prop
 | [],[]=>True
 | x :: xs,y :: ys=>TF x y∧Vy xs ys
 | _,_=>False
theorem TF.of {e f:F} (h:OwnLe e f):TF e f:=by
 cases h with
 | nil=>exact ⟨rfl,.nil,trivial⟩
 | obj k sz n g g' h=>exact ⟨rfl,.obj k sz n g g' h,trivial⟩
 | dat x h =>
  refine ⟨rfl,?_⟩
  have:e.cells=[e]:=by cases e <;> first | rfl | simp [Bi] at h
  rw [this]
  exact ⟨.dat e h,trivial⟩
theorem TF.agg {es fs:List F} (h:JB es fs):TF (.agg es) (.agg fs):=⟨rfl,h⟩
theorem JU:∀ {es fs:List F},Vy es fs→es.length=fs.length∧∀ (j:Nat) (e:F),es[j]?=some e→∃ f,fs[j]?=some f∧TF e f
 | [],[],_=>⟨rfl,fun j e h=>by simp at h⟩
 | x :: xs,y :: ys,h=>by
  obtain ⟨h1,h2⟩:=JU h.2
  refine ⟨by simp [h1],fun j e he=>?_⟩
  cases j with
  | zero=>simp at he;subst he;exact ⟨y,rfl,h.1⟩
  | succ j=>simp at he;obtain ⟨f,h3,h4⟩:=h2 j e he;exact ⟨f,by simpa using h3,h4⟩
 | [],_ :: _,h=>h.elim
 | _ :: _,[],h=>h.elim
theorem M7 (e:F) (es:List F):Di (e :: es)=e.cells++Di es:=by cases e <;> rfl
theorem Mh:∀ {a b c d:List F},JB a b→JB c d→JB (a++c) (b++d)
 | [],[],_,_,_,h=>h
 | _ :: _,_ :: _,_,_,h,h'=>⟨h.1,Mh h.2 h'⟩
 | [],_ :: _,_,_,h,_=>h.elim
 | _ :: _,[],_,_,h,_=>h.elim
theorem Mz:∀ {es fs:List F},Vy es fs→JB (Di es) (Di fs)
 | [],[],_=>trivial
 | x :: xs,y :: ys,h=>by
  rw [M7,M7]
  exact Mh h.1.2 (Mz h.2)
 | [],_ :: _,h=>h.elim
 | _ :: _,[],h=>h.elim
theorem Pn:∀ (us vs:List U) (a b:List F),Gj d H us=some a→Gj d H vs=some b→Gj d H (us++vs)=some (a++b)
 | [],vs,a,b,h,h'=>by simp only [Gj,Option.some.injEq] at h;subst h;exact h'
 | u :: us,vs,a,b,h,h'=>by
  simp only [Gj] at h
  split at h
  ·rename_i x xs hx hxs
   cases h
   simp only [List.cons_append,Gj,hx,Pn us vs xs b hxs h']
  ·cases h
theorem cQ {u:U} {e:F} (h:Ii d H u=some e):Cd e=false∧e.cells=[e]:=by
 cases u with
 | f x =>
  simp only [Ii] at h
  split at h
  ·rename_i hc
   cases h
   simp only [Bool.and_eq_true] at hc
   obtain ⟨_,hc⟩:=hc
   cases e <;> first | exact ⟨rfl,rfl⟩ | simp [Bi] at hc
  ·cases h
 | nils=>simp only [Ii,Option.some.injEq] at h;subst h;exact ⟨rfl,rfl⟩
 | hs o gen off len =>
  simp only [Ii] at h
  split at h
  ·split at h
   ·cases h;exact ⟨rfl,rfl⟩
   ·cases h
  ·cases h
 | _=>simp [Ii] at h
theorem Vn {u:U} (h:C4 u=false):u.cells=[u]:=by
 cases u with
 | f x=>cases x <;> first | rfl | simp [C4] at h
 | agg=>simp [C4] at h
 | _=>rfl
theorem T0 {u:U} {a:List F} (h:Gj d H u.cells=some a):(mkF (C4 u) a).cells=a∧Cd (mkF (C4 u) a)=C4 u:=by
 cases hu:C4 u with
 | true=>exact ⟨rfl,rfl⟩
 | false =>
  rw [Vn hu] at h
  simp only [Gj] at h
  split at h
  ·rename_i x xs hx hxs
   cases h
   simp only [Option.some.injEq] at hxs
   subst hxs
   obtain ⟨h1,h2⟩:=cQ hx
   exact ⟨h2,h1⟩
  ·cases h
def Pv (us:List U):List U:=(us.map U.cells).flatten
theorem JV:∀ (us:List U) (es:List F),RQ d H us=some es→Gj d H (Pv us)=some (Di es)∧us.length=es.length∧∀ (j:Nat) (u:U),us[j]?=some u→∃ a,Gj d H u.cells=some a∧es[j]?=some (mkF (C4 u) a)
 | [],es,h=>by simp only [RQ,Option.some.injEq] at h;subst h;exact ⟨rfl,rfl,fun j u hu=>by simp at hu⟩
 | u :: us,es,h=>by
  simp only [RQ] at h
  split at h
  ·rename_i a r ha hr
   cases h
   obtain ⟨h1,h2,h3⟩:=JV us r hr
   refine ⟨?_,by simp [h2],fun j v hv=>?_⟩
   ·rw [M7,(T0 ha).1]
    exact Pn _ _ _ _ ha h1
   ·cases j with
    | zero=>simp at hv;subst hv;exact ⟨a,ha,rfl⟩
    | succ j=>simp at hv;obtain ⟨b,h4,h5⟩:=h3 j v hv;exact ⟨b,h4,by simpa using h5⟩
  ·cases h
theorem LL:∀ (us vs:List U),Aw (us++vs)=Aw us++Aw vs
 | [],vs=>rfl
 | u :: us,vs=>by simp [Aw,LL us vs]
theorem Ty:∀ cs:List F,Aw (cs.map U.f)=[]
 | []=>rfl
 | c :: cs=>by simp [Aw,DH,Ty cs]
theorem cV (u:U):Aw u.cells=DH u ∨ ∃ l,u=.tup l:=by
 cases u with
 | f x=>cases x <;> first | (left;rfl) | (left;simp [U.cells,Ty,DH])
 | agg l=>left;rfl
 | tup l=>exact .inr ⟨l,rfl⟩
 | _=>left;simp [U.cells,Aw,DH]
theorem KC:∀ (us:List U),(Aw (Pv us)).length≤(Aw us).length
 | []=>Nat.le_refl _
 | u :: us=>by
  have ih:=KC us
  have:Pv (u :: us)=u.cells++Pv us:=rfl
  rw [this,LL]
  simp only [Aw,List.length_append]
  rcases cV u with h | ⟨l,rfl⟩
  ·rw [h];omega
  ·have:Aw (U.tup l).cells=DH (.tup l):=by simp [U.cells,Aw]
   rw [this];omega
theorem MS {us:List U} {u x:U} (hu:u ∈ us) (hx:x ∈ u.cells):x ∈ Pv us:=by
 unfold Pv
 rw [List.mem_flatten]
 exact ⟨u.cells,List.mem_map_of_mem hu,hx⟩
theorem Nt {w':World} {Z':Nat→Prop} {m' m2:Nat→Nat} {H2:List HO} {u:U} {a:List F} {e':F} {v:Value} {b:Nat} (hu:RepU w' Z' m' H u v) (ha:Gj d H u.cells=some a) (hle:TF (mkF (C4 u) a) e')
  (hfx:∀ x v,(d || Hj x)=true→RepF w' Z' x v→RepF w' Z x v)
  (hobj:∀ x ∈ u.cells,∀ o gen off len,x=.hs o gen off len→∃ sz g',off=0∧len=gen∧H2[b]?=some (.arr sz gen g')∧m2 b=m' o∧∃ g,H[o]?=some (.arr sz gen g)):RepU w' Z m2 H2 (S5 b e') v:=by
 obtain ⟨hc,hag⟩:=T0 ha
 obtain ⟨h1,h2⟩:=hle
 rw [hag] at h1
 rw [hc] at h2
 obtain ⟨al,ag⟩:=Yu _ _ ha
 obtain ⟨bl,bg⟩:=RO h2
 cases hagu:C4 u with
 | true =>
  rw [hagu] at h1
  cases e' with
  | agg bs =>
   obtain ⟨vs,rfl,hl,hg⟩:∃ vs:List Value,v=.agg vs.toArray∧u.cells.length=vs.length∧∀ (j:Nat) (x:U) (y:Value),u.cells[j]?=some x→vs[j]?=some y→RepU w' Z' m' H x y:=by
    cases hu with
    | f x _ hr =>
     cases hr with
     | agg cs vs hl hr =>
      refine ⟨vs,rfl,by simpa [U.cells] using hl,fun j x y hx hy=>?_⟩
      simp only [U.cells,List.getElem?_map] at hx
      cases hcj:cs[j]? with
      | none=>rw [hcj] at hx;cases hx
      | some c=>rw [hcj] at hx;cases hx;exact .f _ _ (hr j c y hcj hy)
     | _=>simp [C4] at hagu
    | agg cs vs hl hr=>exact ⟨vs,rfl,hl,hr⟩
    | _=>simp [C4] at hagu
   have hb:bs.length=vs.length:=by rw [← hl,al,bl];rfl
   refine .agg _ vs (by simpa using hb) fun j x y hx hy=>?_
   rw [List.getElem?_map] at hx
   cases he:bs[j]? with
   | none=>rw [he] at hx;cases hx
   | some e =>
    rw [he] at hx;cases hx
    have hj:=(List.getElem?_eq_some_iff.1 he).1
    have hbl:a.length=bs.length:=bl
    have huj:u.cells[j]?=some u.cells[j]:=List.getElem?_eq_getElem (by omega)
    obtain ⟨e0,g1,g2⟩:=ag j _ huj
    obtain ⟨e1,g3,g4⟩:=bg j e0 g1
    have:bs[j]?=some e1:=g3
    rw [he] at this;cases this
    exact Yz (hg j _ y huj hy) g2 g4 hfx (hobj _ (List.getElem_mem _))
  | _=>simp [Cd] at h1
 | false =>
  rw [hagu] at h1
  have hcu:=Vn hagu
  rw [hcu] at ag al hobj
  obtain ⟨e0,g1,g2⟩:=ag 0 u rfl
  obtain ⟨e1,g3,g4⟩:=bg 0 e0 g1
  have he':e'.cells=[e']:=by cases e' <;> first | rfl | simp [Cd] at h1
  rw [he'] at g3
  simp at g3
  subst g3
  have:S5 b e'=rP b e':=by cases e' <;> first | rfl | simp [Cd] at h1
  rw [this]
  exact Yz hu g2 g4 hfx (hobj u (by simp))
theorem fn_own {f : FuncId} {fn : Func} {c : Code} (hf : P.funcs[f]? = some fn) (hb : fn.body = some c) (hname : (fn.name == "runtime.NumGoroutine") = false) {pre cnd : List F → Bool} {r1 r2 : List F → F}
  (h:∀ xs,pre xs=true→∃ ys es fs,E5 xs ys∧AX P (.tmp 1000000 :: fn.results.toList) [.code c] (start fn.ntmps (ys.map .f)) (.tup es)∧Vy es fs∧(if cnd xs then r1 xs else r2 xs)=.tup fs):Gk P f (.own pre cnd r1 r2):=by
 intro us H slot hslot hp w Z m args hH hL
 simp only [LJ,Er] at hp ⊢
 cases hxs:Bf H us with
 | none=>rw [hxs] at hp;cases hp
 | some xs =>
 rw [hxs] at hp
 simp only at hp
 simp only []
 obtain ⟨hl2,hg2⟩:=Bk us xs hxs
 obtain ⟨ys,es,fs,hle,h,hes,hfs⟩:=h xs hp
 rw [hfs]
 obtain ⟨hyl,hyg⟩:=hle.get
 let Z1:Nat→Prop:=fun b=>Z b ∨ ∃ o,A0 H o∧m o=b
 have hZ1:∀ b,Z1 b→b<w.heap.size:=by
  rintro b (hb | ⟨o,hlv,rfl⟩)
  ·exact hH.zlt b hb
  ·exact hH.blk_lt hlv
 refine .inl ⟨by
  have hp:(program).run P w=.ok P w:=rfl
  unfold callFunc
  simp only [Sem.run_bind,hp,Result.andThen,hf,hname,hb,Option.isNone_some,Bool.false_eq_true,if_false,Sem.run_pure],fun cs=>?_⟩
 have hlenx:xs.length=args.size:=by rw [← hl2];simpa using hL.1
 have hlen:ys.length=args.size:=by rw [← hyl];exact hlenx
 have hA:AOK w Z1 m (start fn.ntmps (ys.map .f)) { tmps:=args++Array.replicate (fn.ntmps-args.size) undef,defers:=[] }:=by
  refine ⟨by simp [start,hlen],fun i u v hu hv=>?_,?_⟩
  ·simp only [start,List.length_map] at hu
   rw [List.getElem?_append] at hu
   rw [Array.getElem?_append] at hv
   simp only [List.length_map] at hu
   split at hu
   ·rename_i hi
    rw [if_pos (by omega)] at hv
    rw [List.getElem?_map] at hu
    cases hy:ys[i]? with
    | none=>rw [hy] at hu;cases hu
    | some y =>
     rw [hy] at hu;cases hu
     obtain ⟨x,hx,hxy⟩:=hyg i y hy
     have huj:us[i]?=some us[i]:=List.getElem?_eq_getElem (by have:=(List.getElem?_eq_some_iff.1 hx).1;omega)
     refine .f _ _ (hxy _ _ _ ((In hH (fun _ _ h=>h) (hL.2 i _ v huj (by simpa using hv)) (hg2 i _ x huj hx)).mono ?_ (fun _ _=>rfl)))
     rintro b (hb | ⟨o,_,hlv,rfl⟩)
     ·exact .inl hb
     ·exact .inr ⟨o,hlv,rfl⟩
   ·rename_i hi
    rw [if_neg (by omega)] at hv
    rw [List.getElem?_replicate] at hu
    rw [Array.getElem?_replicate] at hv
    split at hu
    ·split at hv
     ·cases hu;cases hv;exact .undef
     ·cases hv
    ·cases hu
  ·exact ⟨hZ1,fun o ⟨ob,ho,_⟩=>by simp [start] at ho,fun o o' ⟨ob,ho,_⟩=>by simp [start] at ho,fun o ob ho=>by simp [start] at ho⟩
 let b:Frame:={ (default:Frame) with fn:=f,kind:=.normal }
 have henter:Frame.enter P f args .normal=b.at { tmps:=args++Array.replicate (fn.ntmps-args.size) undef,defers:=[] } [.code c]:=by
  simp [Frame.enter,Frame.at,hf,hb,b]
 obtain ⟨st',a',w',todo,hk,⟨hd,Z',m',hA',hE'⟩,hs⟩:=h w Z1 m [] [] _ w Z1 m rfl hA rfl (Ext.refl _ _ _ _) b cs
 have hlive0:∀ o,¬ A0 ([]:List HO) o:=fun o ⟨ob,ho,_⟩=>by simp at ho
 unfold S0 at hk
 rw [if_pos (by rfl)] at hk
 have hdm:(ResultVar.tmp 1000000 :: fn.results.toList).head?.elim false W7=false:=rfl
 have htm:(ResultVar.tmp 1000000 :: fn.results.toList).head?.elim false Qs=false:=rfl
 rw [hdm,htm] at hk
 simp only [List.tail_cons,cC] at hk
 split at hk
 case h_2=>cases hk
 rename_i us' hus
 split at hk
 case isFalse=>cases hk
 rename_i hl1
 replace hl1:(Aw us').length≤1:=of_decide_eq_true (by simpa using hl1)
 cases hes':RQ false st'.heap us' with
 | none=>rw [hes'] at hk;cases hk
 | some es' =>
 rw [hes'] at hk
 simp only [Option.map_some,Option.some.injEq,F.tup.injEq] at hk
 subst hk
 obtain ⟨vs,hvs,hR⟩:=JO (P:=P) hA' _ _ hus
 have hres:(results fn a'.tmps).run P w'=.ok (if h:vs.toArray.size=1 then vs.toArray[0] else .tuple vs.toArray) w':=by
  unfold results
  rw [← Array.toArray_toList (xs:=fn.results),List.mapM_toArray]
  simp only [Sem.run_bind,Sem.run_map]
  refine (congrArg (fun q=>Result.andThen (Result.andThen q fun x w=>Result.ok x.toArray w) fun vs w=>(pure (if h:vs.size=1 then vs[0] else .tuple vs):Sem Value).run P w) hvs).trans ?_
  simp [Result.andThen]
 have hold:∀ b,b<w.heap.size→w'.heap[b]?=w.heap[b]?:=fun b hb=>hE'.rest b hb fun o ho=>absurd ho (hlive0 o)
  -- the caller's new heap
 have main:∃ m2,Ext w Z m H w' Z m2 (Do H slot (DV (Di fs)))∧HOK w' Z m2 (Do H slot (DV (Di fs)))∧∀ (j:Nat) (e:F) (v:Value),fs[j]?=some e→vs[j]?=some v→RepU w' Z m2 (Do H slot (DV (Di fs))) (S5 (JX H slot) e) v:=by
  obtain ⟨hflat,hol,hog⟩:=JV us' es' hes'
  obtain ⟨hfl,hfg⟩:=JU hes
  have each:∀ (j:Nat) (e:F),fs[j]?=some e→∃ u a,us'[j]?=some u∧Gj false st'.heap u.cells=some a∧TF (mkF (C4 u) a) e:=fun j e he=>by
   have hj:=(List.getElem?_eq_some_iff.1 he).1
   have huj:us'[j]?=some us'[j]:=List.getElem?_eq_getElem (by omega)
   obtain ⟨a,h1,h2⟩:=hog j _ huj
   obtain ⟨e1,h3,h4⟩:=hfg j _ h2
   rw [he] at h3;cases h3
   exact ⟨_,a,huj,h1,h4⟩
  rcases RP (Pv us') (Di es') (Di fs) (Nat.le_trans (KC us') hl1) hflat (Mz hes) with ⟨h0,hno⟩ | ⟨o,sz,n,g,g',ho,hsc,hgg,hob,hone⟩
  ·rw [h0]
   have e0:Do H slot []=H:=rfl
   rw [e0]
   have hEE:Ext w Z m H w' Z m H:=by
    refine ⟨hE'.os,hE'.tape,hE'.output,hE'.size,fun b hb=>hb,fun b hb=>.inl hb,fun b hb=>hold b (hH.zlt b hb),fun b hb _=>hold b hb,Nat.le_refl _,fun k ob ob' h1 h2=>?_,fun k hk=>.inl ⟨hk,rfl⟩⟩
    rw [h1] at h2;cases h2
    cases ob with
    | arr sz n g=>exact ⟨rfl,Nat.le_refl _,fun _=>⟨rfl,by simp only [A4,hold _ (hH.blk_lt ⟨_,h1,rfl⟩)]⟩⟩
    | _=>simp [CA]
   refine ⟨m,hEE,⟨fun b hb=>Nat.lt_of_lt_of_le (hH.zlt b hb) hE'.size,hH.apart,hH.inj,fun k ob hk=>?_⟩,fun j e v he hv=>?_⟩
   ·by_cases hd:ob.live=true
    ·exact (hH.ob k ob hk).mono hEE (hold _ (hH.blk_lt ⟨_,hk,hd⟩))
    ·cases ob <;> simp_all [Ij,HO.live]
   ·obtain ⟨u,e0,h1,h2,h3⟩:=each j e he
    exact Nt (hR.2 j u v h1 hv) h2 h3 (fun x v h hr=>hr.scal0_any (by simpa using h)) fun x hx o gen off len e=>absurd e (hno x (MS (List.mem_of_getElem? h1) hx) o gen off len)
  ·rw [hob]
   have eN:Do H slot [.arr sz n g']=ES H slot (.arr sz n g'):=by cases slot <;> rfl
   have eA:JX H slot=BX H slot:=by cases slot <;> rfl
   rw [eN,eA]
   have hlo:A0 st'.heap o:=⟨_,ho,rfl⟩
   let m2:Nat→Nat:=fun k=>if k=BX H slot then m' o else m k
   have hfresh:w.heap.size≤m' o:=by
    rcases hE'.new o hlo with ⟨h,_⟩ | h
    ·exact absurd h (hlive0 o)
    ·exact h
   have hmn:m2 (BX H slot)=m' o:=by simp [m2]
   have hmk:∀ k,k ≠ BX H slot→m2 k=m k:=fun k hk=>by simp only [m2];rw [if_neg hk]
   have hsplit:∀ k,A0 (ES H slot (.arr sz n g')) k→k=BX H slot ∨ (k ≠ BX H slot∧A0 H k):=by
    rintro k ⟨ob,hk,hl⟩
    by_cases hp:k=BX H slot
    ·exact .inl hp
    ·rw [D6 _ _ _ hp] at hk;exact .inr ⟨hp,ob,hk,hl⟩
   have hEE:Ext w Z m H w' Z m2 (ES H slot (.arr sz n g')):=by
    refine ⟨hE'.os,hE'.tape,hE'.output,hE'.size,fun b hb=>hb,fun b hb=>.inl hb,fun b hb=>hold b (hH.zlt b hb),fun b hb _=>hold b hb,RE _ _ _,?_,?_⟩
    ·intro k ob ob' hk hk'
     by_cases hp:k=BX H slot
     ·cases hsl:slot with
      | none=>rw [hsl] at hp;subst hp;simp [BX] at hk
      | some k' =>
       rw [hsl] at hp
       obtain rfl:k=k':=hp
       rw [hslot k hsl] at hk
       cases hk
       cases ob' <;> simp [CA]
     ·rw [D6 _ _ _ hp,hk] at hk'
      cases hk'
      rw [hmk k hp]
      cases ob with
      | arr sz n g=>exact ⟨rfl,Nat.le_refl _,fun _=>⟨rfl,by simp only [A4,hold _ (hH.blk_lt ⟨_,hk,rfl⟩)]⟩⟩
      | _=>simp [CA]
    ·intro k hk
     rcases hsplit k hk with h1 | ⟨h1,h2⟩
     ·subst h1;right;rw [hmn];exact hfresh
     ·exact .inl ⟨h2,hmk k h1⟩
   refine ⟨m2,hEE,⟨fun b hb=>Nat.lt_of_lt_of_le (hH.zlt b hb) hE'.size,?_,?_,?_⟩,fun j e v he hv=>?_⟩
   ·intro k hk hz
    rcases hsplit k hk with h1 | ⟨h1,h2⟩
    ·subst h1
     rw [hmn] at hz
     have:=hH.zlt _ hz
     omega
    ·rw [hmk k h1] at hz;exact hH.apart k h2 hz
   ·intro k k' hk hk' e
    rcases hsplit k hk with h1 | ⟨h1,g1⟩ <;> rcases hsplit k' hk' with h2 | ⟨h2,g2⟩
    ·rw [h1,h2]
    ·subst h1;rw [hmk k' h2,hmn] at e;have:=hH.blk_lt g2;omega
    ·subst h2;rw [hmk k h1,hmn] at e;have:=hH.blk_lt g1;omega
    ·rw [hmk k h1,hmk k' h2] at e;exact hH.inj k k' g1 g2 e
   ·intro k ob hk
    by_cases hp:k=BX H slot
    ·subst hp
     rw [ER _ _ _ hslot] at hk
     cases hk
     rw [hmn]
     obtain ⟨q0,c1,el,fr,q1,q2,q3,q4,q5⟩:=hA'.hok.ob o _ ho
     refine ⟨q0,c1,el,fr,q1,q2,q3,fun i hi=>by rw [← hgg i hi];exact q4 i hi,fun i j u hi hu=>?_⟩
     rw [← hgg i hi] at hu
     obtain ⟨p1,v,p2,p3⟩:=q5 i j u hi hu
     exact ⟨p1,v,p2,p3.scal0_any (X8 (dR hsc hi) hu)⟩
    ·rw [D6 _ _ _ hp] at hk
     by_cases hd:ob.live=true
     ·rw [hmk k hp]
      exact (hH.ob k ob hk).mono hEE (hold _ (hH.blk_lt ⟨_,hk,hd⟩))
     ·cases ob <;> simp_all [Ij,HO.live]
   ·obtain ⟨u,e0,h1,h2,h3⟩:=each j e he
    refine Nt (hR.2 j u v h1 hv) h2 h3 (fun x v h hr=>hr.scal0_any (by simpa using h)) fun x hx o1 gen off len e=>?_
    obtain ⟨rfl,rfl,rfl,rfl⟩:=hone x (MS (List.mem_of_getElem? h1) hx) o1 gen off len e
    exact ⟨sz,g',rfl,rfl,ER _ _ _ hslot,hmn,g,ho⟩
 obtain ⟨m2,hEE,hHH,hrep⟩:=main
 have hfl:fs.length=vs.length:=by
  rw [← (JU hes).1,← (JV us' es' hes').2.1];exact hR.1
 refine ⟨.returned _,w',{ b.at a' todo with mode:=.returning },⟨Z,m2,?_⟩,?_,rfl,rfl,hd,rfl,fn,hf,hres⟩
 ·match fs,vs,hfl,hrep,hEE,hHH with
  | [e],[v],_,hrep,hEE,hHH=>exact ⟨hEE,hHH,hrep 0 e v rfl rfl⟩
  | [],[],_,hrep,hEE,hHH=>exact ⟨hEE,hHH,.tup [] [] rfl fun j u v hu=>by simp at hu⟩
  | e1 :: e2 :: fs,v1 :: v2 :: vs,hfl,hrep,hEE,hHH =>
   refine ⟨hEE,hHH,?_⟩
   have:RepU w' Z m2 (Do H slot (DV (Di (e1 :: e2 :: fs)))) (.tup ((e1 :: e2 :: fs).map (S5 (JX H slot)))) (.tuple (v1 :: v2 :: vs).toArray):=.tup _ _ (by simpa using hfl) fun j u v hu hv=>by
    rw [List.getElem?_map] at hu
    cases he:(e1 :: e2 :: fs)[j]? with
    | none=>rw [he] at hu;cases hu
    | some e=>rw [he] at hu;cases hu;exact hrep j e v he hv
   simpa [CB] using this
  | [_],[],hl,_,_,_=>simp at hl
  | [_],_ :: _ :: _,hl,_,_,_=>simp at hl
  | [],_ :: _,hl,_,_,_=>simp at hl
  | _ :: _ :: _,[],hl,_,_,_=>simp at hl
  | _ :: _ :: _,[_],hl,_,_,_=>simp at hl
 ·rw [henter];exact hs
end
end Go.Proofs.YtonmnfkibnflnaaGreat.R
namespace Go.Proofs.YtonmnfkibnflnaaGreat.R
open Go Go.Lib Go.RowKit
section
variable {P:Program} {w:World} {Z:Nat→Prop} {m:Nat→Nat} {H:List HO}
theorem vK {f : FuncId} {fn : Func} {c : Code} (hf : P.funcs[f]? = some fn) (hb : fn.body = some c) (hname : (fn.name == "runtime.NumGoroutine") = false) (args : Array Value) (w : World) :
  (callFunc f args).run P w=.ok (.enter f args) w:=by
 have hp:(program).run P w=.ok P w:=rfl
 unfold callFunc
 simp only [Sem.run_bind,hp,Result.andThen,hf,hname,hb,Option.isNone_some,Bool.false_eq_true,if_false,Sem.run_pure]
theorem Ext.grows {w':World} (hH:HOK w Z m H) (g:Grows w w'):Ext w Z m H w' Z m H∧HOK w' Z m H:=by
 have hE:Ext w Z m H w' Z m H:=by
  refine ⟨g.os,g.tape,g.output,g.size,fun _ h=>h,fun _ h=>.inl h,fun b hb=>g.old b (hH.zlt b hb),fun b hb _=>g.old b hb,Nat.le_refl _,fun o ob ob' h1 h2=>?_,fun o h=>.inl ⟨h,rfl⟩⟩
  rw [h1] at h2;cases h2
  by_cases hd:ob.live=true
  case neg=>cases ob <;> simp_all [CA,HO.live]
  ·have hlt:=hH.blk_lt (Eg h1 hd)
   have:A4 w' (m o)=A4 w (m o):=by simp only [A4,g.old _ hlt]
   cases ob <;> simp_all [CA]
 refine ⟨hE,fun b hb=>Nat.lt_of_lt_of_le (hH.zlt b hb) g.size,hH.apart,hH.inj,fun o ob ho=>?_⟩
 by_cases hd:ob.live=true
 case neg=>cases ob <;> simp_all [Ij,HO.live]
 ·exact (hH.ob o ob ho).mono hE (g.old _ (hH.blk_lt (Eg ho hd)))
theorem OO {w w1:World} {ob:Obj} (h:(w.alloc ob).grownBy w1 (some w.heap.size)):Below w.heap.size w w1 :=
 ((Below.refl _ w).alloc (Nat.le_refl _) _).grown h (by simp) (by intro k hk;simp at hk;omega)
def Mg:List F→Bool
 | [.sl n _]=>decide (0<n)
 | _=>false
def MX (P:Program) (f:FuncId):Prop :=
 (∀ (c:Nat) (w:World),Calls P f #[.slice none 0 c] w fun e w'=>e=.returned (.slice none 0 0)∧w'=w) ∧
 (∀ (a:Addr) (c:Nat) (w:World),Calls P f #[.slice (some a) 0 c] w fun e w'=>∃ b,e=.returned (.slice (some b) 0 0)∧Below w.heap.size w w')
theorem Kr {f : FuncId} {fn : Func} {c : Code} (hf : P.funcs[f]? = some fn) (hb : fn.body = some c) (hname : (fn.name == "runtime.NumGoroutine") = false) (h : MX P f) {g : Nat → F} {v : Value} {args : Array Value} (ha : args.toList = [v]) (hv : RepF w Z (.sl 0 g) v) :
  EI P f args w fun v w'=>Grows w w'∧∃ A,v=.slice A 0 0:=by
 have e:args = #[v]:=by rw [← Array.toArray_toList (xs:=args),ha]
 subst e
 cases hv with
 | sl _ _ A c sz a V hc hs hk hA hV hr =>
  refine .inl ⟨vK hf hb hname _ _,?_⟩
  cases A with
  | none =>
   intro cs
   obtain ⟨e,w',fr,he,hcs⟩:=h.1 c w cs
   obtain ⟨rfl,rfl⟩:=he
   refine ⟨.returned (.slice none 0 0),_,fr,?_,hcs⟩
   exact ⟨⟨rfl,rfl,rfl,Nat.le_refl _,fun _ _=>rfl⟩,none,rfl⟩
  | some a0 =>
   intro cs
   obtain ⟨e,w',fr,he,hcs⟩:=h.2 a0 c w cs
   obtain ⟨b,rfl,hB⟩:=he
   refine ⟨.returned (.slice (some b) 0 0),_,fr,?_,hcs⟩
   exact ⟨⟨hB.os,hB.tape,hB.output,hB.size,hB.block⟩,some b,rfl⟩
theorem eO {f : FuncId} {fn : Func} {c : Code} (hf : P.funcs[f]? = some fn) (hb : fn.body = some c) (hname : (fn.name == "runtime.NumGoroutine") = false) (h : MX P f) {pre : List F → Bool} {res : List F → F}
  (hpre:∀ xs,pre xs=true→∃ n g,xs=[.sl n g]) (hres:∀ g,pre [.sl 0 g]=true→∃ g',res [.sl 0 g]=.sl 0 g')
  (hn:Ak P f (fun xs=>Mg xs&&pre xs) res):Ak P f pre res:=by
 intro xs hp w Z args hZ hL
 obtain ⟨n,g,rfl⟩:=hpre xs hp
 by_cases h0:n=0
 ·subst h0
  obtain ⟨v,hv⟩:∃ v,args.toList=[v]:=by
   have:=hL.1
   match h:args.toList,this with
   | [v],_=>exact ⟨v,rfl⟩
  obtain ⟨g',hg'⟩:=hres g hp
  rw [hg']
  refine (Kr hf hb hname h hv (hL.2 0 _ v rfl (by rw [hv];rfl))).mono fun v w' ⟨hg,A,hA⟩=>?_
  subst hA
  refine ⟨hg,Z,fun b hb=>.inl hb,.sl 0 g' A 0 0 ⟨0,0,none⟩ (fun _=>.nilFunc) (Nat.le_refl _) (fun i hi=>by omega) (fun i j u hi=>by omega) (fun h=>absurd rfl h) (fun i j u hi=>by omega) (fun i j u hi=>by omega)⟩
 ·exact hn _ (by simp only [Mg,hp,Bool.and_true];exact decide_eq_true (by omega)) w Z args hZ hL
theorem nT {f : FuncId} {fn : Func} {c : Code} (hf : P.funcs[f]? = some fn) (hb : fn.body = some c) (hname : (fn.name == "runtime.NumGoroutine") = false) (h : MX P f) {pre : List F → Bool} {r1 : List F → F}
  (hpre:∀ xs,pre xs=true→∃ n g,xs=[.sl n g]) (hn:Gk P f (.own (fun xs=>Mg xs&&pre xs) (fun _=>true) r1 r1)):Gk P f (.own pre Mg r1 (fun _=>.tup [.tup []])):=by
 intro us H slot hs hp w Z m args hH hu
 simp only [LJ] at hp
 cases hx:Bf H us with
 | none=>rw [hx] at hp;cases hp
 | some xs =>
 rw [hx] at hp
 obtain ⟨n,g,rfl⟩:=hpre xs hp
 by_cases h0:n=0
 ·subst h0
  have e:Er slot Mg r1 (fun _=>.tup [.tup []]) us H=(.nils,H):=by
   simp only [Er,hx,Mg,Nat.lt_irrefl,decide_false,Bool.false_eq_true,if_false]
   rfl
  rw [e]
  obtain ⟨hl,hg⟩:=Bk us _ hx
  obtain ⟨v,hv⟩:∃ v,args.toList=[v]:=by
   have h1:=hu.1
   rw [hl] at h1
   match h:args.toList,h1 with
   | [v],_=>exact ⟨v,rfl⟩
  have hu0:us[0]?=some (us[0]'(by rw [hl];simp)):=List.getElem?_eq_getElem _
  have hr:=In hH (fun _ _ h=>h) (hu.2 0 _ v hu0 (by rw [hv];rfl)) (hg 0 _ _ hu0 rfl)
  refine (Kr hf hb hname h hv hr).mono fun v w' ⟨hg,A,hA⟩=>?_
  subst hA
  exact ⟨Z,m,(Ext.grows hH hg).1,(Ext.grows hH hg).2,.nils A⟩
 ·have hps:Mg [.sl n g]=true:=decide_eq_true (by omega)
  have:=hn us H slot hs (by simp only [LJ,hx,hp,hps,Bool.and_true]) w Z m args hH hu
  have e:Er slot (fun _=>true) r1 r1 us H=Er slot Mg r1 (fun _=>.tup [.tup []]) us H:=by
   simp only [Er,hx,hps,if_true]
  rw [e] at this
  exact this
end
end Go.Proofs.YtonmnfkibnflnaaGreat.R
namespace Go.Proofs.YtonmnfkibnflnaaGreat.R
open Go Go.Lib Go.RowKit
noncomputable section
/-! ### function 71 -/
def T71 {ρ:Type} (ret:(Int)→Option ρ) (z:Int):Option ρ :=
 (AD ((↑(AM 18446744073709551616 z.natAbs).length:Int)==0)
 (ret (0))
 (AD (decide (0≤IntKind.i64.wrap ((↑(AM 18446744073709551616 z.natAbs).length:Int)-1)))
 (AD (decide (IntKind.i64.wrap ((↑(AM 18446744073709551616 z.natAbs).length:Int)-1)<(↑(AM 18446744073709551616 z.natAbs).length:Int)))
 (AD (I7 (↑((AM 18446744073709551616 z.natAbs).getD (IntKind.i64.wrap ((↑(AM 18446744073709551616 z.natAbs).length:Int)-1)).toNat 0):Int))
 (ret (IntKind.i64.wrap (IntKind.i64.wrap (64*(↑(AM 18446744073709551616 z.natAbs).length:Int))-lzV (↑((AM 18446744073709551616 z.natAbs).getD (IntKind.i64.wrap ((↑(AM 18446744073709551616 z.natAbs).length:Int)-1)).toNat 0):Int).toNat)))
 none)
 none)
 none))
def G71 (z:Int):Option (Int):=T71 some z
theorem t71 (z:Int) (r:Int) (h:G71 z=some r):AX Tryz.prog Tryz.f71.results.toList [.code (AT Tryz.f71)] (start Tryz.f71.ntmps ([AF z].map .f)) (F.int .i64 r):=by
 refine AX.of_run Au MT (T:=[]) (n:=200) ?_
 refine gE (Y:=T71 (fun r=>some (.ret (F.int .i64 r))) z) (by kernel_rfl) ?_
 exact (gS h (fun _ h=>gR (by cases h;rfl)) (fun _ h=>(gS h (fun _ h=>(gS h (fun _ h=>(gS h (fun _ h=>gR (by cases h;rfl)) gN)) gN)) gN)))
theorem BB_pow (k:Nat):18446744073709551616 ^ k=2 ^ (64*k):=by rw [show 18446744073709551616=2 ^ 64 from rfl,← Nat.pow_mul]
theorem vS {m k:Nat} (h:k<(AM 18446744073709551616 m).length):18446744073709551616 ^ k≤m:=by
 rcases Nat.lt_or_ge m (18446744073709551616 ^ k) with h1 | h1
 ·have:=EX h1
  omega
 ·exact h1
theorem nM (m:Nat):m<18446744073709551616 ^ (AM 18446744073709551616 m).length:=by
 have:=K1 (AM 18446744073709551616 m) (BG (by omega) m)
 rwa [Dl (by omega)] at this
theorem aS {m:Nat} (hm:m ≠ 0):AZ m=64*((AM 18446744073709551616 m).length-1)+AZ ((AM 18446744073709551616 m).getD ((AM 18446744073709551616 m).length-1) 0):=by
 have hne:(AM 18446744073709551616 m).length ≠ 0:=by
  intro h
  exact hm (OH.1 (List.eq_nil_of_length_eq_zero h))
 have hlo:=vS (m:=m) (k:=(AM 18446744073709551616 m).length-1) (by omega)
 have hhi:=nM m
 rw [Lm (by omega) _ _ (BG (by omega) m),Dl (by omega)]
 have hlt:m / 18446744073709551616 ^ ((AM 18446744073709551616 m).length-1)<18446744073709551616:=by
  rw [Nat.div_lt_iff_lt_mul (Nat.pow_pos (by omega))]
  rw [Nat.mul_comm,← Nat.pow_succ]
  rwa [show ((AM 18446744073709551616 m).length-1).succ=(AM 18446744073709551616 m).length by omega]
 rw [Nat.mod_eq_of_lt hlt]
 rw [BB_pow] at hlo ⊢
 exact Hu hlo
theorem pW {z:Int} (h:z.natAbs<18446744073709551616 ^ 400):G71 z=some (AZ z.natAbs:Nat):=by
 unfold G71 T71
 by_cases h0:z.natAbs=0
 ·rw [h0,BU]
  rfl
 ·have hne:(AM 18446744073709551616 z.natAbs).length ≠ 0:=by
   intro h
   exact h0 (OH.1 (List.eq_nil_of_length_eq_zero h))
  have hl:=EX h
  clear h
  have e1:IntKind.i64.wrap (((AM 18446744073709551616 z.natAbs).length:Int)-1)=(((AM 18446744073709551616 z.natAbs).length-1:Nat):Int):=by rw [As (by omega) (by omega)];omega
  have hb:=HX (by omega) (BG (B:=18446744073709551616) (by omega) z.natAbs) ((AM 18446744073709551616 z.natAbs).length-1)
  have hs:=aS h0
  have hb2:=Lr hb
  rw [show (((AM 18446744073709551616 z.natAbs).length:Int)==0)=false by simp only [beq_eq_false_iff_ne,ne_eq];omega,AJ,e1]
  rw [decide_eq_true (show (0:Int)≤(((AM 18446744073709551616 z.natAbs).length-1:Nat):Int) by omega),decide_eq_true (show (((AM 18446744073709551616 z.natAbs).length-1:Nat):Int)<((AM 18446744073709551616 z.natAbs).length:Int) by omega),Int.toNat_natCast]
  simp only [AH]
  rw [Ga.2 (by omega)]
  unfold lzV
  rw [Int.toNat_natCast]
  simp only [AH]
  generalize AZ ((AM 18446744073709551616 z.natAbs).getD ((AM 18446744073709551616 z.natAbs).length-1) 0)=t at *
  rw [hs]
  congr 1
  rw [As (x:=64*_) (by omega) (by omega),As (by omega) (by omega)]
  omega
def gD:List F→F | [x]=>.int .i64 (AZ (AG x).natAbs:Nat) | _=>.dflt
theorem okSize:Ak Tryz.prog 71 (Mf 400) gD :=
 Ad (c:=AT Tryz.f71) Tryz.func71 (by kernel_rfl) (by kernel_rfl) fun xs hp=>match xs,hp with
 | [x],hp=>⟨[AF (AG x)],_,⟨(D8 hp).1,trivial⟩,t71 _ _ (pW (BA hp)),.refl _⟩
theorem tyW:Tryz.prog.underlying 79=some (.slice 59):=by kernel_rfl
theorem eP (n c:Nat) (w:World):Calls Tryz.prog 86 #[.slice none n c] w fun e w'=>e=.returned (.slice none 0 0)∧w'=w:=by
 have q22:∀ (w:World) (a:Option Addr) (n c n' c':Nat),(binOp .eql 79 (.slice a n c) (.slice none n' c')).run Tryz.prog w=.ok (.bool a.isNone) w:=fun w a n c n' c'=>Lib.run_eql_slice_nil w _ _ a n c n' c' tyW
 go_enter Tryz.func86,(rfl:Tryz.f86.ntmps=8)
 go_wp2
 go_ret
 exact ⟨rfl,rfl⟩
set_option maxHeartbeats 2000000 in
theorem XD (a:Addr) (c:Nat) (w:World):Calls Tryz.prog 86 #[.slice (some a) 0 c] w fun e w'=>∃ b,e=.returned (.slice (some b) 0 0)∧Below w.heap.size w w':=by
 have q22:∀ (w:World) (a:Option Addr) (n c n' c':Nat),(binOp .eql 79 (.slice a n c) (.slice none n' c')).run Tryz.prog w=.ok (.bool a.isNone) w:=fun w a n c n' c'=>Lib.run_eql_slice_nil w _ _ a n c n' c' tyW
 have u22:∀ w,Sem.run Tryz.prog (underlying 79) w=.ok (TypeDesc.slice 59) w:=run_underlying tyW
 obtain ⟨i0,hi,_,hz,_⟩:=info_parts (P:=Tryz.prog) (e:=59) (z:=.int .u64 0) (size:=1) (bytes:=8) (by kernel_rfl)
 go_enter Tryz.func86,(rfl:Tryz.f86.ntmps=8)
 go_wp2_with (at_builtin;refine wpList_append_fits _ rfl _ _ 79 rfl w.heap.size 59 i0 1 tyW hi hz _ 0 0 [] rfl (World.ownsRow_made w #[] 0 (Nat.le_refl _) (Nat.zero_le _) rfl) a 0 c [] rfl rfl (by intro j u hj;simp at hj) (by intro u hu;cases hu) (by omega) ?_)
 intro w1 hown hgrow
 go_wp2
 go_ret
 exact ⟨⟨w.heap.size,0,none⟩,by kernel_rfl,OO hgrow⟩
theorem Pz:MX Tryz.prog 86:=⟨eP 0,XD⟩
/-! ### function 86 -/
def T86 {ρ:Type} (ret:(Nat)→(Nat→F)→Option ρ) (n:Nat) (g:Nat→F):Option ρ :=
 (AD (decide (0<n))
 (AD (decide ((g 0).cells.length=1) || decide (n=0))
 (AD (decide ((↑(0+n):Int)*(((8:Nat):Int)+1)≤(↑Bs:Int)))
 (AD (decide (0+n=0+n))
 (ret (0+n) (fun j ↦ if j<0 then Ar [] j else one n g (j-0)))
 none)
 none)
 none)
 none)
def G86 (n:Nat) (g:Nat→F):Option ((Nat) × (Nat→F)):=T86 (fun rn rg=>some (rn,rg)) n g
theorem t86 (n:Nat) (g:Nat→F) (rn:Nat) (rg:Nat→F) (h:G86 n g=some (rn,rg)):AX Tryz.prog Tryz.f86.results.toList [.code (AT Tryz.f86)] (start Tryz.f86.ntmps ([F.sl n g].map .f)) (F.sl rn rg):=by
 refine AX.of_run Au MT (T:=[]) (n:=200) ?_
 refine gE (Y:=T86 (fun rn rg=>some (.ret (F.sl rn rg))) n g) (by kernel_rfl) ?_
 exact (gS h (fun _ h=>(gS h (fun _ h=>(gS h (fun _ h=>(gS h (fun _ h=>gR (by cases h;rfl)) gN)) gN)) gN)) gN)
theorem eQ {n:Nat} {g:Nat→F} (h0:0<n) (hn:n≤1000) (hg:(g 0).cells.length=1):∃ rn rg,G86 n g=some (rn,rg)∧rn=n∧∀ j,j<n→rg j=g j:=by
 unfold G86 T86
 rw [decide_eq_true h0,decide_eq_true hg,Nat.zero_add,decide_eq_true (GW hn),decide_eq_true (show n=n from rfl)]
 refine ⟨_,_,rfl,rfl,fun j hj=>?_⟩
 show (if j<0 then Ar [] j else one n g (j-0))=g j
 rw [if_neg (by omega),Nat.sub_zero]
 match n,h0,hj with
 | 1,_,hj=>rw [show j=0 by omega];rfl
 | n+2,_,_=>rfl
def HR:List F→Bool | [.sl n g]=>Ay (.sl n g)&&BB 1000 (.sl n g) | _=>false
def YZ:List F→F | [x]=>AL (AS x) | _=>.dflt
theorem HI {xs:List F} (h:HR xs=true):∃ n g,xs=[.sl n g]:=by
 unfold HR at h
 split at h
 ·exact ⟨_,_,rfl⟩
 ·cases h
theorem Nq {n:Nat} {g:Nat→F} (h:HR [.sl n g]=true):Ay (.sl n g)=true∧n≤1000:=by
 simp only [HR,Bool.and_eq_true] at h
 exact ⟨h.1,by simpa [BB] using h.2⟩
theorem bL {n:Nat} {g:Nat→F} (h:Ay (.sl n g)=true) (h0:0<n):(g 0).cells.length=1:=by
 simp only [Ay,Dq,List.all_eq_true,List.mem_range] at h
 rw [← oO (h 0 h0)]
 rfl
theorem okClone:Ak Tryz.prog 86 HR YZ :=
 eO (c:=AT Tryz.f86) Tryz.func86 (by kernel_rfl) (by kernel_rfl) Pz (fun _=>HI) (fun g _=>⟨_,rfl⟩) <|
 Ad (c:=AT Tryz.f86) Tryz.func86 (by kernel_rfl) (by kernel_rfl) fun xs hp=>by
  simp only [Bool.and_eq_true] at hp
  obtain ⟨n,g,rfl⟩:=HI hp.2
  obtain ⟨h1,h2⟩:=Nq hp.2
  have h0:0<n:=of_decide_eq_true hp.1
  obtain ⟨rn,rg,e,rfl,hr⟩:=eQ h0 h2 (bL h1 h0)
  exact ⟨[.sl rn g],_,.refl _,t86 _ _ _ _ e,fun w Z v hv=>(CC h1).1 _ _ _ (FLe.sl hr _ _ _ hv)⟩
/-! ### function 86 -/
def T86o {ρ:Type} (ret:(F)→Option ρ) (w:List Nat):Option ρ :=
 (AD (decide (0<w.length))
 (AD (decide ((↑(0+w.length):Int)*(((8:Nat):Int)+1)≤(↑Bs:Int)))
 (AD (decide (0+w.length=0+w.length)&&true&&decide (0+w.length=0+w.length))
 (AD (I8 (0+w.length) fun j ↦ if j<0 then Ar [] j else one w.length (fun i ↦ BK (w.getD i 0)) (j-0))
 (ret (F.tup [F.tup [F.int .i64 ((1:Nat):Int),F.sl (0+w.length) fun j ↦ if j<0 then Ar [] j else one w.length (fun i ↦ BK (w.getD i 0)) (j-0)]]))
 none)
 none)
 none)
 none)
def G86o (w:List Nat):Option (F):=T86o some w
theorem t86o (w:List Nat) (r:F) (h:G86o w=some r):AX Tryz.prog (ResultVar.tmp 1000000 :: Go.Proofs.Tryz.f86.results.toList) [.code (AT Tryz.f86)] (start Tryz.f86.ntmps ([AL w].map .f)) (r):=by
 refine AX.of_run Au MT (T:=[]) (n:=200) ?_
 refine gE (Y:=T86o (fun r=>some (.ret (r))) w) (by kernel_rfl) ?_
 exact (gS h (fun _ h=>(gS h (fun _ h=>(gS h (fun _ h=>(gS h (fun _ h=>gR (by cases h;rfl)) gN)) gN)) gN)) gN)
def RR:List F→F | [x]=>.tup [.tup [.int .i64 1,AL (AS x)]] | _=>.dflt
theorem sC:Gk Tryz.prog 86 (.own HR Mg RR (fun _=>.tup [.tup []])) :=
 nT (c:=AT Tryz.f86) Tryz.func86 (by kernel_rfl) (by kernel_rfl) Pz (fun _=>HI) <|
 fn_own (c:=AT Tryz.f86) Tryz.func86 (by kernel_rfl) (by kernel_rfl) fun xs hp=>by
  simp only [Bool.and_eq_true] at hp
  obtain ⟨n,g,rfl⟩:=HI hp.2
  obtain ⟨h1,h2⟩:=Nq hp.2
  have h0:0<n:=of_decide_eq_true hp.1
  have hlen:(AS (.sl n g)).length=n:=NW _ _ _
  have e:RR [.sl n g]=.tup [.tup [.int .i64 ((1:Nat):Int),AL (AS (.sl n g))]]:=rfl
  simp only [if_true]
  rw [e]
  have hx:=(CC h1).1
  generalize AS (.sl n g)=l at hx hlen ⊢
  subst hlen
  have ho:=fun r=>t86o l r
  unfold G86o T86o at ho
  rw [decide_eq_true h0,Nat.zero_add,decide_eq_true (GW h2),decide_eq_true (show l.length=l.length from rfl)] at ho
  have hE:∀ j,j<l.length→(fun j=>if j<0 then Ar [] j else one l.length (fun i=>BK (l.getD i 0)) (j-0)) j=BK (l.getD j 0):=by
   intro j hj
   show (if j<0 then Ar [] j else one l.length (fun i=>BK (l.getD i 0)) (j-0))=BK (l.getD j 0)
   rw [if_neg (by omega),Nat.sub_zero]
   generalize l.length=n at h0 hj
   match n,h0,hj with
   | 1,_,hj=>rw [show j=0 by omega];rfl
   | n+2,_,_=>rfl
  have hS:I8 l.length (fun j=>if j<0 then Ar [] j else one l.length (fun i=>BK (l.getD i 0)) (j-0))=true:=by
   unfold I8
   rw [List.all_eq_true]
   intro j hj
   rw [hE j (List.mem_range.1 hj)]
   rfl
  simp only [Bool.and_true,AH,hS] at ho
  exact ⟨[AL l],_,[.tup [.int .i64 ((1:Nat):Int),AL l]],⟨hx,trivial⟩,ho _ rfl,⟨.of (.obj _ _ _ _ _ hE),trivial⟩,rfl⟩
def uV:Env:=(uW.add 71 (.pure (Mf 400) gD)).add 86 (.pure HR YZ)
theorem Eh:Az Tryz.prog uV:=(Env.add_ok (Env.add_ok MT okSize.sp) okClone.sp)
end
end Go.Proofs.YtonmnfkibnflnaaGreat.R
