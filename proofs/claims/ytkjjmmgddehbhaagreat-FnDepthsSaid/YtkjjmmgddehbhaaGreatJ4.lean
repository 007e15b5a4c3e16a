/-
 The own walk and what it shows,part 4 of 9.
-/
import Derived.WalkKit
import Derived.Lib.Walk
import Derived.Lib.SliceRun
import Derived.OwnWalk
import Derived.Test.YtkjjmmgddehbhaaGreatJ1
import Derived.Test.YtkjjmmgddehbhaaGreatJ2
import Derived.Test.YtkjjmmgddehbhaaGreatJ3
set_option linter.unusedVariables false
set_option linter.unusedSimpArgs false
set_option maxRecDepth 100000
set_option exponentiation.threshold 30000
namespace Go.Proofs.YtkjjmmgddehbhaaGreat.R
open Go
noncomputable section
/-! ### function 92 -/
def T92 {ρ:Type} (ret:(Int)→Option ρ) (x:Int) (y:Int):Option ρ :=
 (bsel (isNum 400 (numF y))
 (bsel (isNum 400 (numF x)&&isNum 400 (resMinus [numF y]))
 (ret (unNum (numF x)+unNum (resMinus [numF y])))
 none)
 none)
def G92 (x:Int) (y:Int):Option (Int):=T92 some x y
theorem t92 (x:Int) (y:Int) (r:Int) (h:G92 x y=some r):Ends Tryz.prog Tryz.f92.results.toList [.code (bodyOf Tryz.f92)] (start Tryz.f92.ntmps ([numF x,numF y].map .f)) (numF r):=by
 refine Ends.of_run tyOK envN8_ok (T:=[]) (n:=200) ?_
 refine gE (Y:=T92 (fun r=>some (.ret (numF r))) x y) (by kernel_rfl) ?_
 exact (gS h (fun _ h=>(gS h (fun _ h=>gR (by cases h;rfl)) gN)) gN)
/-! ### function 49 -/
def S49_5 (s:Bool) (t:Bool) (a:List Nat) (b:List Nat) (m:Nat) (n:Int) (i:Int) (g:Nat→F):St:=⟨bads 2 ((U.hp 0 0) :: (U.hp 1 0) :: (U.hp 2 0) :: (U.hs 3 m 0 m) :: bads 28 ((U.f (wordsF a)) :: (U.f (F.int .i64 n)) :: (U.f (F.int .i64 i)) :: bads 63 [])),[HO.box [(U.f (F.bool s)),(U.f (wordsF a))],HO.box [(U.f (F.bool t)),(U.f (wordsF b))],HO.box [(U.f (F.bool false)),U.nils],HO.arr 1 m g]⟩
def S49_9 (s:Bool) (t:Bool) (a:List Nat) (b:List Nat) (m:Nat) (n:Int) (i:Int) (g:Nat→F) (x:Int) (c:Int) (nb:Int) (j:Int):St:=⟨bads 2 ((U.hp 0 0) :: (U.hp 1 0) :: (U.hp 2 0) :: (U.hs 3 m 0 m) :: (U.f (F.int .i64 i)) :: (U.f (F.int .u64 x)) :: (U.f (F.int .u64 c)) :: bads 25 ((U.f (wordsF a)) :: (U.f (F.int .i64 n)) :: (U.f (F.int .i64 i)) :: bads 5 ((U.f (wordsF b)) :: (U.f (F.int .i64 nb)) :: (U.f (F.int .i64 j)) :: bads 55 []))),[HO.box [(U.f (F.bool s)),(U.f (wordsF a))],HO.box [(U.f (F.bool t)),(U.f (wordsF b))],HO.box [(U.f (F.bool false)),U.nils],HO.arr 1 m g]⟩
abbrev KJ42 (ρ:Type):=(Bool)→(Bool)→(List Nat)→(List Nat)→(Nat)→(Int)→(Int)→(Nat→F)→(Int)→(Int)→(Int)→(Int)→Option ρ
abbrev KJ43 (ρ:Type):=(Bool)→(Bool)→(List Nat)→(List Nat)→(Nat)→(Int)→(Int)→(Nat→F)→Option ρ
def T49_5 {ρ:Type} (ret:(Bool)→(Nat)→(Nat→F)→Option ρ) (c5:KJ43 ρ) (c9:KJ42 ρ) (s:Bool) (t:Bool) (a:List Nat) (b:List Nat) (m:Nat) (n:Int) (i:Int) (g:Nat→F):Option ρ :=
 (bsel (decide (i<n))
 (bsel (decide (0≤i))
 (bsel (decide (i<(↑a.length:Int)))
 (c9 (s) (t) (a) (b) (m) (n) (i) (g) ((↑(a.getD i.toNat 0):Int)) (0) ((↑b.length:Int)) (0))
 none)
 none)
 (bsel (decide (m=m))
 (bsel (isWords (F.sl m (offF 0 g))&&lenOk 1000 (F.sl m (offF 0 g)))
 (ret (decide (sgn (!s==t) (val 18446744073709551616 (unWords (F.sl m (offF 0 g))))<0)) ((digs 18446744073709551616 (sgn (!s==t) (val 18446744073709551616 (unWords (F.sl m (offF 0 g))))).natAbs).length) (fun i ↦ u64F ((digs 18446744073709551616 (sgn (!s==t) (val 18446744073709551616 (unWords (F.sl m (offF 0 g))))).natAbs).getD i 0)))
 none)
 none))
def T49_9 {ρ:Type} (ret:(Bool)→(Nat)→(Nat→F)→Option ρ) (c5:KJ43 ρ) (c9:KJ42 ρ) (s:Bool) (t:Bool) (a:List Nat) (b:List Nat) (m:Nat) (n:Int) (i:Int) (g:Nat→F) (x:Int) (c:Int) (nb:Int) (j:Int):Option ρ :=
 (bsel (decide (j<nb))
 (bsel (decide (0≤j))
 (bsel (decide (j<(↑b.length:Int)))
 (bsel (isWd2 x (↑(b.getD j.toNat 0):Int))
 (bsel (isCarry (mulLo x (↑(b.getD j.toNat 0):Int)) c 0)
 (bsel (decide (m=m))
 (bsel (decide (0≤IntKind.i64.wrap (i+j)))
 (bsel (decide (IntKind.i64.wrap (i+j)<(↑m:Int)))
 (bsel (decide (m=m))
 (bsel (decide (0+(IntKind.i64.wrap (i+j)).toNat<m))
 (bsel (decide ((g (0+(IntKind.i64.wrap (i+j)).toNat)).cells.length=1))
 (bsel (okV (Value.int IntKind.u64 0) ((List.drop 0 (g (0+(IntKind.i64.wrap (i+j)).toNat)).cells).headD F.dflt)&&true)
 (bsel (isCarry (intOf ((List.drop 0 (g (0+(IntKind.i64.wrap (i+j)).toNat)).cells).headD F.dflt)) (addLo (mulLo x (↑(b.getD j.toNat 0):Int)) c 0) 0)
 (bsel (decide (m=m))
 (bsel (decide (0≤IntKind.i64.wrap (i+j)))
 (bsel (decide (IntKind.i64.wrap (i+j)<(↑m:Int)))
 (bsel (decide (m=m))
 (bsel (decide (0+(IntKind.i64.wrap (i+j)).toNat<m))
 (bsel (decide ((g (0+(IntKind.i64.wrap (i+j)).toNat)).cells.length=1))
 (bsel ((isAggF (g (0+(IntKind.i64.wrap (i+j)).toNat)) || true)&&true)
 (c9 (s) (t) (a) (b) (m) (n) (i) (fun j_1 ↦ if j_1=0+(IntKind.i64.wrap (i+j)).toNat then F.int .u64 (addLo (intOf ((List.drop 0 (g (0+(IntKind.i64.wrap (i+j)).toNat)).cells).headD F.dflt)) (addLo (mulLo x (↑(b.getD j.toNat 0):Int)) c 0) 0) else g j_1) (x) (IntKind.u64.wrap (IntKind.u64.wrap (mulHi x (↑(b.getD j.toNat 0):Int)+addHi (mulLo x (↑(b.getD j.toNat 0):Int)) c 0)+addHi (intOf ((List.drop 0 (g (0+(IntKind.i64.wrap (i+j)).toNat)).cells).headD F.dflt)) (addLo (mulLo x (↑(b.getD j.toNat 0):Int)) c 0) 0)) (nb) (IntKind.i64.wrap (j+1)))
 none)
 none)
 none)
 none)
 none)
 none)
 none)
 none)
 none)
 none)
 none)
 none)
 none)
 none)
 none)
 none)
 none)
 none)
 none)
 (bsel (decide (m=m))
 (bsel (decide (0≤IntKind.i64.wrap (i+(↑b.length:Int))))
 (bsel (decide (IntKind.i64.wrap (i+(↑b.length:Int))<(↑m:Int)))
 (bsel (decide (m=m))
 (bsel (decide (0+(IntKind.i64.wrap (i+(↑b.length:Int))).toNat<m))
 (bsel (decide ((g (0+(IntKind.i64.wrap (i+(↑b.length:Int))).toNat)).cells.length=1))
 (bsel ((isAggF (g (0+(IntKind.i64.wrap (i+(↑b.length:Int))).toNat)) || true)&&true)
 (c5 (s) (t) (a) (b) (m) (n) (IntKind.i64.wrap (i+1)) (fun j ↦ if j=0+(IntKind.i64.wrap (i+(↑b.length:Int))).toNat then F.int .u64 c else g j))
 none)
 none)
 none)
 none)
 none)
 none)
 none))
mutual
def L49_5:Nat→(Bool)→(Bool)→(List Nat)→(List Nat)→(Nat)→(Int)→(Int)→(Nat→F)→Option ((Bool) × (Nat) × (Nat→F))
 | 0,_,_,_,_,_,_,_,_=>none
 | k+1,s,t,a,b,m,n,i,g=>T49_5 (fun rb rn rg=>some (rb,rn,rg)) (L49_5 k) (L49_9 k) s t a b m n i g
def L49_9:Nat→(Bool)→(Bool)→(List Nat)→(List Nat)→(Nat)→(Int)→(Int)→(Nat→F)→(Int)→(Int)→(Int)→(Int)→Option ((Bool) × (Nat) × (Nat→F))
 | 0,_,_,_,_,_,_,_,_,_,_,_,_=>none
 | k+1,s,t,a,b,m,n,i,g,x,c,nb,j=>T49_9 (fun rb rn rg=>some (rb,rn,rg)) (L49_5 k) (L49_9 k) s t a b m n i g x c nb j
end
def T49 {ρ:Type} (ret:(Bool)→(Nat)→(Nat→F)→Option ρ) (c5:KJ43 ρ) (c9:KJ42 ρ) (x:Int) (y:Int):Option ρ :=
 (bsel (((↑(digs 18446744073709551616 x.natAbs).length:Int)==0)==false)
 (bsel ((↑(digs 18446744073709551616 y.natAbs).length:Int)==0)
 (ret (false) (0) (fun x ↦ F.bool false))
 (bsel (decide (0≤IntKind.i64.wrap ((↑(digs 18446744073709551616 x.natAbs).length:Int)+(↑(digs 18446744073709551616 y.natAbs).length:Int))))
 (bsel (decide (IntKind.i64.wrap ((↑(digs 18446744073709551616 x.natAbs).length:Int)+(↑(digs 18446744073709551616 y.natAbs).length:Int))≤IntKind.i64.wrap ((↑(digs 18446744073709551616 x.natAbs).length:Int)+(↑(digs 18446744073709551616 y.natAbs).length:Int))))
 (bsel (decide (IntKind.i64.wrap ((↑(digs 18446744073709551616 x.natAbs).length:Int)+(↑(digs 18446744073709551616 y.natAbs).length:Int))*(((8:Nat):Int)+1)≤(↑limit:Int)))
 (c5 (decide (x<0)) (decide (y<0)) (digs 18446744073709551616 x.natAbs) (digs 18446744073709551616 y.natAbs) ((IntKind.i64.wrap ((↑(digs 18446744073709551616 x.natAbs).length:Int)+(↑(digs 18446744073709551616 y.natAbs).length:Int))).toNat) ((↑(digs 18446744073709551616 x.natAbs).length:Int)) (0) (fun x ↦ F.int .u64 0))
 none)
 none)
 none))
 (ret (false) (0) (fun x ↦ F.bool false)))
def G49 (k:Nat) (x:Int) (y:Int):Option ((Bool) × (Nat) × (Nat→F)):=T49 (fun rb rn rg=>some (rb,rn,rg)) (L49_5 k) (L49_9 k) x y
mutual
theorem t49_5:∀ (k:Nat) (s:Bool) (t:Bool) (a:List Nat) (b:List Nat) (m:Nat) (n:Int) (i:Int) (g:Nat→F) (rb:Bool) (rn:Nat) (rg:Nat→F),L49_5 k s t a b m n i g=some (rb,rn,rg)→Ends Tryz.prog Tryz.f49.results.toList (at_ Tryz.f49 5) (S49_5 s t a b m n i g) (F.agg [F.bool rb,F.sl rn rg])
 | 0,_,_,_,_,_,_,_,_,_,_,_,h=>nomatch h
 | k+1,s,t,a,b,m,n,i,g,rb,rn,rg,h=>by
  refine Ends.of_cut tyOK envN8_ok (T:=[(5,[2,3,4,5,34,35,36],1000),(9,[2,3,4,5,6,7,8,34,35,36,42,43,44],1000)]) (n:=200) ?_
  refine gE (Y:=T49_5 (fun rb rn rg=>some (.ret (F.agg [F.bool rb,F.sl rn rg]))) (fun s t a b m n i g=>some (.cut (at_ Tryz.f49 5) (S49_5 s t a b m n i g))) (fun s t a b m n i g x c nb j=>some (.cut (at_ Tryz.f49 9) (S49_9 s t a b m n i g x c nb j))) s t a b m n i g) (by kernel_rfl) ?_
  exact (gS h (fun _ h=>(gS h (fun _ h=>(gS h (fun _ h=>gC (t49_9 k _ _ _ _ _ _ _ _ _ _ _ _ rb rn rg h)) gN)) gN)) (fun _ h=>(gS h (fun _ h=>(gS h (fun _ h=>gR (by cases h;rfl)) gN)) gN)))
theorem t49_9:∀ (k:Nat) (s:Bool) (t:Bool) (a:List Nat) (b:List Nat) (m:Nat) (n:Int) (i:Int) (g:Nat→F) (x:Int) (c:Int) (nb:Int) (j:Int) (rb:Bool) (rn:Nat) (rg:Nat→F),L49_9 k s t a b m n i g x c nb j=some (rb,rn,rg)→Ends Tryz.prog Tryz.f49.results.toList (at_ Tryz.f49 9) (S49_9 s t a b m n i g x c nb j) (F.agg [F.bool rb,F.sl rn rg])
 | 0,_,_,_,_,_,_,_,_,_,_,_,_,_,_,_,h=>nomatch h
 | k+1,s,t,a,b,m,n,i,g,x,c,nb,j,rb,rn,rg,h=>by
  refine Ends.of_cut tyOK envN8_ok (T:=[(5,[2,3,4,5,34,35,36],1000),(9,[2,3,4,5,6,7,8,34,35,36,42,43,44],1000)]) (n:=200) ?_
  refine gE (Y:=T49_9 (fun rb rn rg=>some (.ret (F.agg [F.bool rb,F.sl rn rg]))) (fun s t a b m n i g=>some (.cut (at_ Tryz.f49 5) (S49_5 s t a b m n i g))) (fun s t a b m n i g x c nb j=>some (.cut (at_ Tryz.f49 9) (S49_9 s t a b m n i g x c nb j))) s t a b m n i g x c nb j) (by kernel_rfl) ?_
  exact (gS h (fun _ h=>(gS h (fun _ h=>(gS h (fun _ h=>(gS h (fun _ h=>(gS h (fun _ h=>(gS h (fun _ h=>(gS h (fun _ h=>(gS h (fun _ h=>(gS h (fun _ h=>(gS h (fun _ h=>(gS h (fun _ h=>(gS h (fun _ h=>(gS h (fun _ h=>(gS h (fun _ h=>(gS h (fun _ h=>(gS h (fun _ h=>(gS h (fun _ h=>(gS h (fun _ h=>(gS h (fun _ h=>(gS h (fun _ h=>gC (t49_9 k _ _ _ _ _ _ _ _ _ _ _ _ rb rn rg h)) gN)) gN)) gN)) gN)) gN)) gN)) gN)) gN)) gN)) gN)) gN)) gN)) gN)) gN)) gN)) gN)) gN)) gN)) gN)) (fun _ h=>(gS h (fun _ h=>(gS h (fun _ h=>(gS h (fun _ h=>(gS h (fun _ h=>(gS h (fun _ h=>(gS h (fun _ h=>(gS h (fun _ h=>gC (t49_5 k _ _ _ _ _ _ _ _ rb rn rg h)) gN)) gN)) gN)) gN)) gN)) gN)) gN)))
end
theorem t49 (k:Nat) (x:Int) (y:Int) (rb:Bool) (rn:Nat) (rg:Nat→F) (h:G49 k x y=some (rb,rn,rg)):Ends Tryz.prog Tryz.f49.results.toList [.code (bodyOf Tryz.f49)] (start Tryz.f49.ntmps ([numF x,numF y].map .f)) (F.agg [F.bool rb,F.sl rn rg]):=by
 refine Ends.of_run tyOK envN8_ok (T:=[(5,[2,3,4,5,34,35,36],1000),(9,[2,3,4,5,6,7,8,34,35,36,42,43,44],1000)]) (n:=200) ?_
 refine gE (Y:=T49 (fun rb rn rg=>some (.ret (F.agg [F.bool rb,F.sl rn rg]))) (fun s t a b m n i g=>some (.cut (at_ Tryz.f49 5) (S49_5 s t a b m n i g))) (fun s t a b m n i g x c nb j=>some (.cut (at_ Tryz.f49 9) (S49_9 s t a b m n i g x c nb j))) x y) (by kernel_rfl) ?_
 exact (gS h (fun _ h=>(gS h (fun _ h=>gR (by cases h;rfl)) (fun _ h=>(gS h (fun _ h=>(gS h (fun _ h=>(gS h (fun _ h=>gC (t49_5 k _ _ _ _ _ _ _ _ rb rn rg h)) gN)) gN)) gN)))) (fun _ h=>gR (by cases h;rfl)))
theorem words_set {m p v:Nat} {g:Nat→F} {o:List Nat} (ho:o.length=m) (hp:p<m) (hg:∀ j,j<m→g j=u64F (o.getD j 0)) :
  ∀ j,j<m→(fun j=>if j=0+p then F.int .u64 (v:Int) else g j) j=u64F ((o.set p v).getD j 0):=by
 intro j hj
 show (if j=0+p then F.int .u64 (v:Int) else g j)=_
 by_cases h:j=0+p
 ·rw [if_pos h,h,Nat.zero_add]
  simp [List.getD,u64F,show p<o.length by omega]
 ·rw [if_neg h,hg j hj]
  simp [List.getD,List.getElem?_set,show p ≠ j by omega]
theorem getD_set {o:List Nat} {p v j:Nat} (h:j ≠ p):(o.set p v).getD j 0=o.getD j 0:=by
 simp [List.getD,List.getElem?_set,Ne.symm h]
theorem mul_words_cast {x y:Nat}:mulLo x y=((x*y % 18446744073709551616:Nat):Int)∧mulHi x y=((x*y / 18446744073709551616:Nat):Int):=by
 unfold mulLo mulHi
 rw [← Int.natCast_mul]
 omega
theorem mul_carry {x y o c:Nat} (hx:x<18446744073709551616) (hy:y<18446744073709551616) (ho:o<18446744073709551616) (hc:c<18446744073709551616) :
  addLo (o:Int) (addLo (mulLo x y) c 0) 0=(((x*y+o+c) % 18446744073709551616:Nat):Int) ∧
  IntKind.u64.wrap (IntKind.u64.wrap (mulHi x y+addHi (mulLo x y) c 0)+addHi (o:Int) (addLo (mulLo x y) c 0) 0)=(((x*y+o+c) / 18446744073709551616:Nat):Int) ∧
  isCarry (mulLo x y) c 0=true∧isCarry (o:Int) (addLo (mulLo x y) c 0) 0=true∧isWd2 x y=true∧(x*y+o+c) / 18446744073709551616<18446744073709551616:=by
 have h:=mul_step (B:=18446744073709551616) (by omega) hx hy ho hc
 rw [mul_words_cast.1,mul_words_cast.2]
 simp only [isCarry_iff,isWd2_iff,wrapN]
 unfold addLo addHi
 generalize x*y=p at *
 refine ⟨by omega,by omega,by omega,by omega,by omega,h⟩
theorem cell_of (v:Nat):(List.drop 0 (u64F v).cells).headD F.dflt=u64F v:=rfl
theorem okV_u64 (v:Nat):(okV (Value.int IntKind.u64 0) (u64F v)&&true)=true:=rfl
theorem intOf_u64 (v:Nat):intOf (u64F v)=(v:Int):=rfl
theorem val_step {B:Nat} {o:List Nat} {p c x y:Nat} (hp:p<o.length) :
  val B (o.set p ((x*y+o.getD p 0+c) % B))+B ^ (p+1)*((x*y+o.getD p 0+c) / B)=val B o+B ^ p*c+B ^ p*(x*y):=by
 have h1:=val_set B o p ((x*y+o.getD p 0+c) % B) hp
 have h2:=Nat.mod_add_div (x*y+o.getD p 0+c) B
 have h3:B ^ p*(x*y+o.getD p 0+c)=B ^ p*((x*y+o.getD p 0+c) % B)+B ^ (p+1)*((x*y+o.getD p 0+c) / B):=by
  rw [Nat.pow_succ,Nat.mul_assoc,← Nat.mul_add,h2]
 rw [Nat.mul_add,Nat.mul_add] at h3
 omega
theorem val_take_succ {B:Nat} {l:List Nat} {j:Nat} (h:j<l.length):val B (l.take (j+1))=val B (l.take j)+B ^ j*l.getD j 0:=by
 rw [List.take_add_one,val_append]
 simp [List.getD,List.getElem?_eq_getElem h,val,Nat.min_eq_left (Nat.le_of_lt h)]
theorem by_inner {s t:Bool} {a b:List Nat} {m i x:Nat} {n:Int} (ob:okD 18446744073709551616 b) (hx:x<18446744073709551616) (hm:m=a.length+b.length) (hi:i<a.length) (hl:m≤900) :
  ∀ (r j c k:Nat) (o:List Nat) (g:Nat→F),r+j=b.length→o.length=m→okD 18446744073709551616 o→c<18446744073709551616→(∀ q,i+j≤q→(j=0 ∨ i+b.length≤q)→(i+b.length≤q→o.getD q 0=0)) →
   (∀ q,q<m→g q=u64F (o.getD q 0))→r<k →
   ∃ o' g',L49_9 (k+1) s t a b m n i g x c b.length j=L49_5 (k-r) s t a b m n ((i+1:Nat):Int) g'∧o'.length=m∧okD 18446744073709551616 o'∧(∀ q,i+1+b.length≤q→o'.getD q 0=0) ∧
    (∀ q,q<m→g' q=u64F (o'.getD q 0))∧val 18446744073709551616 o'+18446744073709551616 ^ i*x*val 18446744073709551616 (b.take j)=val 18446744073709551616 o+18446744073709551616 ^ (i+j)*c+18446744073709551616 ^ i*x*val 18446744073709551616 b
 | r,j,c,0,o,g,_,_,_,_,_,_,hk=>by omega
 | 0,j,c,k+1,o,g,hr,ho,oo,hc,hz,hg,hk=>by
  obtain rfl:j=b.length:=by omega
  have hp:i+b.length<m:=by omega
  have ei:IntKind.i64.wrap ((i:Int)+(b.length:Int))=((i+b.length:Nat):Int):=by rw [wrapI (by omega) (by omega)];omega
  have e1:IntKind.i64.wrap ((i:Int)+1)=((i+1:Nat):Int):=by rw [wrapI (by omega) (by omega)];omega
  refine ⟨o.set (i+b.length) c,_,?_,by simp [ho],okD_set oo hc,?_,words_set ho hp hg,?_⟩
  ·rw [L49_9]
   unfold T49_9
   rw [decide_eq_false (show ¬ (b.length:Int)<b.length by omega),bsel_false,ei,e1,Int.toNat_natCast,decide_eq_true (show (0:Int)≤((i+b.length:Nat):Int) by omega),decide_eq_true (show ((i+b.length:Nat):Int)<(m:Int) by omega),decide_eq_true (show m=m from rfl),decide_eq_true (show 0+(i+b.length)<m by omega),hg (0+(i+b.length)) (by omega),decide_eq_true (u64_cells _),isAgg_or]
   rfl
  ·intro q hq
   rw [getD_set (by omega)]
   exact hz q (by omega) (.inr (by omega)) (by omega)
  ·have h1:=val_set 18446744073709551616 o (i+b.length) c (by omega)
   rw [hz (i+b.length) (by omega) (.inr (by omega)) (by omega),Nat.mul_zero,Nat.add_zero] at h1
   rw [h1,List.take_length]
 | r+1,j,c,k+1,o,g,hr,ho,oo,hc,hz,hg,hk=>by
  have hj:j<b.length:=by omega
  have hp:i+j<m:=by omega
  have hy:=getD_lt ob hj
  have hov:=getD_lt oo (show i+j<o.length by omega)
  obtain ⟨c1,c2,c3,c4,c5,c6⟩:=mul_carry hx hy hov hc
  have ei:IntKind.i64.wrap ((i:Int)+(j:Int))=((i+j:Nat):Int):=by rw [wrapI (by omega) (by omega)];omega
  have e1:IntKind.i64.wrap ((j:Int)+1)=((j+1:Nat):Int):=by rw [wrapI (by omega) (by omega)];omega
  obtain ⟨o',g',h1,h2,h3,h4,h5,h6⟩:=by_inner (s:=s) (t:=t) (n:=n) ob hx hm hi hl r (j+1) ((x*b.getD j 0+o.getD (i+j) 0+c) / 18446744073709551616) k (o.set (i+j) ((x*b.getD j 0+o.getD (i+j) 0+c) % 18446744073709551616)) _ (by omega) (by simp [ho]) (okD_set oo (Nat.mod_lt _ (by omega))) c6
   (fun q hq _ hq2=>by rw [getD_set (by omega)];exact hz q (by omega) (.inr hq2) hq2) (words_set ho hp hg) (by omega)
  refine ⟨o',g',?_,h2,h3,h4,h5,?_⟩
  ·rw [show k+1-(r+1)=k-r by omega,← h1]
   conv=>lhs;rw [L49_9]
   unfold T49_9
   rw [decide_eq_true (show (j:Int)<b.length by omega),decide_eq_true (show (0:Int)≤(j:Int) by omega),ei,e1,Int.toNat_natCast,Int.toNat_natCast,decide_eq_true (show (0:Int)≤((i+j:Nat):Int) by omega),decide_eq_true (show ((i+j:Nat):Int)<(m:Int) by omega),decide_eq_true (show m=m from rfl),decide_eq_true (show 0+(i+j)<m by omega),hg (0+(i+j)) (by omega),decide_eq_true (u64_cells _),cell_of,okV_u64,intOf_u64,isAgg_or,Nat.zero_add,c1,c2,c3,c4,c5]
   rfl
  ·have hs:=val_step (B:=18446744073709551616) (o:=o) (p:=i+j) (c:=c) (x:=x) (y:=b.getD j 0) (by omega)
   have ht:=val_take_succ (B:=18446744073709551616) (l:=b) hj
   rw [ht,Nat.mul_add] at h6
   have e2:18446744073709551616 ^ (i+j)*(x*b.getD j 0)=18446744073709551616 ^ i*x*(18446744073709551616 ^ j*b.getD j 0):=by
    rw [Nat.pow_add,Nat.mul_assoc,Nat.mul_assoc]
    congr 1
    rw [Nat.mul_left_comm]
   rw [show i+(j+1)=i+j+1 by omega] at h6
   omega
theorem by_outer {s t:Bool} {a b:List Nat} {m:Nat} (oa:okD 18446744073709551616 a) (ob:okD 18446744073709551616 b) (hm:m=a.length+b.length) (hl:m≤900) :
  ∀ (r i k:Nat) (o:List Nat) (g:Nat→F),r+i=a.length→o.length=m→okD 18446744073709551616 o→(∀ q,i+b.length≤q→o.getD q 0=0)→(∀ q,q<m→g q=u64F (o.getD q 0))→val 18446744073709551616 o=val 18446744073709551616 (a.take i)*val 18446744073709551616 b →
   r*(b.length+3)<k→∃ sb rn rg,L49_5 k s t a b m a.length i g=some (sb,rn,rg)∧F.agg [.bool sb,.sl rn rg]=numF (sgn (!(s==t)) (val 18446744073709551616 a*val 18446744073709551616 b))
 | r,i,0,o,g,_,_,_,_,_,_,hk=>by omega
 | 0,i,k+1,o,g,hr,ho,oo,hz,hg,hv,hk=>by
  obtain rfl:i=a.length:=by omega
  rw [List.take_length] at hv
  rw [L49_5]
  unfold T49_5
  rw [decide_eq_false (show ¬ (a.length:Int)<a.length by omega),bsel_false,show offF 0 g=g from rfl,unWords_read ho hg,isWords_read ho hg oo,show lenOk 1000 (.sl m g)=true from Nat.ble_eq_true_of_le (by omega),hv,decide_eq_true (show m=m from rfl)]
  exact ⟨_,_,_,rfl,rfl⟩
 | r+1,i,k+1,o,g,hr,ho,oo,hz,hg,hv,hk=>by
  have hi:i<a.length:=by omega
  have hx:=getD_lt oa hi
  rw [Nat.add_mul,Nat.one_mul] at hk
  obtain ⟨k',rfl⟩:∃ k',k=k'+1:=⟨k-1,by omega⟩
  obtain ⟨o',g',h1,h2,h3,h4,h5,h6⟩:=by_inner (s:=s) (t:=t) (n:=(a.length:Int)) ob hx hm hi hl b.length 0 0 k' o g (by omega) ho oo (by omega) (fun q _ _ hq=>hz q hq) hg (by omega)
  have hv':val 18446744073709551616 o'=val 18446744073709551616 (a.take (i+1))*val 18446744073709551616 b:=by
   rw [val_take_succ hi,Nat.add_mul,← hv]
   simp only [List.take_zero,val,Nat.mul_zero,Nat.add_zero] at h6
   exact h6
  obtain ⟨sb,rn,rg,g1,g2⟩:=by_outer (s:=s) (t:=t) oa ob hm hl r (i+1) (k'-b.length) o' g' (by omega) h2 h3 (fun q hq=>h4 q hq) h5 hv' (by omega)
  refine ⟨sb,rn,rg,?_,g2⟩
  rw [← g1,L49_5]
  unfold T49_5
  rw [decide_eq_true (show (i:Int)<a.length by omega),decide_eq_true (show (0:Int)≤(i:Int) by omega),Int.toNat_natCast]
  exact h1
theorem sgn_mul (x y:Int):sgn (!(decide (x<0)==decide (y<0))) (x.natAbs*y.natAbs)=x*y:=by
 have e:((x.natAbs*y.natAbs:Nat):Int)=(x*y).natAbs:=by rw [Int.natAbs_mul]
 unfold sgn
 rw [e]
 by_cases hx:x<0 <;> by_cases hy:y<0
 ·rw [decide_eq_true hx,decide_eq_true hy]
  have:=Int.mul_pos_of_neg_of_neg hx hy
  simp;omega
 ·rw [decide_eq_true hx,decide_eq_false hy]
  have:=Int.mul_nonpos_of_nonpos_of_nonneg (Int.le_of_lt hx) (Int.not_lt.1 hy)
  simp;omega
 ·rw [decide_eq_false hx,decide_eq_true hy]
  have:=Int.mul_nonpos_of_nonneg_of_nonpos (Int.not_lt.1 hx) (Int.le_of_lt hy)
  simp;omega
 ·rw [decide_eq_false hx,decide_eq_false hy]
  have:=Int.mul_nonneg (Int.not_lt.1 hx) (Int.not_lt.1 hy)
  simp;omega
theorem by_law {x y:Int} (hx:x.natAbs<18446744073709551616 ^ 400) (hy:y.natAbs<18446744073709551616 ^ 400):∃ sb rn rg,G49 200000 x y=some (sb,rn,rg)∧FLe (F.agg [.bool sb,.sl rn rg]) (numF (x*y)):=by
 have lx:=digs_len hx
 have ly:=digs_len hy
 have z:FLe (F.agg [.bool false,.sl 0 fun _=>F.bool false]) (numF 0):=by
  unfold numF
  rw [show digs 18446744073709551616 (Int.natAbs 0)=[] from digs_zero _]
  exact FLe.agg ⟨.refl _,FLe.sl fun j hj=>by omega,trivial⟩
 unfold G49 T49
 by_cases hx0:x=0
 ·subst hx0
  rw [show digs 18446744073709551616 (Int.natAbs 0)=[] from digs_zero _,Int.zero_mul]
  exact ⟨_,_,_,rfl,z⟩
 by_cases hy0:y=0
 ·subst hy0
  rw [show digs 18446744073709551616 (Int.natAbs 0)=[] from digs_zero _,Int.mul_zero]
  have:(((digs 18446744073709551616 x.natAbs).length:Int)==0)=false:=by
   have:=digs_len_pos (n:=x.natAbs).2 (by omega)
   simp only [beq_eq_false_iff_ne,ne_eq];omega
  rw [this]
  exact ⟨_,_,_,rfl,z⟩
 have px:=digs_len_pos (n:=x.natAbs).2 (by omega)
 have py:=digs_len_pos (n:=y.natAbs).2 (by omega)
 have ew:IntKind.i64.wrap (((digs 18446744073709551616 x.natAbs).length:Int)+((digs 18446744073709551616 y.natAbs).length:Int))=(((digs 18446744073709551616 x.natAbs).length+(digs 18446744073709551616 y.natAbs).length:Nat):Int):=by
  rw [wrapI (by omega) (by omega)];omega
 rw [ew,show (((digs 18446744073709551616 x.natAbs).length:Int)==0)=false by simp only [beq_eq_false_iff_ne,ne_eq];omega,show (((digs 18446744073709551616 y.natAbs).length:Int)==0)=false by simp only [beq_eq_false_iff_ne,ne_eq];omega]
 rw [decide_eq_true (show (0:Int)≤(((digs 18446744073709551616 x.natAbs).length+(digs 18446744073709551616 y.natAbs).length:Nat):Int) by omega),decide_eq_true (Int.le_refl _),decide_eq_true (limit_ok (show (digs 18446744073709551616 x.natAbs).length+(digs 18446744073709551616 y.natAbs).length≤1000 by omega)),Int.toNat_natCast]
 have fuel:(digs 18446744073709551616 x.natAbs).length*((digs 18446744073709551616 y.natAbs).length+3)<200000:=Nat.lt_of_le_of_lt (Nat.mul_le_mul lx (show (digs 18446744073709551616 y.natAbs).length+3≤403 by omega)) (by decide)
 obtain ⟨sb,rn,rg,h1,h2⟩:=by_outer (s:=decide (x<0)) (t:=decide (y<0)) (a:=digs 18446744073709551616 x.natAbs) (b:=digs 18446744073709551616 y.natAbs) (okD_digs (by omega) _) (okD_digs (by omega) _) rfl (by omega) (digs 18446744073709551616 x.natAbs).length 0 200000 (List.replicate ((digs 18446744073709551616 x.natAbs).length+(digs 18446744073709551616 y.natAbs).length) 0) (fun _=>F.int .u64 0) rfl (by simp)
  (fun w hw=>by have:=(List.mem_replicate.1 hw).2;omega) (fun q hq=>by simp [List.getD,List.getElem?_replicate];split <;> rfl) (fun q hq=>by simp [List.getD,List.getElem?_replicate,u64F,hq]) (by rw [val_zeros];simp [val]) fuel
 rw [val_digsB,val_digsB,sgn_mul] at h2
 exact ⟨sb,rn,rg,h1,by rw [h2];exact .refl _⟩
def resBy:List F→F | [x,y]=>numF (unNum x*unNum y) | _=>.dflt
theorem okBy:PureOK Tryz.prog 49 (preN2 400) resBy :=
 fn_pure_at (c:=bodyOf Tryz.f49) Tryz.func49 (by kernel_rfl) (by kernel_rfl) fun xs hp=>match xs,hp with
 | [x,y],hp=>by
  obtain ⟨hx,hy⟩:=preN2_iff hp
  obtain ⟨sb,rn,rg,h1,h2⟩:=by_law (natAbs_of_isNum hx) (natAbs_of_isNum hy)
  exact ⟨[numF (unNum x),numF (unNum y)],_,⟨(num_eqv hx).1,(num_eqv hy).1,trivial⟩,t49 200000 _ _ _ _ _ h1,h2⟩
theorem less_law {x y:Int} (hx:x.natAbs<18446744073709551616 ^ 400) (hy:y.natAbs<18446744073709551616 ^ 400):G92 x y=some (x-y):=by
 unfold G92 T92
 have h1:(-y).natAbs<18446744073709551616 ^ 400:=by rw [Int.natAbs_neg];exact hy
 simp only [resMinus,unNum_numF,isNum_numF hx,isNum_numF hy,isNum_numF h1,Bool.and_self,bsel_true]
 congr 1
def resLess2:List F→F | [x,y]=>numF (unNum x-unNum y) | _=>.dflt
theorem okLess2:PureOK Tryz.prog 92 (preN2 400) resLess2 :=
 fn_pure_at (c:=bodyOf Tryz.f92) Tryz.func92 (by kernel_rfl) (by kernel_rfl) fun xs hp=>match xs,hp with
 | [x,y],hp=>by
  obtain ⟨hx,hy⟩:=preN2_iff hp
  exact ⟨[numF (unNum x),numF (unNum y)],_,⟨(num_eqv hx).1,(num_eqv hy).1,trivial⟩,t92 _ _ _ (less_law (natAbs_of_isNum hx) (natAbs_of_isNum hy)),.refl _⟩
def envN9:Env:=(envN8.add 49 (.pure (preN2 400) resBy)).add 92 (.pure (preN2 400) resLess2)
theorem envN9_ok:EnvOK Tryz.prog envN9:=(Env.add_ok (Env.add_ok envN8_ok okBy.sp) okLess2.sp)
end
noncomputable section
def bitLen (n:Nat):Nat:=if n=0 then 0 else n.log2+1
theorem bitLen_le {n j:Nat}:bitLen n≤j ↔ n<2 ^ j:=by
 unfold bitLen
 by_cases h:n=0
 ·rw [if_pos h];subst h;simp [Nat.pow_pos]
 ·rw [if_neg h,Nat.add_one_le_iff,Nat.log2_lt h]
theorem bitLen_shift {n k:Nat} (h:2 ^ k≤n):bitLen n=k+bitLen (n / 2 ^ k):=by
 have key:∀ j,bitLen n≤j ↔ k+bitLen (n / 2 ^ k)≤j:=by
  intro j
  rcases Nat.lt_or_ge j k with hj | hj
  ·have h1:¬ bitLen n≤j:=by
    rw [bitLen_le]
    have:=Nat.pow_le_pow_right (show 0<2 by omega) (Nat.le_of_lt hj)
    omega
   exact ⟨fun x=>absurd x h1,fun x=>by omega⟩
  ·have:bitLen (n / 2 ^ k)≤j-k ↔ n / 2 ^ k<2 ^ (j-k):=bitLen_le
   rw [Nat.div_lt_iff_lt_mul (Nat.pow_pos (by omega)),← Nat.pow_add,Nat.sub_add_cancel hj,← bitLen_le] at this
   omega
 have h1:=(key (bitLen n)).1 (Nat.le_refl _)
 have h2:=(key (k+bitLen (n / 2 ^ k))).2 (Nat.le_refl _)
 omega
def len8tab:ByteArray:=ByteArray.mk (([0,1,2,2,3,3,3,3,4,4,4,4,4,4,4,4]++List.replicate 16 5++List.replicate 32 6++List.replicate 64 7++List.replicate 128 8:List UInt8).toArray)
/-! ### function 100 -/
def T100 {ρ:Type} (ret:(Int)→Option ρ) (x:Nat):Option ρ :=
 (bsel (decide ((↑x:Int) ≥ 4294967296))
 (bsel (decide ((↑x:Int).fdiv (2 ^ 32) ≥ 65536))
 (bsel (decide (((↑x:Int).fdiv (2 ^ 32)).fdiv (2 ^ 16) ≥ 256))
 (bsel (decide (0≤IntKind.u8.wrap ((((↑x:Int).fdiv (2 ^ 32)).fdiv (2 ^ 16)).fdiv (2 ^ 8))))
 (bsel (decide (IntKind.u8.wrap ((((↑x:Int).fdiv (2 ^ 32)).fdiv (2 ^ 16)).fdiv (2 ^ 8))<((256:Nat):Int)))
 (ret (IntKind.i64.wrap (IntKind.i64.wrap (IntKind.i64.wrap (32+16)+8)+IntKind.i64.wrap (byteAt len8tab (IntKind.u8.wrap ((((↑x:Int).fdiv (2 ^ min (Int.toNat 32) IntKind.u64.bits)).fdiv (2 ^ min (Int.toNat 16) IntKind.u64.bits)).fdiv (2 ^ min (Int.toNat 8) IntKind.u64.bits)))))))
 none)
 none)
 (bsel (decide (0≤IntKind.u8.wrap (((↑x:Int).fdiv (2 ^ 32)).fdiv (2 ^ 16))))
 (bsel (decide (IntKind.u8.wrap (((↑x:Int).fdiv (2 ^ 32)).fdiv (2 ^ 16))<((256:Nat):Int)))
 (ret (IntKind.i64.wrap (IntKind.i64.wrap (32+16)+IntKind.i64.wrap (byteAt len8tab (IntKind.u8.wrap (((↑x:Int).fdiv (2 ^ min (Int.toNat 32) IntKind.u64.bits)).fdiv (2 ^ min (Int.toNat 16) IntKind.u64.bits)))))))
 none)
 none))
 (bsel (decide ((↑x:Int).fdiv (2 ^ 32) ≥ 256))
 (bsel (decide (0≤IntKind.u8.wrap (((↑x:Int).fdiv (2 ^ 32)).fdiv (2 ^ 8))))
 (bsel (decide (IntKind.u8.wrap (((↑x:Int).fdiv (2 ^ 32)).fdiv (2 ^ 8))<((256:Nat):Int)))
 (ret (IntKind.i64.wrap (IntKind.i64.wrap (32+8)+IntKind.i64.wrap (byteAt len8tab (IntKind.u8.wrap (((↑x:Int).fdiv (2 ^ min (Int.toNat 32) IntKind.u64.bits)).fdiv (2 ^ min (Int.toNat 8) IntKind.u64.bits)))))))
 none)
 none)
 (bsel (decide (0≤IntKind.u8.wrap ((↑x:Int).fdiv (2 ^ 32))))
 (bsel (decide (IntKind.u8.wrap ((↑x:Int).fdiv (2 ^ 32))<((256:Nat):Int)))
 (ret (IntKind.i64.wrap (32+IntKind.i64.wrap (byteAt len8tab (IntKind.u8.wrap ((↑x:Int).fdiv (2 ^ min (Int.toNat 32) IntKind.u64.bits)))))))
 none)
 none)))
 (bsel (decide ((↑x:Int) ≥ 65536))
 (bsel (decide ((↑x:Int).fdiv (2 ^ 16) ≥ 256))
 (bsel (decide (0≤IntKind.u8.wrap (((↑x:Int).fdiv (2 ^ 16)).fdiv (2 ^ 8))))
 (bsel (decide (IntKind.u8.wrap (((↑x:Int).fdiv (2 ^ 16)).fdiv (2 ^ 8))<((256:Nat):Int)))
 (ret (IntKind.i64.wrap (IntKind.i64.wrap (IntKind.i64.wrap (0+16)+8)+IntKind.i64.wrap (byteAt len8tab (IntKind.u8.wrap (((↑x:Int).fdiv (2 ^ min (Int.toNat 16) IntKind.u64.bits)).fdiv (2 ^ min (Int.toNat 8) IntKind.u64.bits)))))))
 none)
 none)
 (bsel (decide (0≤IntKind.u8.wrap ((↑x:Int).fdiv (2 ^ 16))))
 (bsel (decide (IntKind.u8.wrap ((↑x:Int).fdiv (2 ^ 16))<((256:Nat):Int)))
 (ret (IntKind.i64.wrap (IntKind.i64.wrap (0+16)+IntKind.i64.wrap (byteAt len8tab (IntKind.u8.wrap ((↑x:Int).fdiv (2 ^ min (Int.toNat 16) IntKind.u64.bits)))))))
 none)
 none))
 (bsel (decide ((↑x:Int) ≥ 256))
 (bsel (decide (0≤IntKind.u8.wrap ((↑x:Int).fdiv (2 ^ 8))))
 (bsel (decide (IntKind.u8.wrap ((↑x:Int).fdiv (2 ^ 8))<((256:Nat):Int)))
 (ret (IntKind.i64.wrap (IntKind.i64.wrap (0+8)+IntKind.i64.wrap (byteAt len8tab (IntKind.u8.wrap ((↑x:Int).fdiv (2 ^ min (Int.toNat 8) IntKind.u64.bits)))))))
 none)
 none)
 (bsel (decide (0≤IntKind.u8.wrap (↑x:Int)))
 (bsel (decide (IntKind.u8.wrap (↑x:Int)<((256:Nat):Int)))
 (ret (IntKind.i64.wrap (0+IntKind.i64.wrap (byteAt len8tab (IntKind.u8.wrap (↑x:Int))))))
 none)
 none))))
def G100 (x:Nat):Option (Int):=T100 some x
theorem t100 (x:Nat) (r:Int) (h:G100 x=some r):Ends Tryz.prog Tryz.f100.results.toList [.code (bodyOf Tryz.f100)] (start Tryz.f100.ntmps ([u64F x].map .f)) (F.int .i64 r):=by
 refine Ends.of_run tyOK envN9_ok (T:=[]) (n:=200) ?_
 refine gE (Y:=T100 (fun r=>some (.ret (F.int .i64 r))) x) (by kernel_rfl) ?_
 exact (gS h (fun _ h=>(gS h (fun _ h=>(gS h (fun _ h=>(gS h (fun _ h=>(gS h (fun _ h=>gR (by cases h;rfl)) gN)) gN)) (fun _ h=>(gS h (fun _ h=>(gS h (fun _ h=>gR (by cases h;rfl)) gN)) gN)))) (fun _ h=>(gS h (fun _ h=>(gS h (fun _ h=>(gS h (fun _ h=>gR (by cases h;rfl)) gN)) gN)) (fun _ h=>(gS h (fun _ h=>(gS h (fun _ h=>gR (by cases h;rfl)) gN)) gN)))))) (fun _ h=>(gS h (fun _ h=>(gS h (fun _ h=>(gS h (fun _ h=>(gS h (fun _ h=>gR (by cases h;rfl)) gN)) gN)) (fun _ h=>(gS h (fun _ h=>(gS h (fun _ h=>gR (by cases h;rfl)) gN)) gN)))) (fun _ h=>(gS h (fun _ h=>(gS h (fun _ h=>(gS h (fun _ h=>gR (by cases h;rfl)) gN)) gN)) (fun _ h=>(gS h (fun _ h=>(gS h (fun _ h=>gR (by cases h;rfl)) gN)) gN)))))))
theorem tab_at:∀ v:Nat,v<256→byteAt len8tab (v:Int)=(bitLen v:Nat):=by
 have h:∀ v ∈ List.range 256,byteAt len8tab (v:Int)=(bitLen v:Nat):=by decide +kernel
 intro v hv
 exact h v (List.mem_range.2 hv)
theorem fdiv_nat (n k:Nat):Int.fdiv (n:Int) (2 ^ k)=((n / 2 ^ k:Nat):Int):=by
 rw [Int.fdiv_eq_ediv_of_nonneg _ (Int.pow_nonneg (by omega))]
 norm_cast
theorem wrapB {n:Nat} (h:n<256):IntKind.u8.wrap (n:Int)=n:=by
 unfold IntKind.wrap
 simp [IntKind.bits,IntKind.signed]
 omega
theorem len_law {x:Nat} (hx:x<18446744073709551616):G100 x=some (bitLen x:Nat):=by
 unfold G100 T100
 have e32:min (Int.toNat 32) IntKind.u64.bits=32:=rfl
 have e16:min (Int.toNat 16) IntKind.u64.bits=16:=rfl
 have e8:min (Int.toNat 8) IntKind.u64.bits=8:=rfl
 rw [e32,e16,e8]
 simp only [fdiv_nat]
 have leaf:∀ (v s:Nat) (t:Int),v<256→t=(s:Int)→s≤64→bitLen x=s+bitLen v →
   bsel (decide (0≤IntKind.u8.wrap (v:Int))) (bsel (decide (IntKind.u8.wrap (v:Int)<((256:Nat):Int))) (some (IntKind.i64.wrap (t+IntKind.i64.wrap (byteAt len8tab (IntKind.u8.wrap (v:Int)))))) none) none=some ((bitLen x:Nat):Int):=by
  intro v s t hv ht hs hb
  have hl:bitLen v≤8:=bitLen_le.2 (by simpa using hv)
  rw [wrapB hv,decide_eq_true (show (0:Int)≤(v:Int) by omega),decide_eq_true (show (v:Int)<((256:Nat):Int) by omega),tab_at v hv,ht]
  simp only [bsel_true]
  rw [wrapI (x:=((bitLen v:Nat):Int)) (by omega) (by omega),wrapI (by omega) (by omega),hb]
  congr 1
 have sh:∀ {n:Nat} (k:Nat),2 ^ k≤n→bitLen n=k+bitLen (n / 2 ^ k):=fun k h=>bitLen_shift h
 by_cases h1:x ≥ 4294967296
 ·rw [decide_eq_true (show (x:Int) ≥ 4294967296 by omega),bsel_true]
  have s1:=sh 32 (show 2 ^ 32≤x by omega)
  by_cases h2:x / 2 ^ 32 ≥ 65536
  ·rw [decide_eq_true (show ((x / 2 ^ 32:Nat):Int) ≥ 65536 by omega),bsel_true]
   have s2:=sh 16 (show 2 ^ 16≤x / 2 ^ 32 by omega)
   by_cases h3:x / 2 ^ 32 / 2 ^ 16 ≥ 256
   ·rw [decide_eq_true (show ((x / 2 ^ 32 / 2 ^ 16:Nat):Int) ≥ 256 by omega),bsel_true]
    have s3:=sh 8 (show 2 ^ 8≤x / 2 ^ 32 / 2 ^ 16 by omega)
    exact leaf (x / 2 ^ 32 / 2 ^ 16 / 2 ^ 8) 56 _ (by omega) rfl (by omega) (by omega)
   ·rw [decide_eq_false (show ¬ ((x / 2 ^ 32 / 2 ^ 16:Nat):Int) ≥ 256 by omega),bsel_false]
    exact leaf (x / 2 ^ 32 / 2 ^ 16) 48 _ (by omega) rfl (by omega) (by omega)
  ·rw [decide_eq_false (show ¬ ((x / 2 ^ 32:Nat):Int) ≥ 65536 by omega),bsel_false]
   by_cases h3:x / 2 ^ 32 ≥ 256
   ·rw [decide_eq_true (show ((x / 2 ^ 32:Nat):Int) ≥ 256 by omega),bsel_true]
    have s3:=sh 8 (show 2 ^ 8≤x / 2 ^ 32 by omega)
    exact leaf (x / 2 ^ 32 / 2 ^ 8) 40 _ (by omega) rfl (by omega) (by omega)
   ·rw [decide_eq_false (show ¬ ((x / 2 ^ 32:Nat):Int) ≥ 256 by omega),bsel_false]
    exact leaf (x / 2 ^ 32) 32 _ (by omega) rfl (by omega) (by omega)
 ·rw [decide_eq_false (show ¬ (x:Int) ≥ 4294967296 by omega),bsel_false]
  by_cases h2:x ≥ 65536
  ·rw [decide_eq_true (show (x:Int) ≥ 65536 by omega),bsel_true]
   have s2:=sh 16 (show 2 ^ 16≤x by omega)
   by_cases h3:x / 2 ^ 16 ≥ 256
   ·rw [decide_eq_true (show ((x / 2 ^ 16:Nat):Int) ≥ 256 by omega),bsel_true]
    have s3:=sh 8 (show 2 ^ 8≤x / 2 ^ 16 by omega)
    exact leaf (x / 2 ^ 16 / 2 ^ 8) 24 _ (by omega) rfl (by omega) (by omega)
   ·rw [decide_eq_false (show ¬ ((x / 2 ^ 16:Nat):Int) ≥ 256 by omega),bsel_false]
    exact leaf (x / 2 ^ 16) 16 _ (by omega) rfl (by omega) (by omega)
  ·rw [decide_eq_false (show ¬ (x:Int) ≥ 65536 by omega),bsel_false]
   by_cases h3:x ≥ 256
   ·rw [decide_eq_true (show (x:Int) ≥ 256 by omega),bsel_true]
    have s3:=sh 8 (show 2 ^ 8≤x by omega)
    exact leaf (x / 2 ^ 8) 8 _ (by omega) rfl (by omega) (by omega)
   ·rw [decide_eq_false (show ¬ (x:Int) ≥ 256 by omega),bsel_false]
    exact leaf x 0 _ (by omega) rfl (by omega) (by omega)
def preW1:List F→Bool | [.int .u64 x]=>isWd x | _=>false
def resLen:List F→F | [.int .u64 x]=>.int .i64 (bitLen x.toNat:Nat) | _=>.dflt
theorem okLen64:PureOK Tryz.prog 100 preW1 resLen :=
 fn_pure (c:=bodyOf Tryz.f100) Tryz.func100 (by kernel_rfl) (by kernel_rfl) fun xs hp=>match xs,hp with
 | [.int .u64 x],hp=>by
  obtain ⟨h0,h1⟩:=isWd_iff.1 hp
  obtain ⟨x,rfl⟩:=Int.eq_ofNat_of_zero_le h0
  exact t100 x _ (len_law (by omega))
def envN10:Env:=envN9.add 100 (.pure preW1 resLen)
theorem envN10_ok:EnvOK Tryz.prog envN10:=(Env.add_ok envN9_ok okLen64.sp)
end
noncomputable section
/-! ### function 93 -/
def T93 {ρ:Type} (ret:(Int)→Option ρ) (x:Nat):Option ρ :=
 (bsel (isWd (↑x:Int))
 (ret (IntKind.i64.wrap (64-(↑(bitLen (↑x:Int).toNat):Int))))
 none)
def G93 (x:Nat):Option (Int):=T93 some x
theorem t93 (x:Nat) (r:Int) (h:G93 x=some r):Ends Tryz.prog Tryz.f93.results.toList [.code (bodyOf Tryz.f93)] (start Tryz.f93.ntmps ([u64F x].map .f)) (F.int .i64 r):=by
 refine Ends.of_run tyOK envN10_ok (T:=[]) (n:=200) ?_
 refine gE (Y:=T93 (fun r=>some (.ret (F.int .i64 r))) x) (by kernel_rfl) ?_
 exact (gS h (fun _ h=>gR (by cases h;rfl)) gN)
def lzV (x:Nat):Int:=64-(bitLen x:Nat)
theorem bitLen_le64 {x:Nat} (hx:x<18446744073709551616):bitLen x≤64:=bitLen_le.2 (by simpa using hx)
theorem lz_law {x:Nat} (hx:x<18446744073709551616):G93 x=some (lzV x):=by
 have h:=bitLen_le64 hx
 unfold G93 T93 lzV
 rw [show isWd (x:Int)=true from isWd_iff.2 (by omega),bsel_true]
 simp only [Int.toNat_natCast]
 rw [wrapI (by omega) (by omega)]
def resLz:List F→F | [.int .u64 x]=>.int .i64 (lzV x.toNat) | _=>.dflt
theorem okLz:PureOK Tryz.prog 93 preW1 resLz :=
 fn_pure (c:=bodyOf Tryz.f93) Tryz.func93 (by kernel_rfl) (by kernel_rfl) fun xs hp=>match xs,hp with
 | [.int .u64 x],hp=>by
  obtain ⟨h0,h1⟩:=isWd_iff.1 hp
  obtain ⟨x,rfl⟩:=Int.eq_ofNat_of_zero_le h0
  exact t93 x _ (lz_law (by omega))
def envN11:Env:=envN10.add 93 (.pure preW1 resLz)
theorem envN11_ok:EnvOK Tryz.prog envN11:=(Env.add_ok envN10_ok okLz.sp)
end
noncomputable section
/-! ### function 98 -/
def S98_17 (y:Int) (s:Int) (y1:Int) (y0:Int) (u:Int) (u1:Int) (u0:Int) (q:Int) (r:Int):St:=⟨bads 2 ((U.f (F.int .u64 y)) :: bads 5 ((U.f (F.int .u64 s)) :: (U.f (F.int .u64 y1)) :: (U.f (F.int .u64 y0)) :: (U.f (F.int .u64 u)) :: bads 1 ((U.f (F.int .u64 u1)) :: (U.f (F.int .u64 u0)) :: (U.f (F.int .u64 q)) :: (U.f (F.int .u64 r)) :: bads 118 []))),[]⟩
def S98_24 (y:Int) (s:Int) (y1:Int) (y0:Int) (u0:Int) (q:Int) (v:Int) (p:Int) (r:Int):St:=⟨bads 2 ((U.f (F.int .u64 y)) :: bads 5 ((U.f (F.int .u64 s)) :: (U.f (F.int .u64 y1)) :: (U.f (F.int .u64 y0)) :: bads 3 ((U.f (F.int .u64 u0)) :: (U.f (F.int .u64 q)) :: (U.f (F.int .u64 v)) :: (U.f (F.int .u64 p)) :: (U.f (F.int .u64 r)) :: bads 116 []))),[]⟩
abbrev KJ41 (ρ:Type):=(Int)→(Int)→(Int)→(Int)→(Int)→(Int)→(Int)→(Int)→(Int)→Option ρ
def T98_17 {ρ:Type} (ret:(Int)→(Int)→Option ρ) (c17:KJ41 ρ) (c24:KJ41 ρ) (y:Int) (s:Int) (y1:Int) (y0:Int) (u:Int) (u1:Int) (u0:Int) (q:Int) (r:Int):Option ρ :=
 (bsel (decide (q ≥ 4294967296)==false)
 (bsel (decide (IntKind.u64.wrap (q*y0) > IntKind.u64.wrap (IntKind.u64.wrap (4294967296*r)+u1)))
 (bsel (decide (IntKind.u64.wrap (r+y1) ≥ 4294967296))
 (bsel (y1 != 0)
 (c24 (y) (s) (y1) (y0) (u0) (IntKind.u64.wrap (q-1)) (IntKind.u64.wrap (IntKind.u64.wrap (IntKind.u64.wrap (IntKind.u64.wrap (u*4294967296)+u1)-IntKind.u64.wrap (IntKind.u64.wrap (q-1)*y))-IntKind.u64.wrap (IntKind.u64.wrap ((IntKind.u64.wrap (IntKind.u64.wrap (IntKind.u64.wrap (u*4294967296)+u1)-IntKind.u64.wrap (IntKind.u64.wrap (q-1)*y))).tdiv y1)*y1))) (IntKind.u64.wrap (IntKind.u64.wrap (IntKind.u64.wrap (u*4294967296)+u1)-IntKind.u64.wrap (IntKind.u64.wrap (q-1)*y))) (IntKind.u64.wrap ((IntKind.u64.wrap (IntKind.u64.wrap (IntKind.u64.wrap (u*4294967296)+u1)-IntKind.u64.wrap (IntKind.u64.wrap (q-1)*y))).tdiv y1)))
 none)
 (c17 (y) (s) (y1) (y0) (u) (u1) (u0) (IntKind.u64.wrap (q-1)) (IntKind.u64.wrap (r+y1))))
 (bsel (y1 != 0)
 (c24 (y) (s) (y1) (y0) (u0) (q) (IntKind.u64.wrap (IntKind.u64.wrap (IntKind.u64.wrap (IntKind.u64.wrap (u*4294967296)+u1)-IntKind.u64.wrap (q*y))-IntKind.u64.wrap (IntKind.u64.wrap ((IntKind.u64.wrap (IntKind.u64.wrap (IntKind.u64.wrap (u*4294967296)+u1)-IntKind.u64.wrap (q*y))).tdiv y1)*y1))) (IntKind.u64.wrap (IntKind.u64.wrap (IntKind.u64.wrap (u*4294967296)+u1)-IntKind.u64.wrap (q*y))) (IntKind.u64.wrap ((IntKind.u64.wrap (IntKind.u64.wrap (IntKind.u64.wrap (u*4294967296)+u1)-IntKind.u64.wrap (q*y))).tdiv y1)))
 none))
 (bsel (decide (IntKind.u64.wrap (r+y1) ≥ 4294967296))
 (bsel (y1 != 0)
 (c24 (y) (s) (y1) (y0) (u0) (IntKind.u64.wrap (q-1)) (IntKind.u64.wrap (IntKind.u64.wrap (IntKind.u64.wrap (IntKind.u64.wrap (u*4294967296)+u1)-IntKind.u64.wrap (IntKind.u64.wrap (q-1)*y))-IntKind.u64.wrap (IntKind.u64.wrap ((IntKind.u64.wrap (IntKind.u64.wrap (IntKind.u64.wrap (u*4294967296)+u1)-IntKind.u64.wrap (IntKind.u64.wrap (q-1)*y))).tdiv y1)*y1))) (IntKind.u64.wrap (IntKind.u64.wrap (IntKind.u64.wrap (u*4294967296)+u1)-IntKind.u64.wrap (IntKind.u64.wrap (q-1)*y))) (IntKind.u64.wrap ((IntKind.u64.wrap (IntKind.u64.wrap (IntKind.u64.wrap (u*4294967296)+u1)-IntKind.u64.wrap (IntKind.u64.wrap (q-1)*y))).tdiv y1)))
 none)
 (c17 (y) (s) (y1) (y0) (u) (u1) (u0) (IntKind.u64.wrap (q-1)) (IntKind.u64.wrap (r+y1)))))
def T98_24 {ρ:Type} (ret:(Int)→(Int)→Option ρ) (c17:KJ41 ρ) (c24:KJ41 ρ) (y:Int) (s:Int) (y1:Int) (y0:Int) (u0:Int) (q:Int) (v:Int) (p:Int) (r:Int):Option ρ :=
 (bsel (decide (r ≥ 4294967296)==false)
 (bsel (decide (IntKind.u64.wrap (r*y0) > IntKind.u64.wrap (IntKind.u64.wrap (4294967296*v)+u0)))
 (bsel (decide (IntKind.u64.wrap (v+y1) ≥ 4294967296))
 (bsel (decide (0≤s))
 (ret (IntKind.u64.wrap (IntKind.u64.wrap (q*4294967296)+IntKind.u64.wrap (r-1))) ((IntKind.u64.wrap (IntKind.u64.wrap (IntKind.u64.wrap (p*4294967296)+u0)-IntKind.u64.wrap (IntKind.u64.wrap (r-1)*y))).fdiv (2 ^ min s.toNat IntKind.u64.bits)))
 none)
 (c24 (y) (s) (y1) (y0) (u0) (q) (IntKind.u64.wrap (v+y1)) (p) (IntKind.u64.wrap (r-1))))
 (bsel (decide (0≤s))
 (ret (IntKind.u64.wrap (IntKind.u64.wrap (q*4294967296)+r)) ((IntKind.u64.wrap (IntKind.u64.wrap (IntKind.u64.wrap (p*4294967296)+u0)-IntKind.u64.wrap (r*y))).fdiv (2 ^ min s.toNat IntKind.u64.bits)))
 none))
 (bsel (decide (IntKind.u64.wrap (v+y1) ≥ 4294967296))
 (bsel (decide (0≤s))
 (ret (IntKind.u64.wrap (IntKind.u64.wrap (q*4294967296)+IntKind.u64.wrap (r-1))) ((IntKind.u64.wrap (IntKind.u64.wrap (IntKind.u64.wrap (p*4294967296)+u0)-IntKind.u64.wrap (IntKind.u64.wrap (r-1)*y))).fdiv (2 ^ min s.toNat IntKind.u64.bits)))
 none)
 (c24 (y) (s) (y1) (y0) (u0) (q) (IntKind.u64.wrap (v+y1)) (p) (IntKind.u64.wrap (r-1)))))
mutual
def L98_17:Nat→(Int)→(Int)→(Int)→(Int)→(Int)→(Int)→(Int)→(Int)→(Int)→Option ((Int) × (Int))
 | 0,_,_,_,_,_,_,_,_,_=>none
 | k+1,y,s,y1,y0,u,u1,u0,q,r=>T98_17 (fun rq rr=>some (rq,rr)) (L98_17 k) (L98_24 k) y s y1 y0 u u1 u0 q r
def L98_24:Nat→(Int)→(Int)→(Int)→(Int)→(Int)→(Int)→(Int)→(Int)→(Int)→Option ((Int) × (Int))
 | 0,_,_,_,_,_,_,_,_,_=>none
 | k+1,y,s,y1,y0,u0,q,v,p,r=>T98_24 (fun rq rr=>some (rq,rr)) (L98_17 k) (L98_24 k) y s y1 y0 u0 q v p r
end
def T98 {ρ:Type} (ret:(Int)→(Int)→Option ρ) (c17:KJ41 ρ) (c24:KJ41 ρ) (hi:Nat) (lo:Nat) (y:Nat):Option ρ :=
 (bsel ((↑y:Int)==0)
 none
 (bsel (decide ((↑y:Int)≤(↑hi:Int)))
 none
 (bsel ((↑hi:Int)==0)
 (bsel ((↑y:Int) != 0)
 (bsel ((↑y:Int) != 0)
 (ret (IntKind.u64.wrap ((↑lo:Int).tdiv (↑y:Int))) ((↑lo:Int).tmod (↑y:Int)))
 none)
 none)
 (bsel (isWd (↑y:Int))
 (bsel (decide (0≤IntKind.u64.wrap (lzV (↑y:Int).toNat)))
 (bsel (decide (0≤IntKind.u64.wrap (lzV (↑y:Int).toNat)))
 (bsel (decide (0≤IntKind.u64.wrap (64-IntKind.u64.wrap (lzV (↑y:Int).toNat))))
 (bsel (decide (0≤IntKind.u64.wrap (lzV (↑y:Int).toNat)))
 (bsel ((IntKind.u64.wrap ((↑y:Int)*2 ^ min (IntKind.u64.wrap (lzV (↑y:Int).toNat)).toNat IntKind.u64.bits)).fdiv (2 ^ min (Int.toNat 32) IntKind.u64.bits) != 0)
 (c17 (IntKind.u64.wrap ((↑y:Int)*2 ^ min (IntKind.u64.wrap (lzV (↑y:Int).toNat)).toNat IntKind.u64.bits)) (IntKind.u64.wrap (lzV (↑y:Int).toNat)) ((IntKind.u64.wrap ((↑y:Int)*2 ^ min (IntKind.u64.wrap (lzV (↑y:Int).toNat)).toNat IntKind.u64.bits)).fdiv (2 ^ min (Int.toNat 32) IntKind.u64.bits)) (bitsOp BinOp.and IntKind.u64 (IntKind.u64.wrap ((↑y:Int)*2 ^ min (IntKind.u64.wrap (lzV (↑y:Int).toNat)).toNat IntKind.u64.bits)) 4294967295) (bitsOp BinOp.or IntKind.u64 (IntKind.u64.wrap ((↑hi:Int)*2 ^ min (IntKind.u64.wrap (lzV (↑y:Int).toNat)).toNat IntKind.u64.bits)) ((↑lo:Int).fdiv (2 ^ min (IntKind.u64.wrap (64-IntKind.u64.wrap (lzV (↑y:Int).toNat))).toNat IntKind.u64.bits))) ((IntKind.u64.wrap ((↑lo:Int)*2 ^ min (IntKind.u64.wrap (lzV (↑y:Int).toNat)).toNat IntKind.u64.bits)).fdiv (2 ^ min (Int.toNat 32) IntKind.u64.bits)) (bitsOp BinOp.and IntKind.u64 (IntKind.u64.wrap ((↑lo:Int)*2 ^ min (IntKind.u64.wrap (lzV (↑y:Int).toNat)).toNat IntKind.u64.bits)) 4294967295) (IntKind.u64.wrap ((bitsOp BinOp.or IntKind.u64 (IntKind.u64.wrap ((↑hi:Int)*2 ^ min (IntKind.u64.wrap (lzV (↑y:Int).toNat)).toNat IntKind.u64.bits)) ((↑lo:Int).fdiv (2 ^ min (IntKind.u64.wrap (64-IntKind.u64.wrap (lzV (↑y:Int).toNat))).toNat IntKind.u64.bits))).tdiv ((IntKind.u64.wrap ((↑y:Int)*2 ^ min (IntKind.u64.wrap (lzV (↑y:Int).toNat)).toNat IntKind.u64.bits)).fdiv (2 ^ min (Int.toNat 32) IntKind.u64.bits)))) (IntKind.u64.wrap (bitsOp BinOp.or IntKind.u64 (IntKind.u64.wrap ((↑hi:Int)*2 ^ min (IntKind.u64.wrap (lzV (↑y:Int).toNat)).toNat IntKind.u64.bits)) ((↑lo:Int).fdiv (2 ^ min (IntKind.u64.wrap (64-IntKind.u64.wrap (lzV (↑y:Int).toNat))).toNat IntKind.u64.bits))-IntKind.u64.wrap (IntKind.u64.wrap ((bitsOp BinOp.or IntKind.u64 (IntKind.u64.wrap ((↑hi:Int)*2 ^ min (IntKind.u64.wrap (lzV (↑y:Int).toNat)).toNat IntKind.u64.bits)) ((↑lo:Int).fdiv (2 ^ min (IntKind.u64.wrap (64-IntKind.u64.wrap (lzV (↑y:Int).toNat))).toNat IntKind.u64.bits))).tdiv ((IntKind.u64.wrap ((↑y:Int)*2 ^ min (IntKind.u64.wrap (lzV (↑y:Int).toNat)).toNat IntKind.u64.bits)).fdiv (2 ^ min (Int.toNat 32) IntKind.u64.bits)))*(IntKind.u64.wrap ((↑y:Int)*2 ^ min (IntKind.u64.wrap (lzV (↑y:Int).toNat)).toNat IntKind.u64.bits)).fdiv (2 ^ min (Int.toNat 32) IntKind.u64.bits)))))
 none)
 none)
 none)
 none)
 none)
 none))))
def G98 (k:Nat) (hi:Nat) (lo:Nat) (y:Nat):Option ((Int) × (Int)):=T98 (fun rq rr=>some (rq,rr)) (L98_17 k) (L98_24 k) hi lo y
mutual
theorem t98_17:∀ (k:Nat) (y:Int) (s:Int) (y1:Int) (y0:Int) (u:Int) (u1:Int) (u0:Int) (q:Int) (r:Int) (rq:Int) (rr:Int),L98_17 k y s y1 y0 u u1 u0 q r=some (rq,rr)→Ends Tryz.prog Tryz.f98.results.toList (at_ Tryz.f98 17) (S98_17 y s y1 y0 u u1 u0 q r) (F.tup [F.int .u64 rq,F.int .u64 rr])
 | 0,_,_,_,_,_,_,_,_,_,_,_,h=>nomatch h
 | k+1,y,s,y1,y0,u,u1,u0,q,r,rq,rr,h=>by
  refine Ends.of_cut tyOK envN11_ok (T:=[(17,[2,8,9,10,11,13,14,15,16],1000),(24,[2,8,9,10,14,15,16,17,18],1000)]) (n:=200) ?_
  refine gE (Y:=T98_17 (fun rq rr=>some (.ret (F.tup [F.int .u64 rq,F.int .u64 rr]))) (fun y s y1 y0 u u1 u0 q r=>some (.cut (at_ Tryz.f98 17) (S98_17 y s y1 y0 u u1 u0 q r))) (fun y s y1 y0 u0 q v p r=>some (.cut (at_ Tryz.f98 24) (S98_24 y s y1 y0 u0 q v p r))) y s y1 y0 u u1 u0 q r) (by kernel_rfl) ?_
  exact (gS h (fun _ h=>(gS h (fun _ h=>(gS h (fun _ h=>(gS h (fun _ h=>gC (t98_24 k _ _ _ _ _ _ _ _ _ rq rr h)) gN)) (fun _ h=>gC (t98_17 k _ _ _ _ _ _ _ _ _ rq rr h)))) (fun _ h=>(gS h (fun _ h=>gC (t98_24 k _ _ _ _ _ _ _ _ _ rq rr h)) gN)))) (fun _ h=>(gS h (fun _ h=>(gS h (fun _ h=>gC (t98_24 k _ _ _ _ _ _ _ _ _ rq rr h)) gN)) (fun _ h=>gC (t98_17 k _ _ _ _ _ _ _ _ _ rq rr h)))))
theorem t98_24:∀ (k:Nat) (y:Int) (s:Int) (y1:Int) (y0:Int) (u0:Int) (q:Int) (v:Int) (p:Int) (r:Int) (rq:Int) (rr:Int),L98_24 k y s y1 y0 u0 q v p r=some (rq,rr)→Ends Tryz.prog Tryz.f98.results.toList (at_ Tryz.f98 24) (S98_24 y s y1 y0 u0 q v p r) (F.tup [F.int .u64 rq,F.int .u64 rr])
 | 0,_,_,_,_,_,_,_,_,_,_,_,h=>nomatch h
 | k+1,y,s,y1,y0,u0,q,v,p,r,rq,rr,h=>by
  refine Ends.of_cut tyOK envN11_ok (T:=[(17,[2,8,9,10,11,13,14,15,16],1000),(24,[2,8,9,10,14,15,16,17,18],1000)]) (n:=200) ?_
  refine gE (Y:=T98_24 (fun rq rr=>some (.ret (F.tup [F.int .u64 rq,F.int .u64 rr]))) (fun y s y1 y0 u u1 u0 q r=>some (.cut (at_ Tryz.f98 17) (S98_17 y s y1 y0 u u1 u0 q r))) (fun y s y1 y0 u0 q v p r=>some (.cut (at_ Tryz.f98 24) (S98_24 y s y1 y0 u0 q v p r))) y s y1 y0 u0 q v p r) (by kernel_rfl) ?_
  exact (gS h (fun _ h=>(gS h (fun _ h=>(gS h (fun _ h=>(gS h (fun _ h=>gR (by cases h;rfl)) gN)) (fun _ h=>gC (t98_24 k _ _ _ _ _ _ _ _ _ rq rr h)))) (fun _ h=>(gS h (fun _ h=>gR (by cases h;rfl)) gN)))) (fun _ h=>(gS h (fun _ h=>(gS h (fun _ h=>gR (by cases h;rfl)) gN)) (fun _ h=>gC (t98_24 k _ _ _ _ _ _ _ _ _ rq rr h)))))
end
theorem t98 (k:Nat) (hi:Nat) (lo:Nat) (y:Nat) (rq:Int) (rr:Int) (h:G98 k hi lo y=some (rq,rr)):Ends Tryz.prog Tryz.f98.results.toList [.code (bodyOf Tryz.f98)] (start Tryz.f98.ntmps ([u64F hi,u64F lo,u64F y].map .f)) (F.tup [F.int .u64 rq,F.int .u64 rr]):=by
 refine Ends.of_run tyOK envN11_ok (T:=[(17,[2,8,9,10,11,13,14,15,16],1000),(24,[2,8,9,10,14,15,16,17,18],1000)]) (n:=200) ?_
 refine gE (Y:=T98 (fun rq rr=>some (.ret (F.tup [F.int .u64 rq,F.int .u64 rr]))) (fun y s y1 y0 u u1 u0 q r=>some (.cut (at_ Tryz.f98 17) (S98_17 y s y1 y0 u u1 u0 q r))) (fun y s y1 y0 u0 q v p r=>some (.cut (at_ Tryz.f98 24) (S98_24 y s y1 y0 u0 q v p r))) hi lo y) (by kernel_rfl) ?_
 exact (gS h gN (fun _ h=>(gS h gN (fun _ h=>(gS h (fun _ h=>(gS h (fun _ h=>(gS h (fun _ h=>gR (by cases h;rfl)) gN)) gN)) (fun _ h=>(gS h (fun _ h=>(gS h (fun _ h=>(gS h (fun _ h=>(gS h (fun _ h=>(gS h (fun _ h=>(gS h (fun _ h=>gC (t98_17 k _ _ _ _ _ _ _ _ _ rq rr h)) gN)) gN)) gN)) gN)) gN)) gN)))))))
theorem est_mul (q y1 y0:Nat):q*(y1*4294967296+y0)=q*y1*4294967296+q*y0:=by rw [Nat.mul_add,Nat.mul_assoc]
theorem est_gt {q r u u1 y y1 y0:Nat} (hy:y=y1*4294967296+y0) (hq:q*y1+r=u) (hu:u<y) (hu1:u1<4294967296) (h:4294967296≤q ∨ 4294967296*r+u1<q*y0):(u*4294967296+u1) / y<q:=by
 rw [Nat.div_lt_iff_lt_mul (by omega)]
 rcases h with h | h
 ·have:=Nat.mul_le_mul_right y h
  omega
 ·subst hy
  rw [est_mul,← hq]
  generalize q*y1=a at *
  generalize q*y0=b at *
  omega
theorem est_le {q r u u1 y y1 y0:Nat} (hy:y=y1*4294967296+y0) (hy0:0<y) (hq:q*y1+r=u) (h:q*y0≤4294967296*r+u1):q≤(u*4294967296+u1) / y:=by
 rw [Nat.le_div_iff_mul_le hy0]
 subst hy
 rw [est_mul,← hq]
 generalize q*y1=a at *
 generalize q*y0=b at *
 omega
theorem est_break {q r u u1 y y1 y0:Nat} (hy:y=y1*4294967296+y0) (h0:y0<4294967296) (hq:q*y1+r=u) (hu:u<y) (hr:4294967296≤r):q*y0≤4294967296*r+u1:=by
 have hlt:q<4294967296:=by
  rcases Nat.lt_or_ge q 4294967296 with h | h
  ·exact h
  ·exfalso
   have:=Nat.mul_le_mul_right y1 h
   omega
 have h1:q*y0≤4294967296*4294967296:=Nat.mul_le_mul (Nat.le_of_lt hlt) (Nat.le_of_lt h0)
 have h2:4294967296*4294967296≤4294967296*r:=Nat.mul_le_mul_left _ hr
 omega
theorem wmul (a b:Nat):IntKind.u64.wrap ((a:Int)*(b:Int))=((a*b % 18446744073709551616:Nat):Int):=by
 rw [wrapN,← Int.natCast_mul]
 omega
theorem p_exact {u u1 y:Nat} (hy:0<y) (hyb:y<18446744073709551616):IntKind.u64.wrap (IntKind.u64.wrap (IntKind.u64.wrap ((u:Int)*4294967296)+u1)-IntKind.u64.wrap ((((u*4294967296+u1) / y:Nat):Int)*y))=(((u*4294967296+u1) % y:Nat):Int):=by
 have h1:=Nat.div_add_mod' (u*4294967296+u1) y
 have h2:=Nat.mod_lt (u*4294967296+u1) hy
 rw [wmul]
 generalize (u*4294967296+u1) % y=p at *
 generalize (u*4294967296+u1) / y*y=P at *
 simp only [wrapN]
 omega
theorem wdiv {p y1:Nat} (hp:p<18446744073709551616):IntKind.u64.wrap ((p:Int).tdiv (y1:Int))=((p / y1:Nat):Int):=by
 rw [show (p:Int).tdiv (y1:Int)=((p / y1:Nat):Int) from rfl,wrapN]
 have h1:=Nat.div_le_self p y1
 generalize p / y1=t at *
 omega
theorem vv {p y1:Nat} (hp:p<18446744073709551616):IntKind.u64.wrap ((p:Int)-IntKind.u64.wrap (((p / y1:Nat):Int)*(y1:Int)))=((p % y1:Nat):Int):=by
 have h1:=Nat.div_add_mod' p y1
 rw [wmul,wrapN]
 generalize p / y1*y1=P at *
 generalize p % y1=t at *
 omega
theorem est_loop1 {y s y1 y0 u u1 u0:Nat} (hy:y=y1*4294967296+y0) (h0:y0<4294967296) (hy1:2147483648≤y1) (hy1':y1<4294967296) (hu:u<y) (hu1:u1<4294967296) :
  ∀ (j k q r:Nat),q*y1+r=u→(u*4294967296+u1) / y≤q→r<4294967296→4294967296≤r+j*2147483648→j+10≤k →
   ∃ k',10≤k'∧L98_17 k y s y1 y0 u u1 u0 q r=L98_24 k' y s y1 y0 u0 (((u*4294967296+u1) / y:Nat):Int) (((u*4294967296+u1) % y % y1:Nat):Int) (((u*4294967296+u1) % y:Nat):Int) (((u*4294967296+u1) % y / y1:Nat):Int)
 | 0,k,q,r,_,_,h1,h2,_=>by omega
 | j+1,0,q,r,_,_,_,_,hk=>by omega
 | j+1,k+1,q,r,hq,hQ,hr,hj,hk=>by
  have hy0:0<y:=by omega
  have hyb:y<18446744073709551616:=by omega
  have hne:((y1:Int) != 0)=true:=by simp only [bne_iff_ne,ne_eq];omega
  have hp:(u*4294967296+u1) % y<18446744073709551616:=Nat.lt_trans (Nat.mod_lt _ hy0) hyb
  have fin:∀ (qI:Int),qI=(((u*4294967296+u1) / y:Nat):Int)→∃ k',10≤k'∧L98_24 k y s y1 y0 u0 qI (IntKind.u64.wrap (IntKind.u64.wrap (IntKind.u64.wrap (IntKind.u64.wrap ((u:Int)*4294967296)+u1)-IntKind.u64.wrap (qI*y))-IntKind.u64.wrap (IntKind.u64.wrap ((IntKind.u64.wrap (IntKind.u64.wrap (IntKind.u64.wrap ((u:Int)*4294967296)+u1)-IntKind.u64.wrap (qI*y))).tdiv y1)*y1))) (IntKind.u64.wrap (IntKind.u64.wrap (IntKind.u64.wrap ((u:Int)*4294967296)+u1)-IntKind.u64.wrap (qI*y))) (IntKind.u64.wrap ((IntKind.u64.wrap (IntKind.u64.wrap (IntKind.u64.wrap ((u:Int)*4294967296)+u1)-IntKind.u64.wrap (qI*y))).tdiv y1))=L98_24 k' y s y1 y0 u0 (((u*4294967296+u1) / y:Nat):Int) (((u*4294967296+u1) % y % y1:Nat):Int) (((u*4294967296+u1) % y:Nat):Int) (((u*4294967296+u1) % y / y1:Nat):Int):=by
   rintro qI rfl
   exact ⟨k,by omega,by rw [p_exact hy0 hyb,wdiv hp,vv hp]⟩
  have f3:IntKind.u64.wrap ((r:Int)+y1)=((r+y1:Nat):Int):=by clear hQ hq;rw [wrapN];omega
  have dec:(u*4294967296+u1) / y<q→∃ k',10≤k'∧bsel (decide (IntKind.u64.wrap ((r:Int)+y1) ≥ 4294967296)) (bsel ((y1:Int) != 0) (L98_24 k y s y1 y0 u0 (IntKind.u64.wrap ((q:Int)-1)) (IntKind.u64.wrap (IntKind.u64.wrap (IntKind.u64.wrap (IntKind.u64.wrap ((u:Int)*4294967296)+u1)-IntKind.u64.wrap (IntKind.u64.wrap ((q:Int)-1)*y))-IntKind.u64.wrap (IntKind.u64.wrap ((IntKind.u64.wrap (IntKind.u64.wrap (IntKind.u64.wrap ((u:Int)*4294967296)+u1)-IntKind.u64.wrap (IntKind.u64.wrap ((q:Int)-1)*y))).tdiv y1)*y1))) (IntKind.u64.wrap (IntKind.u64.wrap (IntKind.u64.wrap ((u:Int)*4294967296)+u1)-IntKind.u64.wrap (IntKind.u64.wrap ((q:Int)-1)*y))) (IntKind.u64.wrap ((IntKind.u64.wrap (IntKind.u64.wrap (IntKind.u64.wrap ((u:Int)*4294967296)+u1)-IntKind.u64.wrap (IntKind.u64.wrap ((q:Int)-1)*y))).tdiv y1))) none)
    (L98_17 k y s y1 y0 u u1 u0 (IntKind.u64.wrap ((q:Int)-1)) (IntKind.u64.wrap ((r:Int)+y1)))=L98_24 k' y s y1 y0 u0 (((u*4294967296+u1) / y:Nat):Int) (((u*4294967296+u1) % y % y1:Nat):Int) (((u*4294967296+u1) % y:Nat):Int) (((u*4294967296+u1) % y / y1:Nat):Int):=by
   intro hgt
   have hqp:0<q:=Nat.lt_of_le_of_lt (Nat.zero_le _) hgt
   have hq1:(q-1)*y1+(r+y1)=u:=by
    have:q*y1=(q-1)*y1+y1:=by rw [← Nat.succ_mul];congr 1;omega
    omega
   have hqb:q<18446744073709551616*18446744073709551616:=by
    have:q*1≤q*y1:=Nat.mul_le_mul_left _ (by omega)
    omega
   have f4:IntKind.u64.wrap ((q:Int)-1)=((q-1:Nat):Int):=by
    rw [wrapN]
    have:q*1≤q*y1:=Nat.mul_le_mul_left _ (by omega)
    omega
   rw [hne,f3]
   by_cases hb:4294967296≤r+y1
   ·rw [decide_eq_true (show ((r+y1:Nat):Int) ≥ 4294967296 by omega),bsel_true,bsel_true]
    refine fin _ ?_
    rw [f4]
    have:=est_le (u1:=u1) hy hy0 hq1 (est_break hy h0 hq1 hu hb)
    congr 1
    omega
   ·rw [decide_eq_false (show ¬ ((r+y1:Nat):Int) ≥ 4294967296 by omega),bsel_false,f4]
    exact est_loop1 hy h0 hy1 hy1' hu hu1 j k (q-1) (r+y1) hq1 (by omega) (by omega) (by omega) (by omega)
  rw [L98_17]
  unfold T98_17
  by_cases hc:4294967296≤q
  ·rw [decide_eq_true (show (q:Int) ≥ 4294967296 by omega),show (true==false)=false from rfl,bsel_false]
   exact dec (est_gt hy hq hu hu1 (.inl hc))
  ·rw [decide_eq_false (show ¬ (q:Int) ≥ 4294967296 by omega),show (false==false)=true from rfl,bsel_true]
   have hqy:q*y0≤4294967296*4294967296:=Nat.mul_le_mul (by omega) (by omega)
   have hqy':q*y0<18446744073709551616:=by
    rcases Nat.eq_zero_or_pos y0 with h | h
    ·rw [h];omega
    ·have:=Nat.mul_lt_mul_of_lt_of_le (show q<4294967296 by omega) (Nat.le_of_lt h0) (by omega)
     omega
   rw [wmul,Nat.mod_eq_of_lt hqy',show IntKind.u64.wrap (IntKind.u64.wrap (4294967296*(r:Int))+u1)=((4294967296*r+u1:Nat):Int) by simp only [wrapN];omega]
   by_cases hd:4294967296*r+u1<q*y0
   ·rw [decide_eq_true (show ((q*y0:Nat):Int) > ((4294967296*r+u1:Nat):Int) by omega),bsel_true]
    exact dec (est_gt hy hq hu hu1 (.inr hd))
   ·rw [decide_eq_false (show ¬ ((q*y0:Nat):Int) > ((4294967296*r+u1:Nat):Int) by omega),bsel_false,hne,bsel_true]
    refine fin _ ?_
    have:=est_le (u1:=u1) hy hy0 hq (by omega)
    congr 1
    omega
theorem est_loop2 {y s y1 y0 p u0:Nat} {q:Nat} (hy:y=y1*4294967296+y0) (h0:y0<4294967296) (hy1:2147483648≤y1) (hy1':y1<4294967296) (hu:p<y) (hu1:u0<4294967296) (hs:s≤64) (hq0:q<4294967296) :
  ∀ (j k r v:Nat),r*y1+v=p→(p*4294967296+u0) / y≤r→v<4294967296→4294967296≤v+j*2147483648→j≤k →
   L98_24 k y s y1 y0 u0 q v p r=some (((q*4294967296+(p*4294967296+u0) / y:Nat):Int),(((p*4294967296+u0) % y / 2 ^ s:Nat):Int))
 | 0,k,r,v,_,_,h1,h2,_=>by omega
 | j+1,0,r,v,_,_,_,_,hk=>by omega
 | j+1,k+1,r,v,hq,hQ,hr,hj,hk=>by
  have hy0:0<y:=by omega
  have hyb:y<18446744073709551616:=by omega
  have hQC:(p*4294967296+u0) / y<4294967296:=by rw [Nat.div_lt_iff_lt_mul hy0];omega
  have es:min s IntKind.u64.bits=s:=Nat.min_eq_left hs
  have hss:decide ((0:Int)≤(s:Int))=true:=decide_eq_true (by omega)
  have fin:∀ (rI:Int),rI=(((p*4294967296+u0) / y:Nat):Int)→some (IntKind.u64.wrap (IntKind.u64.wrap ((q:Int)*4294967296)+rI),(IntKind.u64.wrap (IntKind.u64.wrap (IntKind.u64.wrap ((p:Int)*4294967296)+u0)-IntKind.u64.wrap (rI*y))).fdiv (2 ^ min (s:Int).toNat IntKind.u64.bits))=some (((q*4294967296+(p*4294967296+u0) / y:Nat):Int),(((p*4294967296+u0) % y / 2 ^ s:Nat):Int)):=by
   rintro rI rfl
   rw [p_exact hy0 hyb,Int.toNat_natCast,es,fdiv_nat]
   congr 2
   simp only [wrapN]
   clear hQ
   generalize (p*4294967296+u0) / y=Q at *
   omega
  have f3:IntKind.u64.wrap ((v:Int)+y1)=((v+y1:Nat):Int):=by rw [wrapN];omega
  have dec:(p*4294967296+u0) / y<r→bsel (decide (IntKind.u64.wrap ((v:Int)+y1) ≥ 4294967296)) (bsel (decide ((0:Int)≤(s:Int))) (some (IntKind.u64.wrap (IntKind.u64.wrap ((q:Int)*4294967296)+IntKind.u64.wrap ((r:Int)-1)),(IntKind.u64.wrap (IntKind.u64.wrap (IntKind.u64.wrap ((p:Int)*4294967296)+u0)-IntKind.u64.wrap (IntKind.u64.wrap ((r:Int)-1)*y))).fdiv (2 ^ min (s:Int).toNat IntKind.u64.bits))) none)
    (L98_24 k y s y1 y0 u0 q (IntKind.u64.wrap ((v:Int)+y1)) p (IntKind.u64.wrap ((r:Int)-1)))=some (((q*4294967296+(p*4294967296+u0) / y:Nat):Int),(((p*4294967296+u0) % y / 2 ^ s:Nat):Int)):=by
   intro hgt
   have hqp:0<r:=Nat.lt_of_le_of_lt (Nat.zero_le _) hgt
   have hq1:(r-1)*y1+(v+y1)=p:=by
    have:r*y1=(r-1)*y1+y1:=by rw [← Nat.succ_mul];congr 1;omega
    omega
   have f4:IntKind.u64.wrap ((r:Int)-1)=((r-1:Nat):Int):=by
    rw [wrapN]
    have:r*1≤r*y1:=Nat.mul_le_mul_left _ (by omega)
    omega
   rw [hss,f3,f4]
   by_cases hb:4294967296≤v+y1
   ·rw [decide_eq_true (show ((v+y1:Nat):Int) ≥ 4294967296 by omega),bsel_true,bsel_true]
    refine fin _ ?_
    have:=est_le (u1:=u0) hy hy0 hq1 (est_break hy h0 hq1 hu hb)
    congr 1
    omega
   ·rw [decide_eq_false (show ¬ ((v+y1:Nat):Int) ≥ 4294967296 by omega),bsel_false]
    exact est_loop2 hy h0 hy1 hy1' hu hu1 hs hq0 j k (r-1) (v+y1) hq1 (by omega) (by omega) (by omega) (by omega)
  rw [L98_24]
  unfold T98_24
  by_cases hc:4294967296≤r
  ·rw [decide_eq_true (show (r:Int) ≥ 4294967296 by omega),show (true==false)=false from rfl,bsel_false]
   exact dec (est_gt hy hq hu hu1 (.inl hc))
  ·rw [decide_eq_false (show ¬ (r:Int) ≥ 4294967296 by omega),show (false==false)=true from rfl,bsel_true]
   have hqy':r*y0<18446744073709551616:=by
    rcases Nat.eq_zero_or_pos y0 with h | h
    ·rw [h];omega
    ·have:=Nat.mul_lt_mul_of_lt_of_le (show r<4294967296 by omega) (Nat.le_of_lt h0) (by omega)
     omega
   rw [wmul,Nat.mod_eq_of_lt hqy',show IntKind.u64.wrap (IntKind.u64.wrap (4294967296*(v:Int))+u0)=((4294967296*v+u0:Nat):Int) by simp only [wrapN];omega]
   by_cases hd:4294967296*v+u0<r*y0
   ·rw [decide_eq_true (show ((r*y0:Nat):Int) > ((4294967296*v+u0:Nat):Int) by omega),bsel_true]
    exact dec (est_gt hy hq hu hu1 (.inr hd))
   ·rw [decide_eq_false (show ¬ ((r*y0:Nat):Int) > ((4294967296*v+u0:Nat):Int) by omega),bsel_false,hss,bsel_true]
    refine fin _ ?_
    have:=est_le (u1:=u0) hy hy0 hq (by omega)
    congr 1
    omega
theorem or_disj {a b i:Nat} (hi:i≤64) (hb:b<2 ^ i) (hab:2 ^ i*a<18446744073709551616):bitsOp .or .u64 ((2 ^ i*a:Nat):Int) (b:Int)=((2 ^ i*a+b:Nat):Int):=by
 have e64:2 ^ i*2 ^ (64-i)=18446744073709551616:=by rw [← Nat.pow_add,show i+(64-i)=64 by omega]
 have hi0:0<2 ^ i:=Nat.two_pow_pos i
 have ha:a<2 ^ (64-i):=by
  rw [← e64] at hab
  exact Nat.lt_of_mul_lt_mul_left hab
 have hs:2 ^ i*a+b<18446744073709551616:=by
  have:=Nat.mul_le_mul_left (2 ^ i) (show a+1≤2 ^ (64-i) from ha)
  rw [e64,Nat.mul_add] at this
  omega
 rw [bOr,ofInt_nat,ofInt_nat,wrapu,BitVec.toNat_or,BitVec.toNat_ofNat,BitVec.toNat_ofNat,Nat.mod_eq_of_lt (show 2 ^ i*a<2 ^ 64 from hab),Nat.mod_eq_of_lt (show b<2 ^ 64 by omega),← Nat.two_pow_add_eq_or_of_lt hb,Nat.mod_eq_of_lt hs]
theorem div_two {C M Y u u1 u0:Nat} (hY:0<Y) (hM:M=(u*C+u1)*C+u0) :
  M / Y=(u*C+u1) / Y*C+((u*C+u1) % Y*C+u0) / Y∧M % Y=((u*C+u1) % Y*C+u0) % Y:=by
 have h:=Nat.div_add_mod (u*C+u1) Y
 generalize (u*C+u1) / Y=q at *
 generalize (u*C+u1) % Y=p at *
 have e:M=(p*C+u0)+Y*(q*C):=by
  rw [hM,← h,Nat.add_mul,Nat.mul_assoc]
  omega
 rw [e,Nat.add_mul_div_left _ _ hY,Nat.add_mul_mod_self_left]
 exact ⟨by omega,rfl⟩
theorem quo_le {C u w Y Y1 Y0:Nat} (hY:Y=Y1*C+Y0) (h1:0<Y1) (hw:w<C):(u*C+w) / Y≤u / Y1:=by
 have hY0:0<Y:=by
  have:=Nat.mul_pos h1 (show 0<C by omega)
  omega
 rcases Nat.lt_or_ge (u / Y1) ((u*C+w) / Y) with h | h
 ·exfalso
  have h2:u / Y1+1≤(u*C+w) / Y:=h
  rw [Nat.le_div_iff_mul_le hY0] at h2
  have h3:(u / Y1+1)*(Y1*C)≤(u / Y1+1)*Y:=Nat.mul_le_mul_left _ (by omega)
  have h4:u+1≤(u / Y1+1)*Y1:=by
   have e:=Nat.div_add_mod' u Y1
   have e2:=Nat.mod_lt u h1
   rw [Nat.add_mul]
   omega
  have h5:=Nat.mul_le_mul_right C h4
  rw [Nat.mul_assoc,Nat.add_mul] at h5
  omega
 ·exact h
theorem pow_cast (s:Nat):((2:Int) ^ s)=((2 ^ s:Nat):Int):=by simp
theorem wshl {x s:Nat}:IntKind.u64.wrap ((x:Int)*2 ^ s)=((x*2 ^ s % 18446744073709551616:Nat):Int):=by
 rw [pow_cast,← Int.natCast_mul,wrapN]
 omega
theorem div64_law {h l y:Nat} (hh:h<y) (hy:y<18446744073709551616) (hl:l<18446744073709551616):G98 20 h l y=some ((((h*18446744073709551616+l) / y:Nat):Int),(((h*18446744073709551616+l) % y:Nat):Int)):=by
 have hne:((y:Int) != 0)=true:=by simp only [bne_iff_ne,ne_eq];omega
 have heq:((y:Int)==0)=false:=by simp only [beq_eq_false_iff_ne,ne_eq];omega
 unfold G98 T98
 rw [heq,bsel_false,decide_eq_false (show ¬ (y:Int)≤h by omega),bsel_false]
 by_cases h0:h=0
 ·subst h0
  rw [show (((0:Nat):Int)==0)=true from rfl,bsel_true,hne,bsel_true,bsel_true,wdiv hl,show (l:Int).tmod y=((l % y:Nat):Int) from rfl]
  simp only [Nat.zero_mul,Nat.zero_add]
 ·have hh0:((h:Int)==0)=false:=by simp only [beq_eq_false_iff_ne,ne_eq];omega
  have b1:=bitLen_le64 hy
  have b2:2≤bitLen y:=by
   rcases Nat.lt_or_ge (bitLen y) 2 with hb | hb
   ·have:=(bitLen_le (n:=y) (j:=1)).1 (by omega)
    omega
   ·exact hb
  obtain ⟨s,hs⟩:∃ s:Nat,s+bitLen y=64:=⟨64-bitLen y,by omega⟩
  have u1:y<2 ^ bitLen y:=bitLen_le.1 (Nat.le_refl _)
  have u2:2 ^ (bitLen y-1)≤y:=by
   rcases Nat.lt_or_ge y (2 ^ (bitLen y-1)) with hb | hb
   ·have:=bitLen_le.2 hb
    omega
   ·exact hb
  have hs0:0<2 ^ s:=Nat.two_pow_pos s
  have e1:2 ^ bitLen y*2 ^ s=18446744073709551616:=by rw [← Nat.pow_add,show bitLen y+s=64 by omega]
  have e2:2 ^ (bitLen y-1)*2 ^ s=9223372036854775808:=by rw [← Nat.pow_add,show bitLen y-1+s=63 by omega]
  have Y1:y*2 ^ s<18446744073709551616:=by rw [← e1];exact Nat.mul_lt_mul_of_pos_right u1 hs0
  have Y2:9223372036854775808≤y*2 ^ s:=by rw [← e2];exact Nat.mul_le_mul_right _ u2
  have H1:h*2 ^ s<y*2 ^ s:=Nat.mul_lt_mul_of_pos_right hh hs0
  have es:IntKind.u64.wrap (lzV (y:Int).toNat)=(s:Int):=by
   unfold lzV
   rw [Int.toNat_natCast,wrapN]
   omega
  have et:IntKind.u64.wrap (64-(s:Int))=((64-s:Nat):Int):=by rw [wrapN];omega
  have m1:min (s:Int).toNat IntKind.u64.bits=s:=by rw [Int.toNat_natCast];exact Nat.min_eq_left (by show s≤64;omega)
  have m2:min ((64-s:Nat):Int).toNat IntKind.u64.bits=64-s:=by rw [Int.toNat_natCast];exact Nat.min_eq_left (by show 64-s≤64;omega)
  have e3:2 ^ s*2 ^ (64-s)=18446744073709551616:=by rw [← Nat.pow_add,show s+(64-s)=64 by omega]
  have hl1:l / 2 ^ (64-s)<2 ^ s:=by
   rw [Nat.div_lt_iff_lt_mul (Nat.two_pow_pos _),e3]
   exact hl
  have un:bitsOp .or .u64 ((h*2 ^ s:Nat):Int) ((l / 2 ^ (64-s):Nat):Int)=((h*2 ^ s+l / 2 ^ (64-s):Nat):Int):=by
   rw [Nat.mul_comm h]
   exact or_disj (by omega) hl1 (by rw [Nat.mul_comm];omega)
  rw [hh0,bsel_false,show isWd (y:Int)=true from isWd_iff.2 (by omega),bsel_true,es,et,m1,m2,decide_eq_true (show (0:Int)≤(s:Int) by omega),decide_eq_true (show (0:Int)≤((64-s:Nat):Int) by omega),fdiv_nat]
  simp only [bsel_true]
  rw [wshl,wshl,wshl,Nat.mod_eq_of_lt Y1,Nat.mod_eq_of_lt (show h*2 ^ s<18446744073709551616 by omega),un]
  rw [shr32,shr32,and32 Y1,and32 (Nat.mod_lt _ (by omega))]
  have hun:h*2 ^ s+l / 2 ^ (64-s)<y*2 ^ s:=by
   have:=Nat.mul_le_mul_right (2 ^ s) (show h+1≤y from hh)
   rw [Nat.add_mul] at this
   omega
  have hN:(h*18446744073709551616+l)*2 ^ s=(h*2 ^ s+l / 2 ^ (64-s))*18446744073709551616+l*2 ^ s % 18446744073709551616:=by
   have d1:=Nat.div_add_mod (l*2 ^ s) 18446744073709551616
   have d2:l*2 ^ s / 18446744073709551616=l / 2 ^ (64-s):=by
    rw [← e3,Nat.mul_comm l,Nat.mul_div_mul_left _ _ hs0]
   rw [d2] at d1
   rw [Nat.add_mul,Nat.add_mul,Nat.mul_right_comm h 18446744073709551616]
   omega
  have hl':l*2 ^ s % 18446744073709551616<18446744073709551616:=Nat.mod_lt _ (by omega)
  have q1:(h*18446744073709551616+l)*2 ^ s / (y*2 ^ s)=(h*18446744073709551616+l) / y:=Nat.mul_div_mul_right _ _ hs0
  have q2:(h*18446744073709551616+l)*2 ^ s % (y*2 ^ s)=(h*18446744073709551616+l) % y*2 ^ s:=Nat.mul_mod_mul_right _ _ _
  have q3:(h*18446744073709551616+l) % y*2 ^ s / 2 ^ s=(h*18446744073709551616+l) % y:=Nat.mul_div_cancel _ hs0
  generalize h*2 ^ s+l / 2 ^ (64-s)=u at *
  generalize l*2 ^ s % 18446744073709551616=w at *
  generalize y*2 ^ s=Y at *
  have hy1:((((Y / 4294967296:Nat)):Int) != 0)=true:=by simp only [bne_iff_ne,ne_eq];omega
  rw [hy1,bsel_true,wdiv (by omega),vv (by omega)]
  have hMw:(h*18446744073709551616+l)*2 ^ s=(u*4294967296+w / 4294967296)*4294967296+w % 4294967296:=by
   rw [hN]
   omega
  obtain ⟨dv,md⟩:=div_two (C:=4294967296) (Y:=Y) (u:=u) (u1:=w / 4294967296) (u0:=w % 4294967296) (by omega) hMw
  have hq:=Nat.div_add_mod' u (Y / 4294967296)
  have hr:u % (Y / 4294967296)<Y / 4294967296:=Nat.mod_lt _ (by omega)
  obtain ⟨k',hk',e⟩:=est_loop1 (y:=Y) (s:=s) (y1:=Y / 4294967296) (y0:=Y % 4294967296) (u:=u) (u1:=w / 4294967296) (u0:=w % 4294967296) (by omega) (Nat.mod_lt _ (by omega)) (by omega) (by omega) hun (by omega) 2 20 (u / (Y / 4294967296)) (u % (Y / 4294967296)) hq (quo_le (Y0:=Y % 4294967296) (by omega) (by omega) (by omega)) (by omega) (by omega) (by omega)
  rw [e]
  have hp:(u*4294967296+w / 4294967296) % Y<Y:=Nat.mod_lt _ (by omega)
  have hQ:(u*4294967296+w / 4294967296) / Y<4294967296:=by rw [Nat.div_lt_iff_lt_mul (by omega)];omega
  rw [est_loop2 (y:=Y) (s:=s) (y1:=Y / 4294967296) (y0:=Y % 4294967296) (p:=(u*4294967296+w / 4294967296) % Y) (u0:=w % 4294967296) (by omega) (Nat.mod_lt _ (by omega)) (by omega) (by omega) hp (Nat.mod_lt _ (by omega)) (by omega) hQ 2 k' ((u*4294967296+w / 4294967296) % Y / (Y / 4294967296)) ((u*4294967296+w / 4294967296) % Y % (Y / 4294967296)) (Nat.div_add_mod' _ _) (quo_le (Y0:=Y % 4294967296) (by omega) (by omega) (Nat.mod_lt _ (by omega))) (Nat.lt_of_lt_of_le (Nat.mod_lt _ (by omega)) (by omega)) (by omega) (by omega)]
  rw [← dv,← md,q1,q2,q3]
def isDiv (h l y:Int):Bool:=isWd h&&isWd l&&isWd y&&decide (h<y)
theorem isDiv_iff {h l y:Int}:isDiv h l y=true ↔ (0≤h∧h<18446744073709551616)∧(0≤l∧l<18446744073709551616)∧(0≤y∧y<18446744073709551616)∧h<y:=by
 simp only [isDiv,Bool.and_eq_true,isWd_iff,decide_eq_true_eq,and_assoc]
def preDiv64:List F→Bool | [.int .u64 h,.int .u64 l,.int .u64 y]=>isDiv h l y | _=>false
def divQ (h l y:Int):Int:=(h*18446744073709551616+l) / y
def divR (h l y:Int):Int:=(h*18446744073709551616+l) % y
def resDiv64:List F→F | [.int .u64 h,.int .u64 l,.int .u64 y]=>.tup [.int .u64 (divQ h l y),.int .u64 (divR h l y)] | _=>.dflt
theorem divQ_nat (h l y:Nat):divQ h l y=(((h*18446744073709551616+l) / y:Nat):Int):=by rw [Int.natCast_ediv,Int.natCast_add,Int.natCast_mul];rfl
theorem divR_nat (h l y:Nat):divR h l y=(((h*18446744073709551616+l) % y:Nat):Int):=by rw [Int.natCast_emod,Int.natCast_add,Int.natCast_mul];rfl
theorem okDiv64:PureOK Tryz.prog 98 preDiv64 resDiv64 :=
 fn_pure (c:=bodyOf Tryz.f98) Tryz.func98 (by kernel_rfl) (by kernel_rfl) fun xs hp=>match xs,hp with
 | [.int .u64 h,.int .u64 l,.int .u64 y],hp=>by
  obtain ⟨⟨h0,h1⟩,⟨l0,l1⟩,⟨y0,y1⟩,hy⟩:=isDiv_iff.1 hp
  obtain ⟨h,rfl⟩:=Int.eq_ofNat_of_zero_le h0
  obtain ⟨l,rfl⟩:=Int.eq_ofNat_of_zero_le l0
  obtain ⟨y,rfl⟩:=Int.eq_ofNat_of_zero_le y0
  have e:=div64_law (h:=h) (l:=l) (y:=y) (by omega) (by omega) (by omega)
  rw [← divQ_nat,← divR_nat] at e
  exact t98 20 h l y _ _ e
def envN12:Env:=envN11.add 98 (.pure preDiv64 resDiv64)
theorem envN12_ok:EnvOK Tryz.prog envN12:=(Env.add_ok envN11_ok okDiv64.sp)
end
noncomputable section
def u32F (n:Nat):F:=.int .u32 (n:Int)
def isW32:F→Bool | .int .u32 n=>decide (0≤n)&&decide (n<4294967296) | _=>false
def unW32:F→Nat | .int .u32 n=>n.toNat | _=>0
theorem w32_eq {x:F} (h:isW32 x=true):u32F (unW32 x)=x:=by
 unfold isW32 at h
 split at h
 ·simp only [Bool.and_eq_true,decide_eq_true_eq] at h
  simp only [u32F,unW32]
  rw [Int.toNat_of_nonneg h.1]
 ·cases h
def halvesF (l:List Nat):F:=slF u32F 0 l
def isHalves (x:F):Bool:=isSl isW32 x
def unHalves (x:F):List Nat:=unSl unW32 x
theorem unHalves_halvesF (l:List Nat):unHalves (halvesF l)=l:=unSl_slF (fun n=>by simp [unW32,u32F]) l
theorem isHalves_halvesF {l:List Nat} (h:okD 4294967296 l):isHalves (halvesF l)=true:=isSl_slF l fun n hn=>by
 have:=h n hn
 simp only [isW32,u32F,Bool.and_eq_true,decide_eq_true_eq]
 omega
theorem halves_eqv {x:F} (hx:isHalves x=true):FLe x (halvesF (unHalves x))∧FLe (halvesF (unHalves x)) x:=slF_eqv (fun _ h=>w32_eq h) hx
theorem okD_unHalves {x:F} (hx:isHalves x=true):okD 4294967296 (unHalves x):=by
 cases x with
 | sl n g =>
  simp only [isHalves,isSl,List.all_eq_true,List.mem_range] at hx
  intro w hw
  simp only [unHalves,unSl,List.mem_map,List.mem_range] at hw
  obtain ⟨i,hi,rfl⟩:=hw
  have h:=hx i hi
  unfold isW32 at h
  split at h
  ·rename_i n' he
   simp only [Bool.and_eq_true,decide_eq_true_eq] at h
   rw [he]
   simp only [unW32]
   omega
  ·cases h
 | _=>simp [isHalves,isSl] at hx
def l1nF (z:Int):F:=.agg [.bool (decide (z<0)),halvesF (digs 4294967296 z.natAbs)]
theorem unW32_u32F (n:Nat):unW32 (u32F n)=n:=by simp [unW32,u32F]
theorem unHalves_read {m:Nat} {g:Nat→F} {l:List Nat} (hl:l.length=m) (hg:∀ j,j<m→g j=u32F (l.getD j 0)):unHalves (.sl m g)=l :=
 range_read hl fun j hj=>by rw [hg j hj,unW32_u32F]
theorem isHalves_read {m:Nat} {g:Nat→F} {l:List Nat} (hl:l.length=m) (hg:∀ j,j<m→g j=u32F (l.getD j 0)) (ho:okD 4294967296 l):isHalves (.sl m g)=true:=by
 simp only [isHalves,isSl,List.all_eq_true,List.mem_range]
 intro j hj
 rw [hg j hj]
 have:=getD_lt ho (show j<l.length by omega)
 simp only [isW32,u32F,Bool.and_eq_true,decide_eq_true_eq]
 omega
theorem u32_cells (n:Nat):(u32F n).cells.length=1:=rfl
theorem lenOkH_iff {n:Nat} {x:F} (hx:isHalves x=true) (h:lenOk n x=true):(unHalves x).length≤n:=by
 cases x with
 | sl m g=>simpa [unHalves,unSl,lenOk] using h
 | _=>simp [isHalves,isSl] at hx
theorem lenOk_halvesF {n:Nat} {l:List Nat}:lenOk n (halvesF l)=Nat.ble l.length n:=rfl
theorem digsH_nil {n:Nat}:digs 4294967296 n=[] ↔ n=0:=by
 constructor
 ·intro h
  have:=val_digs (B:=4294967296) (by omega) n
  rw [h] at this
  exact this.symm
 ·rintro rfl;exact digs_zero _
theorem digsH_len_pos {n:Nat}:((digs 4294967296 n).length:Int) > 0 ↔ n ≠ 0:=by
 rw [ne_eq,← digsH_nil,← List.length_eq_zero_iff]
 omega
def isL1n (n:Nat):F→Bool | .agg [.bool s,x]=>isHalves x&&lenOk n x&&(trimOk (unHalves x)&&(!s || !lenOk 0 x)) | _=>false
def unL1n:F→Int | .agg [.bool s,x]=>sgn s (val 4294967296 (unHalves x)) | _=>0
theorem digs_halves {x:F} (hx:isHalves x=true) (ht:trimD (unHalves x)):digs 4294967296 (val 4294967296 (unHalves x))=unHalves x:=digs_val (by omega) (okD_unHalves hx) ht
theorem digsH_len {n k:Nat} (h:n<4294967296 ^ k):(digs 4294967296 n).length≤k:=by
 rcases Nat.lt_or_ge k (digs 4294967296 n).length with hk | hk
 ·exfalso
  have h1:=val_longer (B:=4294967296) (a:=List.replicate k (4294967296-1)) (b:=digs 4294967296 n) (by omega) (fun w hw=>by have:=(List.mem_replicate.1 hw).2;omega) (trimD_digs (by omega) n) (by simpa using hk)
  have h2:∀ k:Nat,val 4294967296 (List.replicate k (4294967296-1))+1=4294967296 ^ k:=by
   intro k
   induction k with
   | zero=>rfl
   | succ k ih =>
    simp only [List.replicate_succ,val,Nat.pow_succ,← ih]
    omega
  rw [val_digs (by omega)] at h1
  have:=h2 k
  omega
 ·exact hk
theorem lenOkH_zero {x:F} (hx:isHalves x=true):lenOk 0 x=true ↔ unHalves x=[]:=by
 cases x with
 | sl m g=>simp [lenOk,unHalves,unSl]
 | _=>simp [isHalves,isSl] at hx
theorem l1n_form {n:Nat} {x:F} (h:isL1n n x=true):∃ s y,x=.agg [.bool s,y]∧isHalves y=true∧l1nF (unL1n x)=.agg [.bool s,halvesF (unHalves y)]:=by
 unfold isL1n at h
 split at h
 ·rename_i s y
  simp only [Bool.and_eq_true,trimOk_iff] at h
  obtain ⟨⟨hy,hl⟩,ht,hs⟩:=h
  have e:l1nF (unL1n (.agg [.bool s,y]))=.agg [.bool s,halvesF (unHalves y)]:=by
   rw [show unL1n (.agg [.bool s,y])=sgn s (val 4294967296 (unHalves y)) from rfl]
   unfold l1nF
   rw [sgn_natAbs,sgn_neg,digs_halves hy ht]
   congr 2
   cases s with
   | false=>rfl
   | true =>
    simp only [Bool.not_true,Bool.false_or,Bool.not_eq_true'] at hs
    have:unHalves y ≠ []:=fun e=>by rw [(lenOkH_zero hy).2 e] at hs;cases hs
    have:=val_pos (B:=4294967296) (by omega) _ ht this
    rw [Bool.true_and]
    congr 1
    exact decide_eq_true (by omega)
  exact ⟨s,y,rfl,hy,e⟩
 ·cases h
theorem l1n_eqv {n:Nat} {x:F} (h:isL1n n x=true):FLe x (l1nF (unL1n x))∧FLe (l1nF (unL1n x)) x:=by
 obtain ⟨s,y,hx,hy,e⟩:=l1n_form h
 rw [e,hx]
 exact ⟨FLe.agg ⟨.refl _,(halves_eqv hy).1,trivial⟩,FLe.agg ⟨.refl _,(halves_eqv hy).2,trivial⟩⟩
theorem unL1n_l1nF (z:Int):unL1n (l1nF z)=z:=by
 simp only [unL1n,l1nF,unHalves_halvesF,val_digs (show 1<4294967296 by omega),sgn_sign]
theorem isL1n_l1nF {n:Nat} {z:Int} (h:z.natAbs<4294967296 ^ n):isL1n n (l1nF z)=true:=by
 simp only [isL1n,l1nF,lenOk_halvesF,isHalves_halvesF (okD_digs (B:=4294967296) (by omega) _),unHalves_halvesF,Bool.and_eq_true,trimOk_iff]
 refine ⟨⟨trivial,?_⟩,trimD_digs (by omega) _,?_⟩
 ·rw [Nat.ble_eq];exact digsH_len h
 ·by_cases h0:z<0
  ·have:(digs 4294967296 z.natAbs).length ≠ 0:=fun e=>by
    have:=digsH_nil.1 (List.length_eq_zero_iff.1 e)
    omega
   cases hb:Nat.ble (digs 4294967296 z.natAbs).length 0 with
   | false=>simp
   | true=>rw [Nat.ble_eq] at hb;omega
  ·simp [h0]
theorem natAbs_of_isL1n {n:Nat} {x:F} (h:isL1n n x=true):(unL1n x).natAbs<4294967296 ^ n:=by
 unfold isL1n at h
 split at h
 ·rename_i s y
  simp only [Bool.and_eq_true] at h
  obtain ⟨⟨hy,hl⟩,_⟩:=h
  simp only [unL1n,sgn_natAbs]
  exact Nat.lt_of_lt_of_le (val_lt _ (okD_unHalves hy)) (Nat.pow_le_pow_right (by omega) (lenOkH_iff hy hl))
 ·cases h
def preL1 (n:Nat):List F→Bool | [x]=>isL1n n x | _=>false
def preL2 (n:Nat):List F→Bool | [x,y]=>isL1n n x&&isL1n n y | _=>false
theorem isHalves_digs (n:Nat):isHalves (halvesF (digs 4294967296 n))=true:=isHalves_halvesF (okD_digs (by omega) n)
theorem unHalves_digs (n:Nat):unHalves (halvesF (digs 4294967296 n))=digs 4294967296 n:=unHalves_halvesF _
theorem val_digsH (n:Nat):val 4294967296 (digs 4294967296 n)=n:=val_digs (by omega) n
theorem lenOkH_digs {n k j:Nat} (h:n<4294967296 ^ j) (hk:j≤k):lenOk k (halvesF (digs 4294967296 n))=true:=by
 rw [lenOk_halvesF,Nat.ble_eq];exact Nat.le_trans (digsH_len h) hk
theorem l1nF_sgn (s:Bool) (n:Nat):l1nF (sgn s n)=.agg [.bool (s&&decide (n ≠ 0)),halvesF (digs 4294967296 n)]:=by
 unfold l1nF
 rw [sgn_natAbs,sgn_neg]
theorem preL2_iff {n:Nat} {x y:F} (h:preL2 n [x,y]=true):isL1n n x=true∧isL1n n y=true:=by simpa [preL2] using h
theorem halves_set {m p v:Nat} {g:Nat→F} {o:List Nat} (ho:o.length=m) (hp:p<m) (hg:∀ j,j<m→g j=u32F (o.getD j 0)) :
  ∀ j,j<m→(fun j=>if j=0+p then F.int .u32 (v:Int) else g j) j=u32F ((o.set p v).getD j 0):=by
 intro j hj
 show (if j=0+p then F.int .u32 (v:Int) else g j)=_
 by_cases h:j=0+p
 ·rw [if_pos h,h,Nat.zero_add]
  simp [List.getD,u32F,show p<o.length by omega]
 ·rw [if_neg h,hg j hj]
  simp [List.getD,List.getElem?_set,show p ≠ j by omega]
theorem cell_ofH (v:Nat):(List.drop 0 (u32F v).cells).headD F.dflt=u32F v:=rfl
theorem okV_u32 (v:Nat):(okV (Value.int IntKind.u32 0) (u32F v)&&true)=true:=rfl
theorem intOf_u32 (v:Nat):intOf (u32F v)=(v:Int):=rfl
def addR (B:Nat):List Nat→List Nat→Nat→List Nat
 | [],_,c=>if c=0 then [] else [c]
 | x :: a,b,c=>((x+b.headD 0+c) % B) :: addR B a b.tail ((x+b.headD 0+c) / B)
theorem val_addR (B:Nat):∀ (a b:List Nat) (c:Nat),b.length≤a.length→val B (addR B a b c)=val B a+val B b+c
 | [],b,c,h=>by
  have:b=[]:=List.eq_nil_of_length_eq_zero (by simpa using h)
  subst this
  by_cases hc:c=0 <;> simp [addR,val,hc]
 | x :: a,b,c,h=>by
  have ih:=val_addR B a b.tail ((x+b.headD 0+c) / B) (by simp at h ⊢;omega)
  simp only [addR,val,ih]
  have h1:=Nat.mod_add_div (x+b.headD 0+c) B
  have h2:=val_tail B b
  simp only [Nat.mul_add]
  omega
theorem okD_addR {B:Nat} (hB:1<B):∀ (a b:List Nat) (c:Nat),okD B a→okD B b→c≤1→okD B (addR B a b c)
 | [],b,c,_,_,hc=>by
  intro w hw
  by_cases h0:c=0
  ·simp [addR,h0] at hw
  ·simp [addR,h0] at hw;omega
 | x :: a,b,c,ha,hb,hc=>by
  have hx:=ha x (by simp)
  have hy:b.headD 0<B:=by
   cases b with
   | nil=>simp;omega
   | cons y b=>exact hb y (by simp)
  have ih:=okD_addR hB a b.tail ((x+b.headD 0+c) / B) (fun w hw=>ha w (by simp [hw])) (fun w hw=>hb w (List.mem_of_mem_tail hw)) (by
   have:x+b.headD 0+c<B*2:=by omega
   have:=Nat.div_lt_of_lt_mul this
   omega)
  intro w hw
  simp only [addR,List.mem_cons] at hw
  rcases hw with rfl | hw
  ·exact Nat.mod_lt _ (by omega)
  ·exact ih w hw
theorem len_addR (B:Nat):∀ (a b:List Nat) (c:Nat),(addR B a b c).length≤a.length+1
 | [],b,c=>by by_cases hc:c=0 <;> simp [addR,hc]
 | x :: a,b,c=>by
  have:=len_addR B a b.tail ((x+b.headD 0+c) / B)
  simp only [addR,List.length_cons]
  omega
theorem len_subL (B:Nat):∀ (a b:List Nat) (c:Nat),(subL B a b c).length=a.length
 | [],b,c=>rfl
 | x :: a,b,c=>by simp [subL,len_subL B a b.tail]
def sumL (a b:List Nat):List Nat:=if a.length<b.length then addR 4294967296 b a 0 else addR 4294967296 a b 0
theorem val_sumL (a b:List Nat):val 4294967296 (sumL a b)=val 4294967296 a+val 4294967296 b:=by
 unfold sumL
 by_cases h:a.length<b.length
 ·rw [if_pos h,val_addR _ _ _ _ (by omega)];omega
 ·rw [if_neg h,val_addR _ _ _ _ (by omega)];omega
theorem okD_sumL {a b:List Nat} (oa:okD 4294967296 a) (ob:okD 4294967296 b):okD 4294967296 (sumL a b):=by
 unfold sumL
 by_cases h:a.length<b.length
 ·rw [if_pos h];exact okD_addR (by omega) _ _ _ ob oa (by omega)
 ·rw [if_neg h];exact okD_addR (by omega) _ _ _ oa ob (by omega)
theorem len_sumL (a b:List Nat):(sumL a b).length≤max a.length b.length+1:=by
 unfold sumL
 by_cases h:a.length<b.length
 ·rw [if_pos h];have:=len_addR 4294967296 b a 0;omega
 ·rw [if_neg h];have:=len_addR 4294967296 a b 0;omega
end
noncomputable section
theorem digit_at {B:Nat} (hB:1<B):∀ (l:List Nat) (p:Nat),okD B l→l.getD p 0=val B l / B ^ p % B
 | [],p,_=>by simp [val]
 | x :: l,0,h=>by
  have hx:=h x (by simp)
  simp only [List.getD_cons_zero,val,Nat.pow_zero,Nat.div_one,Nat.add_mul_mod_self_left]
  exact (Nat.mod_eq_of_lt hx).symm
 | x :: l,p+1,h=>by
  have hx:=h x (by simp)
  have ih:=digit_at hB l p fun w hw=>h w (by simp [hw])
  rw [List.getD_cons_succ,ih,val,Nat.pow_succ,Nat.mul_comm (B ^ p) B,← Nat.div_div_eq_div_mul,Nat.add_mul_div_left _ _ (by omega),Nat.div_eq_of_lt hx,Nat.zero_add]
theorem two_pow_split (i:Nat):2 ^ i=4294967296 ^ (i / 32)*2 ^ (i % 32):=by
 rw [show 4294967296=2 ^ 32 from rfl,← Nat.pow_mul,← Nat.pow_add,Nat.div_add_mod]
theorem bit_free {l:List Nat} {i:Nat} (ol:okD 4294967296 l) (h:val 4294967296 l % 2 ^ (i+1)=0):∃ u,l.getD (i / 32) 0=2 ^ (i % 32+1)*u∧2 ^ (i % 32+1)*u+2 ^ (i % 32)<4294967296:=by
 have hr:i % 32<32:=Nat.mod_lt _ (by omega)
 have e32:2 ^ (i % 32+1)*2 ^ (31-i % 32)=4294967296:=by
  rw [← Nat.pow_add,show i % 32+1+(31-i % 32)=32 by omega]
 have h1:2 ^ (i+1)=4294967296 ^ (i / 32)*2 ^ (i % 32+1):=by
  rw [Nat.pow_succ,two_pow_split i,Nat.mul_assoc,← Nat.pow_succ]
 obtain ⟨t,ht⟩:=Nat.dvd_of_mod_eq_zero h
 have hC:0<4294967296 ^ (i / 32):=Nat.pow_pos (by omega)
 have hd:l.getD (i / 32) 0=2 ^ (i % 32+1)*(t % 2 ^ (31-i % 32)):=by
  rw [digit_at (by omega) l _ ol,ht,h1,Nat.mul_assoc,Nat.mul_div_cancel_left _ hC]
  conv=>lhs;rw [← e32]
  rw [Nat.mul_mod_mul_left]
 refine ⟨t % 2 ^ (31-i % 32),hd,?_⟩
 have hu:t % 2 ^ (31-i % 32)<2 ^ (31-i % 32):=Nat.mod_lt _ (Nat.two_pow_pos _)
 have h2:=Nat.mul_le_mul_left (2 ^ (i % 32+1)) (show t % 2 ^ (31-i % 32)+1≤2 ^ (31-i % 32) from hu)
 rw [e32,Nat.mul_add] at h2
 have h3:2 ^ (i % 32)<2 ^ (i % 32+1):=by
  rw [Nat.pow_succ]
  have:=Nat.two_pow_pos (i % 32)
  omega
 omega
theorem bit_set {l:List Nat} {i:Nat} (ol:okD 4294967296 l) (hi:i / 32<l.length) (h:val 4294967296 l % 2 ^ (i+1)=0) :
  (l.getD (i / 32) 0 ||| 2 ^ (i % 32))<4294967296∧val 4294967296 (l.set (i / 32) (l.getD (i / 32) 0 ||| 2 ^ (i % 32)))=val 4294967296 l+2 ^ i:=by
 obtain ⟨u,hu,hlt⟩:=bit_free ol h
 have h3:2 ^ (i % 32)<2 ^ (i % 32+1):=by
  rw [Nat.pow_succ]
  have:=Nat.two_pow_pos (i % 32)
  omega
 have he:(l.getD (i / 32) 0 ||| 2 ^ (i % 32))=l.getD (i / 32) 0+2 ^ (i % 32):=by
  rw [hu,← Nat.two_pow_add_eq_or_of_lt h3]
 rw [he]
 refine ⟨by rw [hu];exact hlt,?_⟩
 have hs:=val_set 4294967296 l (i / 32) (l.getD (i / 32) 0+2 ^ (i % 32)) hi
 rw [Nat.mul_add,← two_pow_split i] at hs
 omega
structure DivInv (a b i rest Q:Nat):Prop where
 eq:a=rest+b*Q
 lt:rest<b*2 ^ i
 dvd:Q % 2 ^ i=0
theorem DivInv.take {a b i rest Q:Nat} (h:DivInv a b (i+1) rest Q) (hs:b*2 ^ i≤rest):DivInv a b i (rest-b*2 ^ i) (Q+2 ^ i):=by
 obtain ⟨h1,h2⟩:=bit_take h.eq h.lt hs
 refine ⟨h1,h2,?_⟩
 have h3:=h.dvd
 obtain ⟨t,ht⟩:=Nat.dvd_of_mod_eq_zero h3
 rw [ht,Nat.pow_succ,Nat.mul_assoc,← Nat.mul_add_one,Nat.mul_mod_right]
theorem DivInv.skip {a b i rest Q:Nat} (h:DivInv a b (i+1) rest Q) (hs:rest<b*2 ^ i):DivInv a b i rest Q:=by
 refine ⟨h.eq,hs,?_⟩
 obtain ⟨t,ht⟩:=Nat.dvd_of_mod_eq_zero h.dvd
 rw [ht,Nat.pow_succ,Nat.mul_assoc,Nat.mul_mod_right]
theorem DivInv.done {a b rest Q:Nat} (h:DivInv a b 0 rest Q):Q=a / b∧rest=a % b:=by
 have h1:=h.eq
 have h2:=h.lt
 rw [Nat.pow_zero,Nat.mul_one] at h2
 refine div_unique ?_ h2
 rw [h1,Nat.mul_comm];omega
theorem DivInv.start {a b i:Nat} (h:a<b*2 ^ i):DivInv a b i a 0:=⟨by simp,h,Nat.zero_mod _⟩
end
/-! ### function 52 -/
def T52 {ρ:Type} (ret:(Bool)→Option ρ) (a0:Int) (a1:Int) (a2:Int):Option ρ :=
 (bsel (decide (a0 ≥ a1)==true)
 (ret (decide (a0≤a2)))
 (ret (false)))
def G52 (a0:Int) (a1:Int) (a2:Int):Option (Bool):=T52 some a0 a1 a2
theorem t52 (a0:Int) (a1:Int) (a2:Int) (r:Bool) (h:G52 a0 a1 a2=some r):Ends Tryz.prog Tryz.f52.results.toList [.code (bodyOf Tryz.f52)] (start Tryz.f52.ntmps ([F.int .i64 a0,F.int .i64 a1,F.int .i64 a2].map .f)) (F.bool r):=by
 refine Ends.of_run tyOK env0_ok (T:=[]) (n:=200) ?_
 refine gE (Y:=T52 (fun r=>some (.ret (F.bool r))) a0 a1 a2) (by kernel_rfl) ?_
 exact (gS h (fun _ h=>gR (by cases h;rfl)) (fun _ h=>gR (by cases h;rfl)))
/-! ### function 24 -/
def T24 {ρ:Type} (ret:(Bool)→Option ρ) (a0:Int) (a1:Int) (a2:Int):Option ρ :=
 (bsel (decide (a1≤a0)==true)
 (ret (decide (a0≤a2)))
 (ret (false)))
def G24 (a0:Int) (a1:Int) (a2:Int):Option (Bool):=T24 some a0 a1 a2
theorem t24 (a0:Int) (a1:Int) (a2:Int) (r:Bool) (h:G24 a0 a1 a2=some r):Ends Tryz.prog Tryz.f24.results.toList [.code (bodyOf Tryz.f24)] (start Tryz.f24.ntmps ([F.int .i64 a0,F.int .i64 a1,F.int .i64 a2].map .f)) (F.bool r):=by
 refine Ends.of_run tyOK env0_ok (T:=[]) (n:=200) ?_
 refine gE (Y:=T24 (fun r=>some (.ret (F.bool r))) a0 a1 a2) (by kernel_rfl) ?_
 exact (gS h (fun _ h=>gR (by cases h;rfl)) (fun _ h=>gR (by cases h;rfl)))
/-! ### function 54 -/
def T54 {ρ:Type} (ret:(Bool)→Option ρ) (x0:Int) (y0:Int) (x1:Int) (y1:Int):Option ρ :=
 (bsel (decide (x0<x1)==false)
 (bsel ((x0==x1)==true)
 (ret (decide (y0<y1)))
 (ret (false)))
 (ret (true)))
def G54 (x0:Int) (y0:Int) (x1:Int) (y1:Int):Option (Bool):=T54 some x0 y0 x1 y1
theorem t54 (x0:Int) (y0:Int) (x1:Int) (y1:Int) (r:Bool) (h:G54 x0 y0 x1 y1=some r):Ends Tryz.prog Tryz.f54.results.toList [.code (bodyOf Tryz.f54)] (start Tryz.f54.ntmps ([F.agg [F.int .i64 x0,F.int .i64 y0],F.agg [F.int .i64 x1,F.int .i64 y1]].map .f)) (F.bool r):=by
 refine Ends.of_run tyOK env0_ok (T:=[]) (n:=200) ?_
 refine gE (Y:=T54 (fun r=>some (.ret (F.bool r))) x0 y0 x1 y1) (by kernel_rfl) ?_
 exact (gS h (fun _ h=>(gS h (fun _ h=>gR (by cases h;rfl)) (fun _ h=>gR (by cases h;rfl)))) (fun _ h=>gR (by cases h;rfl)))
/-! ### function 46 -/
def T46 {ρ:Type} (ret:(Int)→Option ρ) (x0:Int) (y0:Int) (x1:Int) (y1:Int):Option ρ :=
 (bsel (x0==x1&&(y0==y1&&true))
 (ret (0))
 (bsel (decide (x0<x1)==false)
 (bsel ((x0==x1)==true)
 (bsel (decide (y0<y1))
 (ret (-1))
 (ret (1)))
 (ret (1)))
 (ret (-1))))
def G46 (x0:Int) (y0:Int) (x1:Int) (y1:Int):Option (Int):=T46 some x0 y0 x1 y1
theorem t46 (x0:Int) (y0:Int) (x1:Int) (y1:Int) (r:Int) (h:G46 x0 y0 x1 y1=some r):Ends Tryz.prog Tryz.f46.results.toList [.code (bodyOf Tryz.f46)] (start Tryz.f46.ntmps ([F.agg [F.int .i64 x0,F.int .i64 y0],F.agg [F.int .i64 x1,F.int .i64 y1]].map .f)) (F.int .i64 r):=by
 refine Ends.of_run tyOK env0_ok (T:=[]) (n:=200) ?_
 refine gE (Y:=T46 (fun r=>some (.ret (F.int .i64 r))) x0 y0 x1 y1) (by kernel_rfl) ?_
 exact (gS h (fun _ h=>gR (by cases h;rfl)) (fun _ h=>(gS h (fun _ h=>(gS h (fun _ h=>(gS h (fun _ h=>gR (by cases h;rfl)) (fun _ h=>gR (by cases h;rfl)))) (fun _ h=>gR (by cases h;rfl)))) (fun _ h=>gR (by cases h;rfl)))))
/-! ### function 47 -/
def T47 {ρ:Type} (ret:(Int)→Option ρ) (a0:Int):Option ρ :=
 (bsel (decide (a0<0))
 (ret (-1))
 (bsel (decide (a0 > 0))
 (ret (1))
 (ret (0))))
def G47 (a0:Int):Option (Int):=T47 some a0
theorem t47 (a0:Int) (r:Int) (h:G47 a0=some r):Ends Tryz.prog Tryz.f47.results.toList [.code (bodyOf Tryz.f47)] (start Tryz.f47.ntmps ([F.int .i64 a0].map .f)) (F.int .i64 r):=by
 refine Ends.of_run tyOK env0_ok (T:=[]) (n:=200) ?_
 refine gE (Y:=T47 (fun r=>some (.ret (F.int .i64 r))) a0) (by kernel_rfl) ?_
 exact (gS h (fun _ h=>gR (by cases h;rfl)) (fun _ h=>(gS h (fun _ h=>gR (by cases h;rfl)) (fun _ h=>gR (by cases h;rfl)))))
/-! ### function 45 -/
def T45 {ρ:Type} (ret:(Int)→Option ρ) (x0:Int) (y0:Int) (x1:Int) (y1:Int) (x2:Int) (y2:Int):Option ρ :=
 (ret (IntKind.i64.wrap (IntKind.i64.wrap (IntKind.i64.wrap (x1-x0)*IntKind.i64.wrap (y2-y0))-IntKind.i64.wrap (IntKind.i64.wrap (y1-y0)*IntKind.i64.wrap (x2-x0)))))
def G45 (x0:Int) (y0:Int) (x1:Int) (y1:Int) (x2:Int) (y2:Int):Option (Int):=T45 some x0 y0 x1 y1 x2 y2
theorem t45 (x0:Int) (y0:Int) (x1:Int) (y1:Int) (x2:Int) (y2:Int) (r:Int) (h:G45 x0 y0 x1 y1 x2 y2=some r):Ends Tryz.prog Tryz.f45.results.toList [.code (bodyOf Tryz.f45)] (start Tryz.f45.ntmps ([F.agg [F.int .i64 x0,F.int .i64 y0],F.agg [F.int .i64 x1,F.int .i64 y1],F.agg [F.int .i64 x2,F.int .i64 y2]].map .f)) (F.int .i64 r):=by
 refine Ends.of_run tyOK env0_ok (T:=[]) (n:=200) ?_
 refine gE (Y:=T45 (fun r=>some (.ret (F.int .i64 r))) x0 y0 x1 y1 x2 y2) (by kernel_rfl) ?_
 exact gR (by cases h;rfl)
/-! ### function 53 -/
def T53 {ρ:Type} (ret:(Int)→Option ρ) (x0:Int) (y0:Int) (x1:Int) (y1:Int) (x2:Int) (y2:Int):Option ρ :=
 (bsel (decide (IntKind.i64.wrap (IntKind.i64.wrap (IntKind.i64.wrap (x1-x0)*IntKind.i64.wrap (y2-y0))-IntKind.i64.wrap (IntKind.i64.wrap (y1-y0)*IntKind.i64.wrap (x2-x0)))<0))
 (ret (-1))
 (bsel (decide (IntKind.i64.wrap (IntKind.i64.wrap (IntKind.i64.wrap (x1-x0)*IntKind.i64.wrap (y2-y0))-IntKind.i64.wrap (IntKind.i64.wrap (y1-y0)*IntKind.i64.wrap (x2-x0))) > 0))
 (ret (1))
 (ret (0))))
def G53 (x0:Int) (y0:Int) (x1:Int) (y1:Int) (x2:Int) (y2:Int):Option (Int):=T53 some x0 y0 x1 y1 x2 y2
theorem t53 (x0:Int) (y0:Int) (x1:Int) (y1:Int) (x2:Int) (y2:Int) (r:Int) (h:G53 x0 y0 x1 y1 x2 y2=some r):Ends Tryz.prog Tryz.f53.results.toList [.code (bodyOf Tryz.f53)] (start Tryz.f53.ntmps ([F.agg [F.int .i64 x0,F.int .i64 y0],F.agg [F.int .i64 x1,F.int .i64 y1],F.agg [F.int .i64 x2,F.int .i64 y2]].map .f)) (F.int .i64 r):=by
 refine Ends.of_run tyOK env0_ok (T:=[]) (n:=200) ?_
 refine gE (Y:=T53 (fun r=>some (.ret (F.int .i64 r))) x0 y0 x1 y1 x2 y2) (by kernel_rfl) ?_
 exact (gS h (fun _ h=>gR (by cases h;rfl)) (fun _ h=>(gS h (fun _ h=>gR (by cases h;rfl)) (fun _ h=>gR (by cases h;rfl)))))
def pre3i:List F→Bool | [.int .i64 _,.int .i64 _,.int .i64 _]=>true | _=>false
def pre1i:List F→Bool | [.int .i64 _]=>true | _=>false
def pre1p:List F→Bool | [.agg [.int .i64 _,.int .i64 _]]=>true | _=>false
def pre2p:List F→Bool | [.agg [.int .i64 _,.int .i64 _],.agg [.int .i64 _,.int .i64 _]]=>true | _=>false
def pre3p:List F→Bool | [.agg [.int .i64 _,.int .i64 _],.agg [.int .i64 _,.int .i64 _],.agg [.int .i64 _,.int .i64 _]]=>true | _=>false
def inV (a lo hi:Int):Bool:=decide (lo≤a)&&decide (a≤hi)
def resIn:List F→F | [.int .i64 a,.int .i64 b,.int .i64 c]=>.bool (inV a b c) | _=>.dflt
theorem inV_spec (a b c:Int):G52 a b c=some (inV a b c):=by
 unfold G52 T52 inV
 have e:decide (a ≥ b)=decide (b≤a):=rfl
 rw [e]
 cases decide (b≤a) <;> rfl
theorem inV_impl (a b c:Int):G24 a b c=some (inV a b c):=by
 unfold G24 T24 inV
 cases decide (b≤a) <;> rfl
theorem okIn:PureOK Tryz.prog 52 pre3i resIn :=
 fn_pure (c:=bodyOf Tryz.f52) Tryz.func52 (by kernel_rfl) (by kernel_rfl) fun xs hp=>match xs,hp with
 | [.int .i64 a,.int .i64 b,.int .i64 c],hp=>t52 a b c _ (inV_spec a b c)
theorem okWithin:PureOK Tryz.prog 24 pre3i resIn :=
 fn_pure (c:=bodyOf Tryz.f24) Tryz.func24 (by kernel_rfl) (by kernel_rfl) fun xs hp=>match xs,hp with
 | [.int .i64 a,.int .i64 b,.int .i64 c],hp=>t24 a b c _ (inV_impl a b c)
def lessV (x0 y0 x1 y1:Int):Bool:=decide (x0<x1) || (x0==x1&&decide (y0<y1))
theorem lessV_spec (x0 y0 x1 y1:Int):G54 x0 y0 x1 y1=some (lessV x0 y0 x1 y1):=by
 unfold G54 T54 lessV
 cases decide (x0<x1) <;> cases (x0==x1) <;> rfl
def resLess:List F→F | [.agg [.int .i64 a,.int .i64 b],.agg [.int .i64 c,.int .i64 d]]=>.bool (lessV a b c d) | _=>.dflt
theorem okLess:PureOK Tryz.prog 54 pre2p resLess :=
 fn_pure (c:=bodyOf Tryz.f54) Tryz.func54 (by kernel_rfl) (by kernel_rfl) fun xs hp=>match xs,hp with
 | [.agg [.int .i64 a,.int .i64 b],.agg [.int .i64 c,.int .i64 d]],hp=>t54 a b c d _ (lessV_spec a b c d)
def cmpV (x0 y0 x1 y1:Int):Int:=bif x0==x1&&y0==y1 then 0 else bif lessV x0 y0 x1 y1 then -1 else 1
theorem cmpV_impl (x0 y0 x1 y1:Int):G46 x0 y0 x1 y1=some (cmpV x0 y0 x1 y1):=by
 unfold G46 T46 cmpV lessV
 rw [Bool.and_true]
 cases (x0==x1) <;> cases (y0==y1) <;> cases decide (x0<x1) <;> cases decide (y0<y1) <;> rfl
def resCmp:List F→F | [.agg [.int .i64 a,.int .i64 b],.agg [.int .i64 c,.int .i64 d]]=>.int .i64 (cmpV a b c d) | _=>.dflt
theorem okCmp:PureOK Tryz.prog 46 pre2p resCmp :=
 fn_pure (c:=bodyOf Tryz.f46) Tryz.func46 (by kernel_rfl) (by kernel_rfl) fun xs hp=>match xs,hp with
 | [.agg [.int .i64 a,.int .i64 b],.agg [.int .i64 c,.int .i64 d]],hp=>t46 a b c d _ (cmpV_impl a b c d)
def signV (n:Int):Int:=bif decide (n<0) then -1 else bif decide (n > 0) then 1 else 0
theorem signV_impl (n:Int):G47 n=some (signV n):=by
 unfold G47 T47 signV
 cases decide (n<0) <;> cases decide (n > 0) <;> rfl
def resSign:List F→F | [.int .i64 n]=>.int .i64 (signV n) | _=>.dflt
theorem okSign:PureOK Tryz.prog 47 pre1i resSign :=
 fn_pure (c:=bodyOf Tryz.f47) Tryz.func47 (by kernel_rfl) (by kernel_rfl) fun xs hp=>match xs,hp with
 | [.int .i64 n],hp=>t47 n _ (signV_impl n)
def crossW (x0 y0 x1 y1 x2 y2:Int):Int:=IntKind.i64.wrap (IntKind.i64.wrap (IntKind.i64.wrap (x1-x0)*IntKind.i64.wrap (y2-y0))-IntKind.i64.wrap (IntKind.i64.wrap (y1-y0)*IntKind.i64.wrap (x2-x0)))
def resCross:List F→F | [.agg [.int .i64 a,.int .i64 b],.agg [.int .i64 c,.int .i64 d],.agg [.int .i64 e,.int .i64 f]]=>.int .i64 (crossW a b c d e f) | _=>.dflt
theorem okCross:PureOK Tryz.prog 45 pre3p resCross :=
 fn_pure (c:=bodyOf Tryz.f45) Tryz.func45 (by kernel_rfl) (by kernel_rfl) fun xs hp=>match xs,hp with
 | [.agg [.int .i64 a,.int .i64 b],.agg [.int .i64 c,.int .i64 d],.agg [.int .i64 e,.int .i64 f]],hp=>t45 a b c d e f _ rfl
def turnV (x0 y0 x1 y1 x2 y2:Int):Int:=signV (crossW x0 y0 x1 y1 x2 y2)
theorem turnV_spec (x0 y0 x1 y1 x2 y2:Int):G53 x0 y0 x1 y1 x2 y2=some (turnV x0 y0 x1 y1 x2 y2):=by
 unfold G53 T53 turnV signV crossW
 generalize IntKind.i64.wrap (IntKind.i64.wrap (IntKind.i64.wrap (x1-x0)*IntKind.i64.wrap (y2-y0))-IntKind.i64.wrap (IntKind.i64.wrap (y1-y0)*IntKind.i64.wrap (x2-x0)))=n
 cases decide (n<0) <;> cases decide (n > 0) <;> rfl
def resTurn:List F→F | [.agg [.int .i64 a,.int .i64 b],.agg [.int .i64 c,.int .i64 d],.agg [.int .i64 e,.int .i64 f]]=>.int .i64 (turnV a b c d e f) | _=>.dflt
theorem okTurn:PureOK Tryz.prog 53 pre3p resTurn :=
 fn_pure (c:=bodyOf Tryz.f53) Tryz.func53 (by kernel_rfl) (by kernel_rfl) fun xs hp=>match xs,hp with
 | [.agg [.int .i64 a,.int .i64 b],.agg [.int .i64 c,.int .i64 d],.agg [.int .i64 e,.int .i64 f]],hp=>t53 a b c d e f _ (turnV_spec a b c d e f)
def envW1:Env:=((((((env0.add 52 (.pure pre3i resIn)).add 24 (.pure pre3i resIn)).add 54 (.pure pre2p resLess)).add 46 (.pure pre2p resCmp)).add 47 (.pure pre1i resSign)).add 45 (.pure pre3p resCross)).add 53 (.pure pre3p resTurn)
theorem envW1_ok:EnvOK Tryz.prog envW1:=(Env.add_ok (Env.add_ok (Env.add_ok (Env.add_ok (Env.add_ok (Env.add_ok (Env.add_ok env0_ok okIn.sp) okWithin.sp) okLess.sp) okCmp.sp) okSign.sp) okCross.sp) okTurn.sp)
/-! ### function 35 -/
def T35 {ρ:Type} (ret:(Bool)→Option ρ) (x0:Int) (y0:Int):Option ρ :=
 (bsel (inV x0 (-1000000) 1000000==true)
 (ret (inV y0 (-1000000) 1000000))
 (ret (false)))
def G35 (x0:Int) (y0:Int):Option (Bool):=T35 some x0 y0
theorem t35 (x0:Int) (y0:Int) (r:Bool) (h:G35 x0 y0=some r):Ends Tryz.prog Tryz.f35.results.toList [.code (bodyOf Tryz.f35)] (start Tryz.f35.ntmps ([F.agg [F.int .i64 x0,F.int .i64 y0]].map .f)) (F.bool r):=by
 refine Ends.of_run tyOK envW1_ok (T:=[]) (n:=200) ?_
 refine gE (Y:=T35 (fun r=>some (.ret (F.bool r))) x0 y0) (by kernel_rfl) ?_
 exact (gS h (fun _ h=>gR (by cases h;rfl)) (fun _ h=>gR (by cases h;rfl)))
/-! ### function 30 -/
def T30 {ρ:Type} (ret:(Bool)→Option ρ) (x0:Int) (y0:Int):Option ρ :=
 (bsel (inV x0 (-1000000) 1000000==true)
 (ret (inV y0 (-1000000) 1000000))
 (ret (false)))
def G30 (x0:Int) (y0:Int):Option (Bool):=T30 some x0 y0
theorem t30 (x0:Int) (y0:Int) (r:Bool) (h:G30 x0 y0=some r):Ends Tryz.prog Tryz.f30.results.toList [.code (bodyOf Tryz.f30)] (start Tryz.f30.ntmps ([F.agg [F.int .i64 x0,F.int .i64 y0]].map .f)) (F.bool r):=by
 refine Ends.of_run tyOK envW1_ok (T:=[]) (n:=200) ?_
 refine gE (Y:=T30 (fun r=>some (.ret (F.bool r))) x0 y0) (by kernel_rfl) ?_
 exact (gS h (fun _ h=>gR (by cases h;rfl)) (fun _ h=>gR (by cases h;rfl)))
def spotOkV (x y:Int):Bool:=inV x (-1000000) 1000000&&inV y (-1000000) 1000000
theorem spotOk_spec (x y:Int):G35 x y=some (spotOkV x y):=by
 unfold G35 T35 spotOkV
 cases inV x (-1000000) 1000000 <;> rfl
theorem spotOk_impl (x y:Int):G30 x y=some (spotOkV x y):=by
 unfold G30 T30 spotOkV
 cases inV x (-1000000) 1000000 <;> rfl
def resSpotOk:List F→F | [.agg [.int .i64 x,.int .i64 y]]=>.bool (spotOkV x y) | _=>.dflt
theorem okSpotOkS:PureOK Tryz.prog 35 pre1p resSpotOk :=
 fn_pure (c:=bodyOf Tryz.f35) Tryz.func35 (by kernel_rfl) (by kernel_rfl) fun xs hp=>match xs,hp with
 | [.agg [.int .i64 x,.int .i64 y]],hp=>t35 x y _ (spotOk_spec x y)
theorem okSpotOkI:PureOK Tryz.prog 30 pre1p resSpotOk :=
 fn_pure (c:=bodyOf Tryz.f30) Tryz.func30 (by kernel_rfl) (by kernel_rfl) fun xs hp=>match xs,hp with
 | [.agg [.int .i64 x,.int .i64 y]],hp=>t30 x y _ (spotOk_impl x y)
theorem spotOk_iff {x y:Int}:spotOkV x y=true ↔ -1000000≤x∧x≤1000000∧-1000000≤y∧y≤1000000:=by
 simp only [spotOkV,inV,Bool.and_eq_true,decide_eq_true_eq]
 omega
def envW2:Env:=(envW1.add 35 (.pure pre1p resSpotOk)).add 30 (.pure pre1p resSpotOk)
theorem envW2_ok:EnvOK Tryz.prog envW2:=(Env.add_ok (Env.add_ok envW1_ok okSpotOkS.sp) okSpotOkI.sp)
/-! ### function 4 -/
def T4 {ρ:Type} (ret:(Bool)→Option ρ) (a0:ByteArray):Option ρ :=
 (ret (decide ((↑a0.size:Int) > 1048576)))
def G4 (a0:ByteArray):Option (Bool):=T4 some a0
theorem t4 (a0:ByteArray) (r:Bool) (h:G4 a0=some r):Ends Tryz.prog Tryz.f4.results.toList [.code (bodyOf Tryz.f4)] (start Tryz.f4.ntmps ([bytesF a0].map .f)) (F.bool r):=by
 refine Ends.of_run tyOK env0_ok (T:=[]) (n:=200) ?_
 refine gE (Y:=T4 (fun r=>some (.ret (F.bool r))) a0) (by kernel_rfl) ?_
 exact gR (by cases h;rfl)
/-! ### function 40 -/
def T40 {ρ:Type} (ret:(Int)→(Int)→Option ρ) (s:ByteArray) (p:Int):Option ρ :=
 (bsel (decide (p ≥ (↑s.size:Int)))
 (ret (0) (p))
 (bsel (decide (0≤IntKind.i64.wrap (IntKind.i64.wrap (p+1)-1)))
 (bsel (decide (IntKind.i64.wrap (IntKind.i64.wrap (p+1)-1)<(↑s.size:Int)))
 (ret (IntKind.i64.wrap (byteAt s (↑(IntKind.i64.wrap (IntKind.i64.wrap (p+1)-1)).toNat:Int))) (IntKind.i64.wrap (p+1)))
 none)
 none))
def G40 (s:ByteArray) (p:Int):Option ((Int) × (Int)):=T40 (fun r q=>some (r,q)) s p
theorem t40 (s:ByteArray) (p:Int) (r:Int) (q:Int) (h:G40 s p=some (r,q)):EndsN Tryz.prog 1 Tryz.f40.results.toList [.code (bodyOf Tryz.f40)] (startN Tryz.f40.ntmps [U.hp 0 0] [HO.box [U.f (bytesF s),U.f (F.int .i64 p)]]) (F.tup [F.int .i64 r,F.agg [bytesF s,F.int .i64 q]]):=by
 refine Ends.of_run tyOK env0_ok (T:=[]) (n:=200) ?_
 refine gE (Y:=T40 (fun r q=>some (.ret (F.tup [F.int .i64 r,F.agg [bytesF s,F.int .i64 q]]))) s p) (by kernel_rfl) ?_
 exact (gS h (fun _ h=>gR (by cases h;rfl)) (fun _ h=>(gS h (fun _ h=>(gS h (fun _ h=>gR (by cases h;rfl)) gN)) gN)))
/-! ### function 10 -/
def T10 {ρ:Type} (ret:(Int)→Option ρ) (a0:ByteArray):Option ρ :=
 (ret (0))
def G10 (a0:ByteArray):Option (Int):=T10 some a0
theorem t10 (a0:ByteArray) (r:Int) (h:G10 a0=some r):Ends Tryz.prog [ResultVar.cell 2 46] [.code (bodyOf Tryz.f10)] (start Tryz.f10.ntmps ([bytesF a0].map .f)) (F.agg [bytesF a0,F.int .i64 r]):=by
 refine Ends.of_run tyOK env0_ok (T:=[]) (n:=200) ?_
 refine gE (Y:=T10 (fun r=>some (.ret (F.agg [bytesF a0,F.int .i64 r]))) a0) (by kernel_rfl) ?_
 exact gR (by cases h;rfl)
theorem wrapi {x:Int} (h0:-9223372036854775808≤x) (h1:x≤9223372036854775807):IntKind.i64.wrap x=x:=by
 unfold IntKind.wrap
 simp [IntKind.bits,IntKind.signed]
 omega
def preB:List F→Bool | [b]=>isBytes b | _=>false
theorem okBig:SpOK Tryz.prog 4 (.pure preB (fun xs=>match xs with | [b]=>.bool (decide (((unBytes b).size:Int) > 1048576)) | _=>.bool false)) :=
 fn_pure_at (c:=bodyOf Tryz.f4) Tryz.func4 (by kernel_rfl) (by kernel_rfl) fun xs hp=>match xs,hp with
 | [b],hp=>⟨[bytesF (unBytes b)],_,⟨(bytes_eqv hp).1,trivial⟩,t4 (unBytes b) _ rfl,.refl _⟩
def rdOk (s:ByteArray) (p:Int):Bool:=decide (0≤p∧p≤s.size∧s.size≤1048576)
theorem rdOk_iff {s:ByteArray} {p:Int}:rdOk s p=true ↔ 0≤p∧p≤s.size∧s.size≤1048576:=by simp [rdOk]
def nextV (s:ByteArray) (p:Int):Int × Int:=(G40 s p).getD (0,0)
theorem next_ok {s:ByteArray} {p:Int} (h:rdOk s p=true):G40 s p=some (nextV s p)∧0≤(nextV s p).1∧(nextV s p).1<256∧rdOk s (nextV s p).2=true:=by
 obtain ⟨h1,h2,h3⟩:=rdOk_iff.1 h
 unfold nextV G40 T40
 by_cases hp:p ≥ s.size
 ·have c1:decide (p ≥ (s.size:Int))=true:=decide_eq_true hp
  simp only [c1,bsel_true,Option.getD_some]
  exact ⟨trivial,by omega,by omega,h⟩
 ·have c1:decide (p ≥ (s.size:Int))=false:=decide_eq_false hp
  have e:IntKind.i64.wrap (IntKind.i64.wrap (p+1)-1)=p:=by rw [wrapi (x:=p+1) (by omega) (by omega),wrapi (by omega) (by omega)];omega
  have c2:decide (0≤p)=true:=decide_eq_true h1
  have c3:decide (p<(s.size:Int))=true:=decide_eq_true (by omega)
  simp only [c1,e,c2,c3,bsel_true,bsel_false,Option.getD_some]
  obtain ⟨b1,b2⟩:=byteAt_rng s (p.toNat:Int)
  refine ⟨trivial,?_,?_,?_⟩
  ·rw [wrapi (by omega) (by omega)];exact b1
  ·rw [wrapi (by omega) (by omega)];exact b2
  ·rw [wrapi (by omega) (by omega)];exact rdOk_iff.2 (by omega)
def preR:List F→Bool
 | [b,.int .i64 p]=>isBytes b&&rdOk (unBytes b) p
 | _=>false
def rd (V:ByteArray→Int→F × Int):List F→F × List F
 | [b,.int .i64 p]=>((V (unBytes b) p).1,[b,.int .i64 (V (unBytes b) p).2])
 | cs=>(.dflt,cs)
theorem preR_open {cs:List F} (h:preR cs=true):∃ b p,cs=[b,.int .i64 p]∧isBytes b=true∧rdOk (unBytes b) p=true:=by
 unfold preR at h
 split at h
 ·simp only [Bool.and_eq_true] at h
  exact ⟨_,_,rfl,h.1,h.2⟩
 ·cases h
theorem okNext:SpOK Tryz.prog 40 (ptrSp (fun cs xs=>match xs with | []=>preR cs | _=>false) (fun cs xs=>rd (fun s p=>(.int .i64 (nextV s p).1,(nextV s p).2)) cs)) :=
 fn_ptr_at (c:=bodyOf Tryz.f40) Tryz.func40 (by kernel_rfl) (by kernel_rfl) fun cs xs hp=>by
  cases xs with
  | cons _ _=>cases hp
  | nil =>
   obtain ⟨b,p,rfl,hb,hr⟩:=preR_open hp
   obtain ⟨h1,_⟩:=next_ok hr
   exact ⟨[bytesF (unBytes b),.int .i64 p],[],_,_,⟨(bytes_eqv hb).1,.refl _,trivial⟩,trivial,t40 _ _ _ _ h1,.refl _,⟨(bytes_eqv hb).2,.refl _,trivial⟩⟩
theorem okOpen:SpOK Tryz.prog 10 (newSp preB (fun xs=>match xs with | [b]=>[b,.int .i64 0] | _=>[])) :=
 fn_new (c:=bodyOf Tryz.f10) (t:=2) (ty:=46) Tryz.func10 (by kernel_rfl) (by kernel_rfl) (by kernel_rfl) (fun ti h=>by
  have e:(tiOf Tryz.prog 46).map TI.isAgg=some true:=by kernel_rfl
  rw [h] at e
  exact Option.some.inj e) fun xs hp=>match xs,hp with
 | [b],hp=>⟨[bytesF (unBytes b)],[bytesF (unBytes b),.int .i64 0],⟨(bytes_eqv hp).1,trivial⟩,t10 (unBytes b) 0 rfl,⟨(bytes_eqv hp).2,.refl _,trivial⟩⟩
def envD1:Env:=((env0.add 40 (ptrSp (fun cs xs=>match xs with | []=>preR cs | _=>false) (fun cs xs=>rd (fun s p=>(.int .i64 (nextV s p).1,(nextV s p).2)) cs))).add 10 (newSp preB (fun xs=>match xs with | [b]=>[b,.int .i64 0] | _=>[]))).add 4 (.pure preB (fun xs=>match xs with | [b]=>.bool (decide (((unBytes b).size:Int) > 1048576)) | _=>.bool false))
theorem envD1_ok:EnvOK Tryz.prog envD1:=(Env.add_ok (Env.add_ok (Env.add_ok env0_ok okNext) okOpen) okBig)
def segOkV (x0 y0 x1 y1:Int):Bool:=spotOkV x0 y0&&(spotOkV x1 y1&&lessV x0 y0 x1 y1)
def envW3:Env:=envW2
theorem envW3_ok:EnvOK Tryz.prog envW3:=envW2_ok
structure Sg where
 x0:Int
 y0:Int
 x1:Int
 y1:Int
def Sg.zero:Sg:=⟨0,0,0,0⟩
def sgF (s:Sg):F:=.agg [.int .i64 s.x0,.int .i64 s.y0,.int .i64 s.x1,.int .i64 s.y1]
def segsF (l:List Sg):F:=slF sgF .zero l
def envW4:Env:=envW3
theorem envW4_ok:EnvOK Tryz.prog envW4:=envW3_ok
def envW5:Env:=envW4
theorem envW5_ok:EnvOK Tryz.prog envW5:=envW4_ok
section
variable {P:Program} {w:World} {Z:Nat→Prop} {m:Nat→Nat} {H:List HO} {d:Bool}
inductive OwnLe:F→F→Prop
 | nil:OwnLe (.tup []) (.tup [])
 | obj (k:IntKind) (sz:Int) (n:Nat) (g g':Nat→F) (h:∀ j,j<n→g j=g' j):OwnLe (.tup [.int k sz,.sl n g]) (.tup [.int k sz,.sl n g'])
 | dat (x:F) (h:cellF x=true):OwnLe x x
def OwnsLe:List F→List F→Prop
 | [],[]=>True
 | x :: xs,y :: ys=>OwnLe x y∧OwnsLe xs ys
 | _,_=>False
theorem isScal_get {n:Nat} {g:Nat→F} (h:isScal n g=true) {i:Nat} (hi:i<n):scal0 (g i)=true:=by
 unfold isScal at h
 exact List.all_eq_true.1 h i (List.mem_range.2 hi)
theorem scal0s_get:∀ (cs:List F),scal0s cs=true→∀ (j:Nat) (u:F),cs[j]?=some u→scal0 u=true
 | [],_,j,u,hu=>by simp at hu
 | c :: cs,h,j,u,hu=>by
  simp only [scal0s,Bool.and_eq_true] at h
  cases j with
  | zero=>simp at hu;exact hu ▸ h.1
  | succ j=>simp at hu;exact scal0s_get cs h.2 j u hu
theorem scal0_cells {x:F} (h:scal0 x=true) {j:Nat} {u:F} (hu:x.cells[j]?=some u):scal0 u=true:=by
 cases x with
 | agg cs=>exact scal0s_get cs (by simpa [scal0] using h) j u hu
 | _ =>
  cases j with
  | zero=>simp [F.cells] at hu;rw [← hu];exact h
  | succ j=>simp [F.cells] at hu
theorem RepF.scal0_any {w w':World} {Z Z':Nat→Prop} {x:F} {v:Value} (h:RepF w Z x v):scal0 x=true→RepF w' Z' x v:=by
 induction h with
 | bool b=>intro _;exact .bool b
 | int k n=>intro _;exact .int k n
 | str s=>intro _;exact .str s
 | sl n g A c sz a V hc hs hk hA hV hr ih =>
  intro h
  have h0:n=0:=Nat.eq_of_beq_eq_true (by simpa [scal0] using h)
  subst h0
  exact .sl 0 g A c sz a V hc hs hk (fun h=>absurd rfl h) (fun i j u hi=>by omega) (fun i j u hi=>by omega)
 | cl n g v h h0 ih=>intro h';exact .cl n g v (ih (by simpa [scal0] using h')) h0
 | agg cs vs hl hr ih=>intro h;exact .agg cs vs hl fun j u v hu hv=>ih j u v hu hv (scal0s_get cs (by simpa [scal0] using h) j u hu)
 | tup cs vs hl hr ih=>intro h;simp [scal0] at h
theorem ownL_get:∀ (us:List U) (es:List F),ownL d H us=some es→us.length=es.length∧∀ (j:Nat) (u:U),us[j]?=some u→∃ e,es[j]?=some e∧own1 d H u=some e
 | [],es,h=>by simp only [ownL,Option.some.injEq] at h;subst h;exact ⟨rfl,fun j u hu=>by simp at hu⟩
 | u :: us,es,h=>by
  simp only [ownL] at h
  split at h
  ·rename_i x xs hx hxs
   cases h
   obtain ⟨h1,h2⟩:=ownL_get us xs hxs
   refine ⟨by simp [h1],fun j v hv=>?_⟩
   cases j with
   | zero=>simp at hv;subst hv;exact ⟨x,rfl,hx⟩
   | succ j=>simp at hv;obtain ⟨e,h3,h4⟩:=h2 j v hv;exact ⟨e,by simpa using h3,h4⟩
  ·cases h
theorem ownsLe_get:∀ {es fs:List F},OwnsLe es fs→es.length=fs.length∧∀ (j:Nat) (e:F),es[j]?=some e→∃ f,fs[j]?=some f∧OwnLe e f
 | [],[],_=>⟨rfl,fun j e h=>by simp at h⟩
 | x :: xs,y :: ys,h=>by
  obtain ⟨h1,h2⟩:=ownsLe_get h.2
  refine ⟨by simp [h1],fun j e he=>?_⟩
  cases j with
  | zero=>simp at he;subst he;exact ⟨y,rfl,h.1⟩
  | succ j=>simp at he;obtain ⟨f,h3,h4⟩:=h2 j e he;exact ⟨f,by simpa using h3,h4⟩
 | [],_ :: _,h=>h.elim
 | _ :: _,[],h=>h.elim
theorem obsOf_dat {x:F} (h:cellF x=true) (es:List F):obsOf (x :: es)=obsOf es:=by
 cases x <;> first | rfl | simp [cellF] at h
theorem own_none:∀ (us:List U) (es fs:List F),ownL d H us=some es→OwnsLe es fs→(∀ u ∈ us,∀ o g f l,u ≠ .hs o g f l)→obsOf fs=[]
 | [],es,fs,h,hle,_=>by
  simp only [ownL,Option.some.injEq] at h
  subst h
  cases fs with
  | nil=>rfl
  | cons=>exact hle.elim
 | u :: us,es,fs,h,hle,hn=>by
  simp only [ownL] at h
  split at h
  case h_2=>cases h
  rename_i x xs hx hxs
  cases h
  cases fs with
  | nil=>exact hle.elim
  | cons y ys =>
   have ih:=own_none us xs ys hxs hle.2 (fun u hu=>hn u (by simp [hu]))
   have h1:=hle.1
   cases u with
   | f x' =>
    simp only [own1] at hx
    split at hx
    ·rename_i hc
     cases hx
     simp only [Bool.and_eq_true] at hc
     cases h1 with
     | nil=>simp [cellF] at hc
     | obj=>simp [cellF] at hc
     | dat _ h=>rw [obsOf_dat h];exact ih
    ·cases hx
   | nils =>
    simp only [own1,Option.some.injEq] at hx
    subst hx
    cases h1 with
    | nil=>exact ih
    | dat _ h=>simp [cellF] at h
   | hs o g f l=>exact absurd rfl (hn _ (by simp) o g f l)
   | _=>simp [own1] at hx
theorem own_form:∀ (us:List U) (es fs:List F),(objsAll us).length≤1→ownL d H us=some es→OwnsLe es fs →
  (obsOf fs=[]∧∀ u ∈ us,∀ o g f l,u ≠ .hs o g f l) ∨
  ∃ o sz n g g',H[o]?=some (.arr sz n g)∧(d || isScal n g)=true∧(∀ j,j<n→g j=g' j)∧obsOf fs=[.arr sz n g']∧∀ u ∈ us,∀ o1 g1 f1 l1,u=.hs o1 g1 f1 l1→o1=o∧g1=n∧f1=0∧l1=n
 | [],es,fs,_,h,hle=>by
  simp only [ownL,Option.some.injEq] at h
  subst h
  cases fs with
  | nil=>exact .inl ⟨rfl,by simp⟩
  | cons=>exact hle.elim
 | u :: us,es,fs,hl,h,hle=>by
  have h':=h
  simp only [ownL] at h
  split at h
  case h_2=>cases h
  rename_i x xs hx hxs
  cases h
  cases fs with
  | nil=>exact hle.elim
  | cons y ys =>
   obtain ⟨h1,h2⟩:=hle
   simp only [objsAll,List.length_append] at hl
   have ih:=own_form us xs ys (by omega) hxs h2
   have rest:(∀ o g f l,u ≠ .hs o g f l)→obsOf (y :: ys)=obsOf ys→(obsOf (y :: ys)=[]∧∀ u' ∈ u :: us,∀ o g f l,u' ≠ .hs o g f l) ∨
     ∃ o sz n g g',H[o]?=some (.arr sz n g)∧(d || isScal n g)=true∧(∀ j,j<n→g j=g' j)∧obsOf (y :: ys)=[.arr sz n g']∧∀ u' ∈ u :: us,∀ o1 g1 f1 l1,u'=.hs o1 g1 f1 l1→o1=o∧g1=n∧f1=0∧l1=n:=by
    intro hu ho
    rw [ho]
    rcases ih with ⟨a1,a2⟩ | ⟨o,sz,n,g,g',a1,a2,a3,a4,a5⟩
    ·refine .inl ⟨a1,fun u' hu'=>?_⟩
     rcases List.mem_cons.1 hu' with rfl | hu'
     ·exact hu
     ·exact a2 u' hu'
    ·refine .inr ⟨o,sz,n,g,g',a1,a2,a3,a4,fun u' hu'=>?_⟩
     rcases List.mem_cons.1 hu' with rfl | hu'
     ·exact fun o1 g1 f1 l1 e=>absurd e (hu o1 g1 f1 l1)
     ·exact a5 u' hu'
   cases u with
   | f x' =>
    simp only [own1] at hx
    split at hx
    ·rename_i hc
     cases hx
     simp only [Bool.and_eq_true] at hc
     refine rest (fun o g f l e=>by cases e) ?_
     cases h1 with
     | nil=>simp [cellF] at hc
     | obj=>simp [cellF] at hc
     | dat _ h=>exact obsOf_dat h ys
    ·cases hx
   | nils =>
    simp only [own1,Option.some.injEq] at hx
    subst hx
    refine rest (fun o g f l e=>by cases e) ?_
    cases h1 with
    | nil=>rfl
    | dat _ h=>simp [cellF] at h
   | hs o gen off len =>
    simp only [own1] at hx
    split at hx
    ·rename_i sz n g ho
     split at hx
     ·rename_i hc
      obtain ⟨rfl,rfl,rfl,hs⟩:=hc
      cases hx
      have hno:∀ u ∈ us,∀ o g f l,u ≠ .hs o g f l:=by
       simp only [objs,List.length_singleton] at hl
       have h0:objsAll us=[]:=List.eq_nil_of_length_eq_zero (by omega)
       intro u hu o g f l e
       subst e
       have:o ∈ objsAll us:=objsAll_mem us _ o hu (by simp [objs])
       rw [h0] at this;cases this
      have hob:=own_none us xs ys hxs h2 hno
      cases h1 with
      | obj _ _ _ _ g' h3 =>
       refine .inr ⟨o,sz,_,g,g',ho,hs,h3,?_,?_⟩
       ·simp [obsOf,hob]
       ·intro u hu o1 g1 f1 l1 e
        rcases List.mem_cons.1 hu with rfl | hu
        ·cases e;exact ⟨rfl,rfl,rfl,rfl⟩
        ·exact absurd e (hno u hu o1 g1 f1 l1)
      | dat _ h=>simp [cellF] at h
     ·cases hx
    ·cases hx
   | _=>simp [own1] at hx
theorem oneA_rep {w':World} {Z':Nat→Prop} {m' m2:Nat→Nat} {H2:List HO} {u:U} {e e':F} {v:Value} {b:Nat} (hu:RepU w' Z' m' H u v) (he:own1 d H u=some e) (hle:OwnLe e e')
  (hfx:∀ x v,(d || scal0 x)=true→RepF w' Z' x v→RepF w' Z x v)
  (hobj:∀ o gen off len,u=.hs o gen off len→∃ sz g',off=0∧len=gen∧H2[b]?=some (.arr sz gen g')∧m2 b=m' o∧∃ g,H[o]?=some (.arr sz gen g)):RepU w' Z m2 H2 (oneA b e') v:=by
 cases u with
 | f x =>
  simp only [own1] at he
  split at he
  ·rename_i hc
   have hxe:x=e:=Option.some.inj he
   subst hxe
   simp only [Bool.and_eq_true] at hc
   cases hle with
   | nil=>simp [cellF] at hc
   | obj=>simp [cellF] at hc
   | dat _ h =>
    have key:∀ y:F,cellF y=true→oneA b y=.f y:=fun y h=>by cases y <;> first | rfl | simp [cellF] at h
    rw [key _ hc.2]
    cases hu with | f _ _ hr=>exact .f _ _ (hfx _ _ hc.1 hr)
  ·cases he
 | nils =>
  simp only [own1,Option.some.injEq] at he
  subst he
  cases hle with
  | nil=>cases hu with | nils A=>exact .nils A
  | dat _ h=>simp [cellF] at h
 | hs o gen off len =>
  obtain ⟨sz,g',rfl,rfl,hb,hm,g,ho⟩:=hobj o gen off len rfl
  simp only [own1,ho] at he
  split at he
  ·cases he
   cases hle with
   | obj _ _ _ _ g1 h3 =>
    show RepU w' Z m2 H2 (.hs b len 0 len) v
    cases hu with
    | hs _ _ _ _ _ h1 hk hg hv =>
     obtain ⟨q1,A,c,q2,q3,q4,q5⟩:=hv sz len g ho rfl
     refine .hs b len 0 len v h1 ⟨_,hb,by simp⟩ (fun sz' n' g'' e=>?_) (fun sz' n' g'' e eg=>?_)
     ·rw [hb] at e;cases e;exact Nat.le_refl _
     ·rw [hb] at e;cases e
      rw [hm]
      exact ⟨q1,A,c,q2,q3,q4,q5⟩
   | dat _ h=>simp [cellF] at h
  ·cases he
 | _=>simp [own1] at he
/-! Answers with one layer of fields. -/
def Own2 (e f:F):Prop:=isAggF e=isAggF f∧OwnsLe e.cells f.cells
def Owns2:List F→List F→Prop
 | [],[]=>True
 | x :: xs,y :: ys=>Own2 x y∧Owns2 xs ys
 | _,_=>False
theorem Own2.of {e f:F} (h:OwnLe e f):Own2 e f:=by
 cases h with
 | nil=>exact ⟨rfl,.nil,trivial⟩
 | obj k sz n g g' h=>exact ⟨rfl,.obj k sz n g g' h,trivial⟩
 | dat x h =>
  refine ⟨rfl,?_⟩
  have:e.cells=[e]:=by cases e <;> first | rfl | simp [cellF] at h
  rw [this]
  exact ⟨.dat e h,trivial⟩
theorem Own2.agg {es fs:List F} (h:OwnsLe es fs):Own2 (.agg es) (.agg fs):=⟨rfl,h⟩
theorem owns2_get:∀ {es fs:List F},Owns2 es fs→es.length=fs.length∧∀ (j:Nat) (e:F),es[j]?=some e→∃ f,fs[j]?=some f∧Own2 e f
 | [],[],_=>⟨rfl,fun j e h=>by simp at h⟩
 | x :: xs,y :: ys,h=>by
  obtain ⟨h1,h2⟩:=owns2_get h.2
  refine ⟨by simp [h1],fun j e he=>?_⟩
  cases j with
  | zero=>simp at he;subst he;exact ⟨y,rfl,h.1⟩
  | succ j=>simp at he;obtain ⟨f,h3,h4⟩:=h2 j e he;exact ⟨f,by simpa using h3,h4⟩
 | [],_ :: _,h=>h.elim
 | _ :: _,[],h=>h.elim
theorem flatF_cons (e:F) (es:List F):flatF (e :: es)=e.cells++flatF es:=by cases e <;> rfl
theorem ownsLe_append:∀ {a b c d:List F},OwnsLe a b→OwnsLe c d→OwnsLe (a++c) (b++d)
 | [],[],_,_,_,h=>h
 | _ :: _,_ :: _,_,_,h,h'=>⟨h.1,ownsLe_append h.2 h'⟩
 | [],_ :: _,_,_,h,_=>h.elim
 | _ :: _,[],_,_,h,_=>h.elim
theorem owns2_flat:∀ {es fs:List F},Owns2 es fs→OwnsLe (flatF es) (flatF fs)
 | [],[],_=>trivial
 | x :: xs,y :: ys,h=>by
  rw [flatF_cons,flatF_cons]
  exact ownsLe_append h.1.2 (owns2_flat h.2)
 | [],_ :: _,h=>h.elim
 | _ :: _,[],h=>h.elim
theorem ownL_append:∀ (us vs:List U) (a b:List F),ownL d H us=some a→ownL d H vs=some b→ownL d H (us++vs)=some (a++b)
 | [],vs,a,b,h,h'=>by simp only [ownL,Option.some.injEq] at h;subst h;exact h'
 | u :: us,vs,a,b,h,h'=>by
  simp only [ownL] at h
  split at h
  ·rename_i x xs hx hxs
   cases h
   simp only [List.cons_append,ownL,hx,ownL_append us vs xs b hxs h']
  ·cases h
theorem own1_cells {u:U} {e:F} (h:own1 d H u=some e):isAggF e=false∧e.cells=[e]:=by
 cases u with
 | f x =>
  simp only [own1] at h
  split at h
  ·rename_i hc
   cases h
   simp only [Bool.and_eq_true] at hc
   obtain ⟨_,hc⟩:=hc
   cases e <;> first | exact ⟨rfl,rfl⟩ | simp [cellF] at hc
  ·cases h
 | nils=>simp only [own1,Option.some.injEq] at h;subst h;exact ⟨rfl,rfl⟩
 | hs o gen off len =>
  simp only [own1] at h
  split at h
  ·split at h
   ·cases h;exact ⟨rfl,rfl⟩
   ·cases h
  ·cases h
 | _=>simp [own1] at h
theorem cells_one {u:U} (h:isAggU u=false):u.cells=[u]:=by
 cases u with
 | f x=>cases x <;> first | rfl | simp [isAggU] at h
 | agg=>simp [isAggU] at h
 | _=>rfl
theorem mk2_cells {u:U} {a:List F} (h:ownL d H u.cells=some a):(mkF (isAggU u) a).cells=a∧isAggF (mkF (isAggU u) a)=isAggU u:=by
 cases hu:isAggU u with
 | true=>exact ⟨rfl,rfl⟩
 | false =>
  rw [cells_one hu] at h
  simp only [ownL] at h
  split at h
  ·rename_i x xs hx hxs
   cases h
   simp only [Option.some.injEq] at hxs
   subst hxs
   obtain ⟨h1,h2⟩:=own1_cells hx
   exact ⟨h2,h1⟩
  ·cases h
def flatU (us:List U):List U:=(us.map U.cells).flatten
theorem ownG_flat:∀ (us:List U) (es:List F),ownG d H us=some es→ownL d H (flatU us)=some (flatF es)∧us.length=es.length∧∀ (j:Nat) (u:U),us[j]?=some u→∃ a,ownL d H u.cells=some a∧es[j]?=some (mkF (isAggU u) a)
 | [],es,h=>by simp only [ownG,Option.some.injEq] at h;subst h;exact ⟨rfl,rfl,fun j u hu=>by simp at hu⟩
 | u :: us,es,h=>by
  simp only [ownG] at h
  split at h
  ·rename_i a r ha hr
   cases h
   obtain ⟨h1,h2,h3⟩:=ownG_flat us r hr
   refine ⟨?_,by simp [h2],fun j v hv=>?_⟩
   ·rw [flatF_cons,(mk2_cells ha).1]
    exact ownL_append _ _ _ _ ha h1
   ·cases j with
    | zero=>simp at hv;subst hv;exact ⟨a,ha,rfl⟩
    | succ j=>simp at hv;obtain ⟨b,h4,h5⟩:=h3 j v hv;exact ⟨b,h4,by simpa using h5⟩
  ·cases h
theorem objsAll_append:∀ (us vs:List U),objsAll (us++vs)=objsAll us++objsAll vs
 | [],vs=>rfl
 | u :: us,vs=>by simp [objsAll,objsAll_append us vs]
theorem objsAll_f:∀ cs:List F,objsAll (cs.map U.f)=[]
 | []=>rfl
 | c :: cs=>by simp [objsAll,objs,objsAll_f cs]
theorem objs_cells (u:U):objsAll u.cells=objs u ∨ ∃ l,u=.tup l:=by
 cases u with
 | f x=>cases x <;> first | (left;rfl) | (left;simp [U.cells,objsAll_f,objs])
 | agg l=>left;rfl
 | tup l=>exact .inr ⟨l,rfl⟩
 | _=>left;simp [U.cells,objsAll,objs]
theorem objsAll_flat:∀ (us:List U),(objsAll (flatU us)).length≤(objsAll us).length
 | []=>Nat.le_refl _
 | u :: us=>by
  have ih:=objsAll_flat us
  have:flatU (u :: us)=u.cells++flatU us:=rfl
  rw [this,objsAll_append]
  simp only [objsAll,List.length_append]
  rcases objs_cells u with h | ⟨l,rfl⟩
  ·rw [h];omega
  ·have:objsAll (U.tup l).cells=objs (.tup l):=by simp [U.cells,objsAll]
   rw [this];omega
theorem flatU_mem {us:List U} {u x:U} (hu:u ∈ us) (hx:x ∈ u.cells):x ∈ flatU us:=by
 unfold flatU
 rw [List.mem_flatten]
 exact ⟨u.cells,List.mem_map_of_mem hu,hx⟩
theorem oneU_rep {w':World} {Z':Nat→Prop} {m' m2:Nat→Nat} {H2:List HO} {u:U} {a:List F} {e':F} {v:Value} {b:Nat} (hu:RepU w' Z' m' H u v) (ha:ownL d H u.cells=some a) (hle:Own2 (mkF (isAggU u) a) e')
  (hfx:∀ x v,(d || scal0 x)=true→RepF w' Z' x v→RepF w' Z x v)
  (hobj:∀ x ∈ u.cells,∀ o gen off len,x=.hs o gen off len→∃ sz g',off=0∧len=gen∧H2[b]?=some (.arr sz gen g')∧m2 b=m' o∧∃ g,H[o]?=some (.arr sz gen g)):RepU w' Z m2 H2 (oneU b e') v:=by
 obtain ⟨hc,hag⟩:=mk2_cells ha
 obtain ⟨h1,h2⟩:=hle
 rw [hag] at h1
 rw [hc] at h2
 obtain ⟨al,ag⟩:=ownL_get _ _ ha
 obtain ⟨bl,bg⟩:=ownsLe_get h2
 cases hagu:isAggU u with
 | true =>
  rw [hagu] at h1
  cases e' with
  | agg bs =>
   obtain ⟨vs,rfl,hl,hg⟩:∃ vs:List Value,v=.agg vs.toArray∧u.cells.length=vs.length∧∀ (j:Nat) (x:U) (y:Value),u.cells[j]?=some x→vs[j]?=some y→RepU w' Z' m' H x y:=by
    cases hu with
    | f x _ hr =>
     cases hr with
     | agg cs vs hl hr =>
      refine ⟨vs,rfl,by simpa [U.cells] using hl,fun j x y hx hy=>?_⟩
      simp only [U.cells,List.getElem?_map] at hx
      cases hcj:cs[j]? with
      | none=>rw [hcj] at hx;cases hx
      | some c=>rw [hcj] at hx;cases hx;exact .f _ _ (hr j c y hcj hy)
     | _=>simp [isAggU] at hagu
    | agg cs vs hl hr=>exact ⟨vs,rfl,hl,hr⟩
    | _=>simp [isAggU] at hagu
   have hb:bs.length=vs.length:=by rw [← hl,al,bl];rfl
   refine .agg _ vs (by simpa using hb) fun j x y hx hy=>?_
   rw [List.getElem?_map] at hx
   cases he:bs[j]? with
   | none=>rw [he] at hx;cases hx
   | some e =>
    rw [he] at hx;cases hx
    have hj:=(List.getElem?_eq_some_iff.1 he).1
    have hbl:a.length=bs.length:=bl
    have huj:u.cells[j]?=some u.cells[j]:=List.getElem?_eq_getElem (by omega)
    obtain ⟨e0,g1,g2⟩:=ag j _ huj
    obtain ⟨e1,g3,g4⟩:=bg j e0 g1
    have:bs[j]?=some e1:=g3
    rw [he] at this;cases this
    exact oneA_rep (hg j _ y huj hy) g2 g4 hfx (hobj _ (List.getElem_mem _))
  | _=>simp [isAggF] at h1
 | false =>
  rw [hagu] at h1
  have hcu:=cells_one hagu
  rw [hcu] at ag al hobj
  obtain ⟨e0,g1,g2⟩:=ag 0 u rfl
  obtain ⟨e1,g3,g4⟩:=bg 0 e0 g1
  have he':e'.cells=[e']:=by cases e' <;> first | rfl | simp [isAggF] at h1
  rw [he'] at g3
  simp at g3
  subst g3
  have:oneU b e'=oneA b e':=by cases e' <;> first | rfl | simp [isAggF] at h1
  rw [this]
  exact oneA_rep hu g2 g4 hfx (hobj u (by simp))
theorem fn_own {f : FuncId} {fn : Func} {c : Code} (hf : P.funcs[f]? = some fn) (hb : fn.body = some c) (hname : (fn.name == "runtime.NumGoroutine") = false) {pre cnd : List F → Bool} {r1 r2 : List F → F}
  (h:∀ xs,pre xs=true→∃ ys es fs,FsLe xs ys∧Ends P (.tmp 1000000 :: fn.results.toList) [.code c] (start fn.ntmps (ys.map .f)) (.tup es)∧Owns2 es fs∧(if cnd xs then r1 xs else r2 xs)=.tup fs):SpOK P f (.own pre cnd r1 r2):=by
 intro us H slot hslot hp w Z m args hH hL
 simp only [ownPre,ownRes] at hp ⊢
 cases hxs:toFs H us with
 | none=>rw [hxs] at hp;cases hp
 | some xs =>
 rw [hxs] at hp
 simp only at hp
 simp only []
 obtain ⟨hl2,hg2⟩:=toFs_get us xs hxs
 obtain ⟨ys,es,fs,hle,h,hes,hfs⟩:=h xs hp
 rw [hfs]
 obtain ⟨hyl,hyg⟩:=hle.get
 let Z1:Nat→Prop:=fun b=>Z b ∨ ∃ o,liveAt H o∧m o=b
 have hZ1:∀ b,Z1 b→b<w.heap.size:=by
  rintro b (hb | ⟨o,hlv,rfl⟩)
  ·exact hH.zlt b hb
  ·exact hH.blk_lt hlv
 refine .inl ⟨by
  have hp:(program).run P w=.ok P w:=rfl
  unfold callFunc
  simp only [Sem.run_bind,hp,Result.andThen,hf,hname,hb,Option.isNone_some,Bool.false_eq_true,if_false,Sem.run_pure],fun cs=>?_⟩
 have hlenx:xs.length=args.size:=by rw [← hl2];simpa using hL.1
 have hlen:ys.length=args.size:=by rw [← hyl];exact hlenx
 have hA:AOK w Z1 m (start fn.ntmps (ys.map .f)) { tmps:=args++Array.replicate (fn.ntmps-args.size) undef,defers:=[] }:=by
  refine ⟨by simp [start,hlen],fun i u v hu hv=>?_,?_⟩
  ·simp only [start,List.length_map] at hu
   rw [List.getElem?_append] at hu
   rw [Array.getElem?_append] at hv
   simp only [List.length_map] at hu
   split at hu
   ·rename_i hi
    rw [if_pos (by omega)] at hv
    rw [List.getElem?_map] at hu
    cases hy:ys[i]? with
    | none=>rw [hy] at hu;cases hu
    | some y =>
     rw [hy] at hu;cases hu
     obtain ⟨x,hx,hxy⟩:=hyg i y hy
     have huj:us[i]?=some us[i]:=List.getElem?_eq_getElem (by have:=(List.getElem?_eq_some_iff.1 hx).1;omega)
     refine .f _ _ (hxy _ _ _ ((toF_rep hH (fun _ _ h=>h) (hL.2 i _ v huj (by simpa using hv)) (hg2 i _ x huj hx)).mono ?_ (fun _ _=>rfl)))
     rintro b (hb | ⟨o,_,hlv,rfl⟩)
     ·exact .inl hb
     ·exact .inr ⟨o,hlv,rfl⟩
   ·rename_i hi
    rw [if_neg (by omega)] at hv
    rw [List.getElem?_replicate] at hu
    rw [Array.getElem?_replicate] at hv
    split at hu
    ·split at hv
     ·cases hu;cases hv;exact .undef
     ·cases hv
    ·cases hu
  ·exact ⟨hZ1,fun o ⟨ob,ho,_⟩=>by simp [start] at ho,fun o o' ⟨ob,ho,_⟩=>by simp [start] at ho,fun o ob ho=>by simp [start] at ho⟩
 let b:Frame:={ (default:Frame) with fn:=f,kind:=.normal }
 have henter:Frame.enter P f args .normal=b.at { tmps:=args++Array.replicate (fn.ntmps-args.size) undef,defers:=[] } [.code c]:=by
  simp [Frame.enter,Frame.at,hf,hb,b]
 obtain ⟨st',a',w',todo,hk,⟨hd,Z',m',hA',hE'⟩,hs⟩:=h w Z1 m [] [] _ w Z1 m rfl hA rfl (Ext.refl _ _ _ _) b cs
 have hlive0:∀ o,¬ liveAt ([]:List HO) o:=fun o ⟨ob,ho,_⟩=>by simp at ho
 unfold retF at hk
 rw [if_pos (by rfl)] at hk
 have hdm:(ResultVar.tmp 1000000 :: fn.results.toList).head?.elim false datMark=false:=rfl
 have htm:(ResultVar.tmp 1000000 :: fn.results.toList).head?.elim false tellMark=false:=rfl
 rw [hdm,htm] at hk
 simp only [List.tail_cons,retOwn] at hk
 split at hk
 case h_2=>cases hk
 rename_i us' hus
 split at hk
 case isFalse=>cases hk
 rename_i hl1
 replace hl1:(objsAll us').length≤1:=of_decide_eq_true (by simpa using hl1)
 cases hes':ownG false st'.heap us' with
 | none=>rw [hes'] at hk;cases hk
 | some es' =>
 rw [hes'] at hk
 simp only [Option.map_some,Option.some.injEq,F.tup.injEq] at hk
 subst hk
 obtain ⟨vs,hvs,hR⟩:=resU_run (P:=P) hA' _ _ hus
 have hres:(results fn a'.tmps).run P w'=.ok (if h:vs.toArray.size=1 then vs.toArray[0] else .tuple vs.toArray) w':=by
  unfold results
  rw [← Array.toArray_toList (xs:=fn.results),List.mapM_toArray]
  simp only [Sem.run_bind,Sem.run_map]
  refine (congrArg (fun q=>Result.andThen (Result.andThen q fun x w=>Result.ok x.toArray w) fun vs w=>(pure (if h:vs.size=1 then vs[0] else .tuple vs):Sem Value).run P w) hvs).trans ?_
  simp [Result.andThen]
 have hold:∀ b,b<w.heap.size→w'.heap[b]?=w.heap[b]?:=fun b hb=>hE'.rest b hb fun o ho=>absurd ho (hlive0 o)
  -- the caller's new heap
 have main:∃ m2,Ext w Z m H w' Z m2 (newObs H slot (obsOf (flatF fs)))∧HOK w' Z m2 (newObs H slot (obsOf (flatF fs)))∧∀ (j:Nat) (e:F) (v:Value),fs[j]?=some e→vs[j]?=some v→RepU w' Z m2 (newObs H slot (obsOf (flatF fs))) (oneU (newAt H slot) e) v:=by
  obtain ⟨hflat,hol,hog⟩:=ownG_flat us' es' hes'
  obtain ⟨hfl,hfg⟩:=owns2_get hes
  have each:∀ (j:Nat) (e:F),fs[j]?=some e→∃ u a,us'[j]?=some u∧ownL false st'.heap u.cells=some a∧Own2 (mkF (isAggU u) a) e:=fun j e he=>by
   have hj:=(List.getElem?_eq_some_iff.1 he).1
   have huj:us'[j]?=some us'[j]:=List.getElem?_eq_getElem (by omega)
   obtain ⟨a,h1,h2⟩:=hog j _ huj
   obtain ⟨e1,h3,h4⟩:=hfg j _ h2
   rw [he] at h3;cases h3
   exact ⟨_,a,huj,h1,h4⟩
  rcases own_form (flatU us') (flatF es') (flatF fs) (Nat.le_trans (objsAll_flat us') hl1) hflat (owns2_flat hes) with ⟨h0,hno⟩ | ⟨o,sz,n,g,g',ho,hsc,hgg,hob,hone⟩
  ·rw [h0]
   have e0:newObs H slot []=H:=rfl
   rw [e0]
   have hEE:Ext w Z m H w' Z m H:=by
    refine ⟨hE'.os,hE'.tape,hE'.output,hE'.size,fun b hb=>hb,fun b hb=>.inl hb,fun b hb=>hold b (hH.zlt b hb),fun b hb _=>hold b hb,Nat.le_refl _,fun k ob ob' h1 h2=>?_,fun k hk=>.inl ⟨hk,rfl⟩⟩
    rw [h1] at h2;cases h2
    cases ob with
    | arr sz n g=>exact ⟨rfl,Nat.le_refl _,fun _=>⟨rfl,by simp only [blockCells,hold _ (hH.blk_lt ⟨_,h1,rfl⟩)]⟩⟩
    | _=>simp [Evol]
   refine ⟨m,hEE,⟨fun b hb=>Nat.lt_of_lt_of_le (hH.zlt b hb) hE'.size,hH.apart,hH.inj,fun k ob hk=>?_⟩,fun j e v he hv=>?_⟩
   ·by_cases hd:ob.live=true
    ·exact (hH.ob k ob hk).mono hEE (hold _ (hH.blk_lt ⟨_,hk,hd⟩))
    ·cases ob <;> simp_all [ObOK,HO.live]
   ·obtain ⟨u,e0,h1,h2,h3⟩:=each j e he
    exact oneU_rep (hR.2 j u v h1 hv) h2 h3 (fun x v h hr=>hr.scal0_any (by simpa using h)) fun x hx o gen off len e=>absurd e (hno x (flatU_mem (List.mem_of_getElem? h1) hx) o gen off len)
  ·rw [hob]
   have eN:newObs H slot [.arr sz n g']=putNew H slot (.arr sz n g'):=by cases slot <;> rfl
   have eA:newAt H slot=placeNew H slot:=by cases slot <;> rfl
   rw [eN,eA]
   have hlo:liveAt st'.heap o:=⟨_,ho,rfl⟩
   let m2:Nat→Nat:=fun k=>if k=placeNew H slot then m' o else m k
   have hfresh:w.heap.size≤m' o:=by
    rcases hE'.new o hlo with ⟨h,_⟩ | h
    ·exact absurd h (hlive0 o)
    ·exact h
   have hmn:m2 (placeNew H slot)=m' o:=by simp [m2]
   have hmk:∀ k,k ≠ placeNew H slot→m2 k=m k:=fun k hk=>by simp only [m2];rw [if_neg hk]
   have hsplit:∀ k,liveAt (putNew H slot (.arr sz n g')) k→k=placeNew H slot ∨ (k ≠ placeNew H slot∧liveAt H k):=by
    rintro k ⟨ob,hk,hl⟩
    by_cases hp:k=placeNew H slot
    ·exact .inl hp
    ·rw [putNew_other _ _ _ hp] at hk;exact .inr ⟨hp,ob,hk,hl⟩
   have hEE:Ext w Z m H w' Z m2 (putNew H slot (.arr sz n g')):=by
    refine ⟨hE'.os,hE'.tape,hE'.output,hE'.size,fun b hb=>hb,fun b hb=>.inl hb,fun b hb=>hold b (hH.zlt b hb),fun b hb _=>hold b hb,putNew_len _ _ _,?_,?_⟩
    ·intro k ob ob' hk hk'
     by_cases hp:k=placeNew H slot
     ·cases hsl:slot with
      | none=>rw [hsl] at hp;subst hp;simp [placeNew] at hk
      | some k' =>
       rw [hsl] at hp
       obtain rfl:k=k':=hp
       rw [hslot k hsl] at hk
       cases hk
       cases ob' <;> simp [Evol]
     ·rw [putNew_other _ _ _ hp,hk] at hk'
      cases hk'
      rw [hmk k hp]
      cases ob with
      | arr sz n g=>exact ⟨rfl,Nat.le_refl _,fun _=>⟨rfl,by simp only [blockCells,hold _ (hH.blk_lt ⟨_,hk,rfl⟩)]⟩⟩
      | _=>simp [Evol]
    ·intro k hk
     rcases hsplit k hk with h1 | ⟨h1,h2⟩
     ·subst h1;right;rw [hmn];exact hfresh
     ·exact .inl ⟨h2,hmk k h1⟩
   refine ⟨m2,hEE,⟨fun b hb=>Nat.lt_of_lt_of_le (hH.zlt b hb) hE'.size,?_,?_,?_⟩,fun j e v he hv=>?_⟩
   ·intro k hk hz
    rcases hsplit k hk with h1 | ⟨h1,h2⟩
    ·subst h1
     rw [hmn] at hz
     have:=hH.zlt _ hz
     omega
    ·rw [hmk k h1] at hz;exact hH.apart k h2 hz
   ·intro k k' hk hk' e
    rcases hsplit k hk with h1 | ⟨h1,g1⟩ <;> rcases hsplit k' hk' with h2 | ⟨h2,g2⟩
    ·rw [h1,h2]
    ·subst h1;rw [hmk k' h2,hmn] at e;have:=hH.blk_lt g2;omega
    ·subst h2;rw [hmk k h1,hmn] at e;have:=hH.blk_lt g1;omega
    ·rw [hmk k h1,hmk k' h2] at e;exact hH.inj k k' g1 g2 e
   ·intro k ob hk
    by_cases hp:k=placeNew H slot
    ·subst hp
     rw [putNew_get _ _ _ hslot] at hk
     cases hk
     rw [hmn]
     obtain ⟨q0,c1,el,fr,q1,q2,q3,q4,q5⟩:=hA'.hok.ob o _ ho
     refine ⟨q0,c1,el,fr,q1,q2,q3,fun i hi=>by rw [← hgg i hi];exact q4 i hi,fun i j u hi hu=>?_⟩
     rw [← hgg i hi] at hu
     obtain ⟨p1,v,p2,p3⟩:=q5 i j u hi hu
     exact ⟨p1,v,p2,p3.scal0_any (scal0_cells (isScal_get hsc hi) hu)⟩
    ·rw [putNew_other _ _ _ hp] at hk
     by_cases hd:ob.live=true
     ·rw [hmk k hp]
      exact (hH.ob k ob hk).mono hEE (hold _ (hH.blk_lt ⟨_,hk,hd⟩))
     ·cases ob <;> simp_all [ObOK,HO.live]
   ·obtain ⟨u,e0,h1,h2,h3⟩:=each j e he
    refine oneU_rep (hR.2 j u v h1 hv) h2 h3 (fun x v h hr=>hr.scal0_any (by simpa using h)) fun x hx o1 gen off len e=>?_
    obtain ⟨rfl,rfl,rfl,rfl⟩:=hone x (flatU_mem (List.mem_of_getElem? h1) hx) o1 gen off len e
    exact ⟨sz,g',rfl,rfl,putNew_get _ _ _ hslot,hmn,g,ho⟩
 obtain ⟨m2,hEE,hHH,hrep⟩:=main
 have hfl:fs.length=vs.length:=by
  rw [← (owns2_get hes).1,← (ownG_flat us' es' hes').2.1];exact hR.1
 refine ⟨.returned _,w',{ b.at a' todo with mode:=.returning },⟨Z,m2,?_⟩,?_,rfl,rfl,hd,rfl,fn,hf,hres⟩
 ·match fs,vs,hfl,hrep,hEE,hHH with
  | [e],[v],_,hrep,hEE,hHH=>exact ⟨hEE,hHH,hrep 0 e v rfl rfl⟩
  | [],[],_,hrep,hEE,hHH=>exact ⟨hEE,hHH,.tup [] [] rfl fun j u v hu=>by simp at hu⟩
  | e1 :: e2 :: fs,v1 :: v2 :: vs,hfl,hrep,hEE,hHH =>
   refine ⟨hEE,hHH,?_⟩
   have:RepU w' Z m2 (newObs H slot (obsOf (flatF (e1 :: e2 :: fs)))) (.tup ((e1 :: e2 :: fs).map (oneU (newAt H slot)))) (.tuple (v1 :: v2 :: vs).toArray):=.tup _ _ (by simpa using hfl) fun j u v hu hv=>by
    rw [List.getElem?_map] at hu
    cases he:(e1 :: e2 :: fs)[j]? with
    | none=>rw [he] at hu;cases hu
    | some e=>rw [he] at hu;cases hu;exact hrep j e v he hv
   simpa [place] using this
  | [_],[],hl,_,_,_=>simp at hl
  | [_],_ :: _ :: _,hl,_,_,_=>simp at hl
  | [],_ :: _,hl,_,_,_=>simp at hl
  | _ :: _ :: _,[],hl,_,_,_=>simp at hl
  | _ :: _ :: _,[_],hl,_,_,_=>simp at hl
 ·rw [henter];exact hs
end
end Go.Proofs.YtkjjmmgddehbhaaGreat.R
namespace Go.Proofs.YtkjjmmgddehbhaaGreat.R
open Go Go.Lib Go.RowKit
section
variable {P:Program} {w:World} {Z:Nat→Prop} {m:Nat→Nat} {H:List HO}
theorem enter_fn {f : FuncId} {fn : Func} {c : Code} (hf : P.funcs[f]? = some fn) (hb : fn.body = some c) (hname : (fn.name == "runtime.NumGoroutine") = false) (args : Array Value) (w : World) :
  (callFunc f args).run P w=.ok (.enter f args) w:=by
 have hp:(program).run P w=.ok P w:=rfl
 unfold callFunc
 simp only [Sem.run_bind,hp,Result.andThen,hf,hname,hb,Option.isNone_some,Bool.false_eq_true,if_false,Sem.run_pure]
theorem Ext.grows {w':World} (hH:HOK w Z m H) (g:Grows w w'):Ext w Z m H w' Z m H∧HOK w' Z m H:=by
 have hE:Ext w Z m H w' Z m H:=by
  refine ⟨g.os,g.tape,g.output,g.size,fun _ h=>h,fun _ h=>.inl h,fun b hb=>g.old b (hH.zlt b hb),fun b hb _=>g.old b hb,Nat.le_refl _,fun o ob ob' h1 h2=>?_,fun o h=>.inl ⟨h,rfl⟩⟩
  rw [h1] at h2;cases h2
  by_cases hd:ob.live=true
  case neg=>cases ob <;> simp_all [Evol,HO.live]
  ·have hlt:=hH.blk_lt (live_of h1 hd)
   have:blockCells w' (m o)=blockCells w (m o):=by simp only [blockCells,g.old _ hlt]
   cases ob <;> simp_all [Evol]
 refine ⟨hE,fun b hb=>Nat.lt_of_lt_of_le (hH.zlt b hb) g.size,hH.apart,hH.inj,fun o ob ho=>?_⟩
 by_cases hd:ob.live=true
 case neg=>cases ob <;> simp_all [ObOK,HO.live]
 ·exact (hH.ob o ob ho).mono hE (g.old _ (hH.blk_lt (live_of ho hd)))
theorem below_alloc_grown {w w1:World} {ob:Obj} (h:(w.alloc ob).grownBy w1 (some w.heap.size)):Below w.heap.size w w1 :=
 ((Below.refl _ w).alloc (Nat.le_refl _) _).grown h (by simp) (by intro k hk;simp at hk;omega)
def posSl:List F→Bool
 | [.sl n _]=>decide (0<n)
 | _=>false
def CloneZero (P:Program) (f:FuncId):Prop :=
 (∀ (c:Nat) (w:World),Calls P f #[.slice none 0 c] w fun e w'=>e=.returned (.slice none 0 0)∧w'=w) ∧
 (∀ (a:Addr) (c:Nat) (w:World),Calls P f #[.slice (some a) 0 c] w fun e w'=>∃ b,e=.returned (.slice (some b) 0 0)∧Below w.heap.size w w')
theorem clone_zero_does {f : FuncId} {fn : Func} {c : Code} (hf : P.funcs[f]? = some fn) (hb : fn.body = some c) (hname : (fn.name == "runtime.NumGoroutine") = false) (h : CloneZero P f) {g : Nat → F} {v : Value} {args : Array Value} (ha : args.toList = [v]) (hv : RepF w Z (.sl 0 g) v) :
  CallDoes P f args w fun v w'=>Grows w w'∧∃ A,v=.slice A 0 0:=by
 have e:args = #[v]:=by rw [← Array.toArray_toList (xs:=args),ha]
 subst e
 cases hv with
 | sl _ _ A c sz a V hc hs hk hA hV hr =>
  refine .inl ⟨enter_fn hf hb hname _ _,?_⟩
  cases A with
  | none =>
   intro cs
   obtain ⟨e,w',fr,he,hcs⟩:=h.1 c w cs
   obtain ⟨rfl,rfl⟩:=he
   refine ⟨.returned (.slice none 0 0),_,fr,?_,hcs⟩
   exact ⟨⟨rfl,rfl,rfl,Nat.le_refl _,fun _ _=>rfl⟩,none,rfl⟩
  | some a0 =>
   intro cs
   obtain ⟨e,w',fr,he,hcs⟩:=h.2 a0 c w cs
   obtain ⟨b,rfl,hB⟩:=he
   refine ⟨.returned (.slice (some b) 0 0),_,fr,?_,hcs⟩
   exact ⟨⟨hB.os,hB.tape,hB.output,hB.size,hB.block⟩,some b,rfl⟩
theorem clone_pure {f : FuncId} {fn : Func} {c : Code} (hf : P.funcs[f]? = some fn) (hb : fn.body = some c) (hname : (fn.name == "runtime.NumGoroutine") = false) (h : CloneZero P f) {pre : List F → Bool} {res : List F → F}
  (hpre:∀ xs,pre xs=true→∃ n g,xs=[.sl n g]) (hres:∀ g,pre [.sl 0 g]=true→∃ g',res [.sl 0 g]=.sl 0 g')
  (hn:PureOK P f (fun xs=>posSl xs&&pre xs) res):PureOK P f pre res:=by
 intro xs hp w Z args hZ hL
 obtain ⟨n,g,rfl⟩:=hpre xs hp
 by_cases h0:n=0
 ·subst h0
  obtain ⟨v,hv⟩:∃ v,args.toList=[v]:=by
   have:=hL.1
   match h:args.toList,this with
   | [v],_=>exact ⟨v,rfl⟩
  obtain ⟨g',hg'⟩:=hres g hp
  rw [hg']
  refine (clone_zero_does hf hb hname h hv (hL.2 0 _ v rfl (by rw [hv];rfl))).mono fun v w' ⟨hg,A,hA⟩=>?_
  subst hA
  refine ⟨hg,Z,fun b hb=>.inl hb,.sl 0 g' A 0 0 ⟨0,0,none⟩ (fun _=>.nilFunc) (Nat.le_refl _) (fun i hi=>by omega) (fun i j u hi=>by omega) (fun h=>absurd rfl h) (fun i j u hi=>by omega) (fun i j u hi=>by omega)⟩
 ·exact hn _ (by simp only [posSl,hp,Bool.and_true];exact decide_eq_true (by omega)) w Z args hZ hL
theorem clone_own {f : FuncId} {fn : Func} {c : Code} (hf : P.funcs[f]? = some fn) (hb : fn.body = some c) (hname : (fn.name == "runtime.NumGoroutine") = false) (h : CloneZero P f) {pre : List F → Bool} {r1 : List F → F}
  (hpre:∀ xs,pre xs=true→∃ n g,xs=[.sl n g]) (hn:SpOK P f (.own (fun xs=>posSl xs&&pre xs) (fun _=>true) r1 r1)):SpOK P f (.own pre posSl r1 (fun _=>.tup [.tup []])):=by
 intro us H slot hs hp w Z m args hH hu
 simp only [ownPre] at hp
 cases hx:toFs H us with
 | none=>rw [hx] at hp;cases hp
 | some xs =>
 rw [hx] at hp
 obtain ⟨n,g,rfl⟩:=hpre xs hp
 by_cases h0:n=0
 ·subst h0
  have e:ownRes slot posSl r1 (fun _=>.tup [.tup []]) us H=(.nils,H):=by
   simp only [ownRes,hx,posSl,Nat.lt_irrefl,decide_false,Bool.false_eq_true,if_false]
   rfl
  rw [e]
  obtain ⟨hl,hg⟩:=toFs_get us _ hx
  obtain ⟨v,hv⟩:∃ v,args.toList=[v]:=by
   have h1:=hu.1
   rw [hl] at h1
   match h:args.toList,h1 with
   | [v],_=>exact ⟨v,rfl⟩
  have hu0:us[0]?=some (us[0]'(by rw [hl];simp)):=List.getElem?_eq_getElem _
  have hr:=toF_rep hH (fun _ _ h=>h) (hu.2 0 _ v hu0 (by rw [hv];rfl)) (hg 0 _ _ hu0 rfl)
  refine (clone_zero_does hf hb hname h hv hr).mono fun v w' ⟨hg,A,hA⟩=>?_
  subst hA
  exact ⟨Z,m,(Ext.grows hH hg).1,(Ext.grows hH hg).2,.nils A⟩
 ·have hps:posSl [.sl n g]=true:=decide_eq_true (by omega)
  have:=hn us H slot hs (by simp only [ownPre,hx,hp,hps,Bool.and_true]) w Z m args hH hu
  have e:ownRes slot (fun _=>true) r1 r1 us H=ownRes slot posSl r1 (fun _=>.tup [.tup []]) us H:=by
   simp only [ownRes,hx,hps,if_true]
  rw [e] at this
  exact this
end
end Go.Proofs.YtkjjmmgddehbhaaGreat.R
namespace Go.Proofs.YtkjjmmgddehbhaaGreat.R
open Go Go.Lib Go.RowKit
noncomputable section
/-! ### function 73 -/
def T73 {ρ:Type} (ret:(Int)→Option ρ) (z:Int):Option ρ :=
 (bsel ((↑(digs 18446744073709551616 z.natAbs).length:Int)==0)
 (ret (0))
 (bsel (decide (0≤IntKind.i64.wrap ((↑(digs 18446744073709551616 z.natAbs).length:Int)-1)))
 (bsel (decide (IntKind.i64.wrap ((↑(digs 18446744073709551616 z.natAbs).length:Int)-1)<(↑(digs 18446744073709551616 z.natAbs).length:Int)))
 (bsel (isWd (↑((digs 18446744073709551616 z.natAbs).getD (IntKind.i64.wrap ((↑(digs 18446744073709551616 z.natAbs).length:Int)-1)).toNat 0):Int))
 (ret (IntKind.i64.wrap (IntKind.i64.wrap (64*(↑(digs 18446744073709551616 z.natAbs).length:Int))-lzV (↑((digs 18446744073709551616 z.natAbs).getD (IntKind.i64.wrap ((↑(digs 18446744073709551616 z.natAbs).length:Int)-1)).toNat 0):Int).toNat)))
 none)
 none)
 none))
def G73 (z:Int):Option (Int):=T73 some z
theorem t73 (z:Int) (r:Int) (h:G73 z=some r):Ends Tryz.prog Tryz.f73.results.toList [.code (bodyOf Tryz.f73)] (start Tryz.f73.ntmps ([numF z].map .f)) (F.int .i64 r):=by
 refine Ends.of_run tyOK envN12_ok (T:=[]) (n:=200) ?_
 refine gE (Y:=T73 (fun r=>some (.ret (F.int .i64 r))) z) (by kernel_rfl) ?_
 exact (gS h (fun _ h=>gR (by cases h;rfl)) (fun _ h=>(gS h (fun _ h=>(gS h (fun _ h=>(gS h (fun _ h=>gR (by cases h;rfl)) gN)) gN)) gN)))
theorem BB_pow (k:Nat):18446744073709551616 ^ k=2 ^ (64*k):=by rw [show 18446744073709551616=2 ^ 64 from rfl,← Nat.pow_mul]
theorem digs_low {m k:Nat} (h:k<(digs 18446744073709551616 m).length):18446744073709551616 ^ k≤m:=by
 rcases Nat.lt_or_ge m (18446744073709551616 ^ k) with h1 | h1
 ·have:=digs_len h1
  omega
 ·exact h1
theorem digs_high (m:Nat):m<18446744073709551616 ^ (digs 18446744073709551616 m).length:=by
 have:=val_lt (digs 18446744073709551616 m) (okD_digs (by omega) m)
 rwa [val_digs (by omega)] at this
theorem bitLen_digs {m:Nat} (hm:m ≠ 0):bitLen m=64*((digs 18446744073709551616 m).length-1)+bitLen ((digs 18446744073709551616 m).getD ((digs 18446744073709551616 m).length-1) 0):=by
 have hne:(digs 18446744073709551616 m).length ≠ 0:=by
  intro h
  exact hm (digs_nil.1 (List.eq_nil_of_length_eq_zero h))
 have hlo:=digs_low (m:=m) (k:=(digs 18446744073709551616 m).length-1) (by omega)
 have hhi:=digs_high m
 rw [digit_at (by omega) _ _ (okD_digs (by omega) m),val_digs (by omega)]
 have hlt:m / 18446744073709551616 ^ ((digs 18446744073709551616 m).length-1)<18446744073709551616:=by
  rw [Nat.div_lt_iff_lt_mul (Nat.pow_pos (by omega))]
  rw [Nat.mul_comm,← Nat.pow_succ]
  rwa [show ((digs 18446744073709551616 m).length-1).succ=(digs 18446744073709551616 m).length by omega]
 rw [Nat.mod_eq_of_lt hlt]
 rw [BB_pow] at hlo ⊢
 exact bitLen_shift hlo
theorem size_law {z:Int} (h:z.natAbs<18446744073709551616 ^ 400):G73 z=some (bitLen z.natAbs:Nat):=by
 unfold G73 T73
 by_cases h0:z.natAbs=0
 ·rw [h0,digs_zero]
  rfl
 ·have hne:(digs 18446744073709551616 z.natAbs).length ≠ 0:=by
   intro h
   exact h0 (digs_nil.1 (List.eq_nil_of_length_eq_zero h))
  have hl:=digs_len h
  clear h
  have e1:IntKind.i64.wrap (((digs 18446744073709551616 z.natAbs).length:Int)-1)=(((digs 18446744073709551616 z.natAbs).length-1:Nat):Int):=by rw [wrapI (by omega) (by omega)];omega
  have hb:=getD_lt' (by omega) (okD_digs (B:=18446744073709551616) (by omega) z.natAbs) ((digs 18446744073709551616 z.natAbs).length-1)
  have hs:=bitLen_digs h0
  have hb2:=bitLen_le64 hb
  rw [show (((digs 18446744073709551616 z.natAbs).length:Int)==0)=false by simp only [beq_eq_false_iff_ne,ne_eq];omega,bsel_false,e1]
  rw [decide_eq_true (show (0:Int)≤(((digs 18446744073709551616 z.natAbs).length-1:Nat):Int) by omega),decide_eq_true (show (((digs 18446744073709551616 z.natAbs).length-1:Nat):Int)<((digs 18446744073709551616 z.natAbs).length:Int) by omega),Int.toNat_natCast]
  simp only [bsel_true]
  rw [isWd_iff.2 (by omega)]
  unfold lzV
  rw [Int.toNat_natCast]
  simp only [bsel_true]
  generalize bitLen ((digs 18446744073709551616 z.natAbs).getD ((digs 18446744073709551616 z.natAbs).length-1) 0)=t at *
  rw [hs]
  congr 1
  rw [wrapI (x:=64*_) (by omega) (by omega),wrapI (by omega) (by omega)]
  omega
def resSize:List F→F | [x]=>.int .i64 (bitLen (unNum x).natAbs:Nat) | _=>.dflt
theorem okSize:PureOK Tryz.prog 73 (preN1 400) resSize :=
 fn_pure_at (c:=bodyOf Tryz.f73) Tryz.func73 (by kernel_rfl) (by kernel_rfl) fun xs hp=>match xs,hp with
 | [x],hp=>⟨[numF (unNum x)],_,⟨(num_eqv hp).1,trivial⟩,t73 _ _ (size_law (natAbs_of_isNum hp)),.refl _⟩
theorem tyW:Tryz.prog.underlying 86=some (.slice 58):=by kernel_rfl
theorem cloneW_nil (n c:Nat) (w:World):Calls Tryz.prog 90 #[.slice none n c] w fun e w'=>e=.returned (.slice none 0 0)∧w'=w:=by
 have q22:∀ (w:World) (a:Option Addr) (n c n' c':Nat),(binOp .eql 86 (.slice a n c) (.slice none n' c')).run Tryz.prog w=.ok (.bool a.isNone) w:=fun w a n c n' c'=>Lib.run_eql_slice_nil w _ _ a n c n' c' tyW
 go_enter Tryz.func90,(rfl:Tryz.f90.ntmps=8)
 go_wp2
 go_ret
 exact ⟨rfl,rfl⟩
set_option maxHeartbeats 2000000 in
theorem cloneW_empty (a:Addr) (c:Nat) (w:World):Calls Tryz.prog 90 #[.slice (some a) 0 c] w fun e w'=>∃ b,e=.returned (.slice (some b) 0 0)∧Below w.heap.size w w':=by
 have q22:∀ (w:World) (a:Option Addr) (n c n' c':Nat),(binOp .eql 86 (.slice a n c) (.slice none n' c')).run Tryz.prog w=.ok (.bool a.isNone) w:=fun w a n c n' c'=>Lib.run_eql_slice_nil w _ _ a n c n' c' tyW
 have u22:∀ w,Sem.run Tryz.prog (underlying 86) w=.ok (TypeDesc.slice 58) w:=run_underlying tyW
 obtain ⟨i0,hi,_,hz,_⟩:=info_parts (P:=Tryz.prog) (e:=58) (z:=.int .u64 0) (size:=1) (bytes:=8) (by kernel_rfl)
 go_enter Tryz.func90,(rfl:Tryz.f90.ntmps=8)
 go_wp2_with (at_builtin;refine wpList_append_fits _ rfl _ _ 86 rfl w.heap.size 58 i0 1 tyW hi hz _ 0 0 [] rfl (World.ownsRow_made w #[] 0 (Nat.le_refl _) (Nat.zero_le _) rfl) a 0 c [] rfl rfl (by intro j u hj;simp at hj) (by intro u hu;cases hu) (by omega) ?_)
 intro w1 hown hgrow
 go_wp2
 go_ret
 exact ⟨⟨w.heap.size,0,none⟩,by kernel_rfl,below_alloc_grown hgrow⟩
theorem cloneW_zero:CloneZero Tryz.prog 90:=⟨cloneW_nil 0,cloneW_empty⟩
/-! ### function 90 -/
def T90 {ρ:Type} (ret:(Nat)→(Nat→F)→Option ρ) (n:Nat) (g:Nat→F):Option ρ :=
 (bsel (decide (0<n))
 (bsel (decide ((g 0).cells.length=1) || decide (n=0))
 (bsel (decide ((↑(0+n):Int)*(((8:Nat):Int)+1)≤(↑limit:Int)))
 (bsel (decide (0+n=0+n))
 (ret (0+n) (fun j ↦ if j<0 then lget [] j else one n g (j-0)))
 none)
 none)
 none)
 none)
def G90 (n:Nat) (g:Nat→F):Option ((Nat) × (Nat→F)):=T90 (fun rn rg=>some (rn,rg)) n g
theorem t90 (n:Nat) (g:Nat→F) (rn:Nat) (rg:Nat→F) (h:G90 n g=some (rn,rg)):Ends Tryz.prog Tryz.f90.results.toList [.code (bodyOf Tryz.f90)] (start Tryz.f90.ntmps ([F.sl n g].map .f)) (F.sl rn rg):=by
 refine Ends.of_run tyOK envN12_ok (T:=[]) (n:=200) ?_
 refine gE (Y:=T90 (fun rn rg=>some (.ret (F.sl rn rg))) n g) (by kernel_rfl) ?_
 exact (gS h (fun _ h=>(gS h (fun _ h=>(gS h (fun _ h=>(gS h (fun _ h=>gR (by cases h;rfl)) gN)) gN)) gN)) gN)
theorem cloneW_law {n:Nat} {g:Nat→F} (h0:0<n) (hn:n≤1000) (hg:(g 0).cells.length=1):∃ rn rg,G90 n g=some (rn,rg)∧rn=n∧∀ j,j<n→rg j=g j:=by
 unfold G90 T90
 rw [decide_eq_true h0,decide_eq_true hg,Nat.zero_add,decide_eq_true (limit_ok hn),decide_eq_true (show n=n from rfl)]
 refine ⟨_,_,rfl,rfl,fun j hj=>?_⟩
 show (if j<0 then lget [] j else one n g (j-0))=g j
 rw [if_neg (by omega),Nat.sub_zero]
 match n,h0,hj with
 | 1,_,hj=>rw [show j=0 by omega];rfl
 | n+2,_,_=>rfl
def preClone:List F→Bool | [.sl n g]=>isWords (.sl n g)&&lenOk 1000 (.sl n g) | _=>false
def resClone:List F→F | [x]=>wordsF (unWords x) | _=>.dflt
theorem preClone_form {xs:List F} (h:preClone xs=true):∃ n g,xs=[.sl n g]:=by
 unfold preClone at h
 split at h
 ·exact ⟨_,_,rfl⟩
 ·cases h
theorem preClone_iff {n:Nat} {g:Nat→F} (h:preClone [.sl n g]=true):isWords (.sl n g)=true∧n≤1000:=by
 simp only [preClone,Bool.and_eq_true] at h
 exact ⟨h.1,by simpa [lenOk] using h.2⟩
theorem words_cell {n:Nat} {g:Nat→F} (h:isWords (.sl n g)=true) (h0:0<n):(g 0).cells.length=1:=by
 simp only [isWords,isSl,List.all_eq_true,List.mem_range] at h
 rw [← w64_eq (h 0 h0)]
 rfl
theorem okClone:PureOK Tryz.prog 90 preClone resClone :=
 clone_pure (c:=bodyOf Tryz.f90) Tryz.func90 (by kernel_rfl) (by kernel_rfl) cloneW_zero (fun _=>preClone_form) (fun g _=>⟨_,rfl⟩) <|
 fn_pure_at (c:=bodyOf Tryz.f90) Tryz.func90 (by kernel_rfl) (by kernel_rfl) fun xs hp=>by
  simp only [Bool.and_eq_true] at hp
  obtain ⟨n,g,rfl⟩:=preClone_form hp.2
  obtain ⟨h1,h2⟩:=preClone_iff hp.2
  have h0:0<n:=of_decide_eq_true hp.1
  obtain ⟨rn,rg,e,rfl,hr⟩:=cloneW_law h0 h2 (words_cell h1 h0)
  exact ⟨[.sl rn g],_,.refl _,t90 _ _ _ _ e,fun w Z v hv=>(words_eqv h1).1 _ _ _ (FLe.sl hr _ _ _ hv)⟩
/-! ### function 90 -/
def T90o {ρ:Type} (ret:(F)→Option ρ) (w:List Nat):Option ρ :=
 (bsel (decide (0<w.length))
 (bsel (decide ((↑(0+w.length):Int)*(((8:Nat):Int)+1)≤(↑limit:Int)))
 (bsel (decide (0+w.length=0+w.length)&&true&&decide (0+w.length=0+w.length))
 (bsel (isScal (0+w.length) fun j ↦ if j<0 then lget [] j else one w.length (fun i ↦ u64F (w.getD i 0)) (j-0))
 (ret (F.tup [F.tup [F.int .i64 ((1:Nat):Int),F.sl (0+w.length) fun j ↦ if j<0 then lget [] j else one w.length (fun i ↦ u64F (w.getD i 0)) (j-0)]]))
 none)
 none)
 none)
 none)
def G90o (w:List Nat):Option (F):=T90o some w
theorem t90o (w:List Nat) (r:F) (h:G90o w=some r):Ends Tryz.prog (ResultVar.tmp 1000000 :: Go.Proofs.Tryz.f90.results.toList) [.code (bodyOf Tryz.f90)] (start Tryz.f90.ntmps ([wordsF w].map .f)) (r):=by
 refine Ends.of_run tyOK envN12_ok (T:=[]) (n:=200) ?_
 refine gE (Y:=T90o (fun r=>some (.ret (r))) w) (by kernel_rfl) ?_
 exact (gS h (fun _ h=>(gS h (fun _ h=>(gS h (fun _ h=>(gS h (fun _ h=>gR (by cases h;rfl)) gN)) gN)) gN)) gN)
def ownClone:List F→F | [x]=>.tup [.tup [.int .i64 1,wordsF (unWords x)]] | _=>.dflt
theorem okCloneO:SpOK Tryz.prog 90 (.own preClone posSl ownClone (fun _=>.tup [.tup []])) :=
 clone_own (c:=bodyOf Tryz.f90) Tryz.func90 (by kernel_rfl) (by kernel_rfl) cloneW_zero (fun _=>preClone_form) <|
 fn_own (c:=bodyOf Tryz.f90) Tryz.func90 (by kernel_rfl) (by kernel_rfl) fun xs hp=>by
  simp only [Bool.and_eq_true] at hp
  obtain ⟨n,g,rfl⟩:=preClone_form hp.2
  obtain ⟨h1,h2⟩:=preClone_iff hp.2
  have h0:0<n:=of_decide_eq_true hp.1
  have hlen:(unWords (.sl n g)).length=n:=unSl_len _ _ _
  have e:ownClone [.sl n g]=.tup [.tup [.int .i64 ((1:Nat):Int),wordsF (unWords (.sl n g))]]:=rfl
  simp only [if_true]
  rw [e]
  have hx:=(words_eqv h1).1
  generalize unWords (.sl n g)=l at hx hlen ⊢
  subst hlen
  have ho:=fun r=>t90o l r
  unfold G90o T90o at ho
  rw [decide_eq_true h0,Nat.zero_add,decide_eq_true (limit_ok h2),decide_eq_true (show l.length=l.length from rfl)] at ho
  have hE:∀ j,j<l.length→(fun j=>if j<0 then lget [] j else one l.length (fun i=>u64F (l.getD i 0)) (j-0)) j=u64F (l.getD j 0):=by
   intro j hj
   show (if j<0 then lget [] j else one l.length (fun i=>u64F (l.getD i 0)) (j-0))=u64F (l.getD j 0)
   rw [if_neg (by omega),Nat.sub_zero]
   generalize l.length=n at h0 hj
   match n,h0,hj with
   | 1,_,hj=>rw [show j=0 by omega];rfl
   | n+2,_,_=>rfl
  have hS:isScal l.length (fun j=>if j<0 then lget [] j else one l.length (fun i=>u64F (l.getD i 0)) (j-0))=true:=by
   unfold isScal
   rw [List.all_eq_true]
   intro j hj
   rw [hE j (List.mem_range.1 hj)]
   rfl
  simp only [Bool.and_true,bsel_true,hS] at ho
  exact ⟨[wordsF l],_,[.tup [.int .i64 ((1:Nat):Int),wordsF l]],⟨hx,trivial⟩,ho _ rfl,⟨.of (.obj _ _ _ _ _ hE),trivial⟩,rfl⟩
def envN13:Env:=(envN12.add 73 (.pure (preN1 400) resSize)).add 90 (.pure preClone resClone)
theorem envN13_ok:EnvOK Tryz.prog envN13:=(Env.add_ok (Env.add_ok envN12_ok okSize.sp) okClone.sp)
end
end Go.Proofs.YtkjjmmgddehbhaaGreat.R
