/-
 The own walk and what it shows,part 6 of 10.
-/
import Derived.Test.YtlefbocihikaoaaGreatJ1
import Derived.Test.YtlefbocihikaoaaGreatJ2
import Derived.Test.YtlefbocihikaoaaGreatJ3
import Derived.Test.YtlefbocihikaoaaGreatJ4
import Derived.Test.YtlefbocihikaoaaGreatJ5
set_option linter.unusedVariables false
set_option linter.unusedSimpArgs false
set_option maxRecDepth 100000
set_option exponentiation.threshold 30000
namespace Go.Proofs.YtlefbocihikaoaaGreat.R
open Go
noncomputable section
/-! ### function 106 -/
abbrev Kg (ρ:Type):=(F)→Option ρ
def T106 {ρ:Type} (ret:Kg ρ) (x:Int) (y:Int):Option ρ :=
 (AC (A1 800 (AX y))
 (AC (A1 800 (AX x)&&A1 800 (MP [AX y]))
 (ret (AX (AW (AX x)+AW (MP [AX y]))))
 none)
 none)
def G106 (x:Int) (y:Int):Option (F):=T106 some x y
theorem t106 (x:Int) (y:Int) (r:F) (h:G106 x y=some r):AY Tryz.prog Tryz.f106.results.toList [.code (AR Tryz.f106)] (start Tryz.f106.ntmps ([AX x,AX y].map .f)) (r):=by
 refine AY.of_run Ap HV (T:=[]) (n:=200) ?_
 refine gE (Y:=T106 (fun r=>some (.ret (r))) x y) (by kernel_rfl) ?_
 exact (gS h (fun _ h=>(gS h (fun _ h=>gR (by cases h;rfl)) gN)) gN)
theorem kA {x y:Int} (hx:x.natAbs<4294967296 ^ 800) (hy:y.natAbs<4294967296 ^ 800):G106 x y=some (AX (x-y)):=by
 unfold G106 T106
 have h1:(-y).natAbs<4294967296 ^ 800:=by rw [Int.natAbs_neg];exact hy
 simp only [MP,Cm,Bs hx,Bs hy,Bs h1,Bool.and_self,AF]
 rfl
def MM:List F→F | [x,y]=>AX (AW x-AW y) | _=>.dflt
theorem okSubZ:Ai Tryz.prog 106 (Jd 800) MM :=
 Ae (c:=AR Tryz.f106) Tryz.func106 (by kernel_rfl) (by kernel_rfl) fun xs hp=>match xs,hp with
 | [x,y],hp=>by
  obtain ⟨hx,hy⟩:=IR hp
  exact ⟨[AX (AW x),AX (AW y)],_,⟨(C0 hx).1,(C0 hy).1,trivial⟩,t106 _ _ _ (kA (BJ hx) (BJ hy)),.refl _⟩
/-! ### function 57 -/
def eK (s:Bool) (a:List Nat) (t:Bool) (b:List Nat) (m:Nat) (g:Nat→F) (i:Int):St:=⟨Ag 2 ((U.hp 0 0) :: (U.hp 1 0) :: (U.hp 2 0) :: (U.hs 3 m 0 m) :: (U.f (F.int .i64 i)) :: Ag 83 []),[HO.box [(U.f (F.bool s)),(U.f (AN a))],HO.box [(U.f (F.bool t)),(U.f (AN b))],HO.box [(U.f (F.bool false)),U.nils],HO.arr 1 m g]⟩
def eJ (s:Bool) (a:List Nat) (t:Bool) (b:List Nat) (m:Nat) (g:Nat→F) (i:Int) (c:Int) (j:Int):St:=⟨Ag 2 ((U.hp 0 0) :: (U.hp 1 0) :: (U.hp 2 0) :: (U.hs 3 m 0 m) :: (U.f (F.int .i64 i)) :: (U.f (F.int .u64 c)) :: (U.f (F.int .i64 j)) :: Ag 81 []),[HO.box [(U.f (F.bool s)),(U.f (AN a))],HO.box [(U.f (F.bool t)),(U.f (AN b))],HO.box [(U.f (F.bool false)),U.nils],HO.arr 1 m g]⟩
abbrev KJ61 (ρ:Type):=(Bool)→(List Nat)→(Bool)→(List Nat)→(Nat)→(Nat→F)→(Int)→(Int)→(Int)→Option ρ
abbrev KJ62 (ρ:Type):=(Bool)→(List Nat)→(Bool)→(List Nat)→(Nat)→(Nat→F)→(Int)→Option ρ
def dS {ρ:Type} (ret:Kg ρ) (c5:KJ62 ρ) (c9:KJ61 ρ) (s:Bool) (a:List Nat) (t:Bool) (b:List Nat) (m:Nat) (g:Nat→F) (i:Int):Option ρ :=
 (AC (decide (i<(↑a.length:Int)))
 (c9 (s) (a) (t) (b) (m) (g) (i) (0) (0))
 (AC (decide (m=m))
 (AC (A4 (F.sl m (B3 0 g))&&BD 2000 (F.sl m (B3 0 g)))
 (ret (AX (sgn (!s==t) (val 4294967296 (AS (F.sl m (B3 0 g)))))))
 none)
 none))
def dR {ρ:Type} (ret:Kg ρ) (c5:KJ62 ρ) (c9:KJ61 ρ) (s:Bool) (a:List Nat) (t:Bool) (b:List Nat) (m:Nat) (g:Nat→F) (i:Int) (c:Int) (j:Int):Option ρ :=
 (AC (decide (j<(↑b.length:Int)))
 (AC (decide (0≤i))
 (AC (decide (i<(↑a.length:Int)))
 (AC (decide (0≤j))
 (AC (decide (j<(↑b.length:Int)))
 (AC (decide (m=m))
 (AC (decide (0≤IntKind.i64.wrap (i+j)))
 (AC (decide (IntKind.i64.wrap (i+j)<(↑m:Int)))
 (AC (decide (m=m))
 (AC (decide (0+(IntKind.i64.wrap (i+j)).toNat<m))
 (AC (decide ((g (0+(IntKind.i64.wrap (i+j)).toNat)).cells.length=1))
 (AC (okV (Value.int IntKind.u32 0) ((List.drop 0 (g (0+(IntKind.i64.wrap (i+j)).toNat)).cells).headD F.dflt)&&true)
 (AC (decide (m=m))
 (AC (decide (0≤IntKind.i64.wrap (i+j)))
 (AC (decide (IntKind.i64.wrap (i+j)<(↑m:Int)))
 (AC (decide (m=m))
 (AC (decide (0+(IntKind.i64.wrap (i+j)).toNat<m))
 (AC (decide ((g (0+(IntKind.i64.wrap (i+j)).toNat)).cells.length=1))
 (AC ((CO (g (0+(IntKind.i64.wrap (i+j)).toNat)) || true)&&true)
 (c9 (s) (a) (t) (b) (m) (fun j_1 ↦ if j_1=0+(IntKind.i64.wrap (i+j)).toNat then F.int .u32 (IntKind.u32.wrap (IntKind.u64.wrap (IntKind.u64.wrap (c+IntKind.u64.wrap (IntKind.u64.wrap (↑(a.getD i.toNat 0):Int)*IntKind.u64.wrap (↑(b.getD j.toNat 0):Int)))+IntKind.u64.wrap (Ex ((List.drop 0 (g (0+(IntKind.i64.wrap (i+j)).toNat)).cells).headD F.dflt))))) else g j_1) (i) ((IntKind.u64.wrap (IntKind.u64.wrap (c+IntKind.u64.wrap (IntKind.u64.wrap (↑(a.getD i.toNat 0):Int)*IntKind.u64.wrap (↑(b.getD j.toNat 0):Int)))+IntKind.u64.wrap (Ex ((List.drop 0 (g (0+(IntKind.i64.wrap (i+j)).toNat)).cells).headD F.dflt)))).fdiv (2 ^ min (Int.toNat 32) IntKind.u64.bits)) (IntKind.i64.wrap (j+1)))
 none)
 none)
 none)
 none)
 none)
 none)
 none)
 none)
 none)
 none)
 none)
 none)
 none)
 none)
 none)
 none)
 none)
 none)
 (AC (decide (m=m))
 (AC (decide (0≤IntKind.i64.wrap (i+(↑b.length:Int))))
 (AC (decide (IntKind.i64.wrap (i+(↑b.length:Int))<(↑m:Int)))
 (AC (decide (m=m))
 (AC (decide (0+(IntKind.i64.wrap (i+(↑b.length:Int))).toNat<m))
 (AC (decide ((g (0+(IntKind.i64.wrap (i+(↑b.length:Int))).toNat)).cells.length=1))
 (AC ((CO (g (0+(IntKind.i64.wrap (i+(↑b.length:Int))).toNat)) || true)&&true)
 (c5 (s) (a) (t) (b) (m) (fun j ↦ if j=0+(IntKind.i64.wrap (i+(↑b.length:Int))).toNat then F.int .u32 (IntKind.u32.wrap c) else g j) (IntKind.i64.wrap (i+1)))
 none)
 none)
 none)
 none)
 none)
 none)
 none))
mutual
def Of:Nat→(Bool)→(List Nat)→(Bool)→(List Nat)→(Nat)→(Nat→F)→(Int)→Option (F)
 | 0,_,_,_,_,_,_,_=>none
 | k+1,s,a,t,b,m,g,i=>dS some (Of k) (Qv k) s a t b m g i
def Qv:Nat→(Bool)→(List Nat)→(Bool)→(List Nat)→(Nat)→(Nat→F)→(Int)→(Int)→(Int)→Option (F)
 | 0,_,_,_,_,_,_,_,_,_=>none
 | k+1,s,a,t,b,m,g,i,c,j=>dR some (Of k) (Qv k) s a t b m g i c j
end
def T57 {ρ:Type} (ret:Kg ρ) (c5:KJ62 ρ) (c9:KJ61 ρ) (x:Int) (y:Int):Option ρ :=
 (AC (((↑(AM 4294967296 x.natAbs).length:Int)==0)==false)
 (AC ((↑(AM 4294967296 y.natAbs).length:Int)==0)
 (ret (F.agg [F.bool false,F.sl 0 fun x ↦ F.bool false]))
 (AC (decide (0≤IntKind.i64.wrap ((↑(AM 4294967296 x.natAbs).length:Int)+(↑(AM 4294967296 y.natAbs).length:Int))))
 (AC (decide (IntKind.i64.wrap ((↑(AM 4294967296 x.natAbs).length:Int)+(↑(AM 4294967296 y.natAbs).length:Int))≤IntKind.i64.wrap ((↑(AM 4294967296 x.natAbs).length:Int)+(↑(AM 4294967296 y.natAbs).length:Int))))
 (AC (decide (IntKind.i64.wrap ((↑(AM 4294967296 x.natAbs).length:Int)+(↑(AM 4294967296 y.natAbs).length:Int))*(((4:Nat):Int)+1)≤(↑BC:Int)))
 (c5 (decide (x<0)) (AM 4294967296 x.natAbs) (decide (y<0)) (AM 4294967296 y.natAbs) ((IntKind.i64.wrap ((↑(AM 4294967296 x.natAbs).length:Int)+(↑(AM 4294967296 y.natAbs).length:Int))).toNat) (fun x ↦ F.int .u32 0) (0))
 none)
 none)
 none))
 (ret (F.agg [F.bool false,F.sl 0 fun x ↦ F.bool false])))
def G57 (k:Nat) (x:Int) (y:Int):Option (F):=T57 some (Of k) (Qv k) x y
mutual
theorem t57_5:∀ (k:Nat) (s:Bool) (a:List Nat) (t:Bool) (b:List Nat) (m:Nat) (g:Nat→F) (i:Int) (r:F),Of k s a t b m g i=some r→AY Tryz.prog Tryz.f57.results.toList (at_ Tryz.f57 5) (eK s a t b m g i) (r)
 | 0,_,_,_,_,_,_,_,_,h=>nomatch h
 | k+1,s,a,t,b,m,g,i,r,h=>by
  refine AY.of_cut Ap HV (T:=[(5,[2,3,4,5,6],1000),(9,[2,3,4,5,6,7,8],1000)]) (n:=200) ?_
  refine gE (Y:=dS (fun r=>some (.ret (r))) (fun s a t b m g i=>some (.cut (at_ Tryz.f57 5) (eK s a t b m g i))) (fun s a t b m g i c j=>some (.cut (at_ Tryz.f57 9) (eJ s a t b m g i c j))) s a t b m g i) (by kernel_rfl) ?_
  exact (gS h (fun _ h=>gC (t57_9 k _ _ _ _ _ _ _ _ _ r h)) (fun _ h=>(gS h (fun _ h=>(gS h (fun _ h=>gR (by cases h;rfl)) gN)) gN)))
theorem t57_9:∀ (k:Nat) (s:Bool) (a:List Nat) (t:Bool) (b:List Nat) (m:Nat) (g:Nat→F) (i:Int) (c:Int) (j:Int) (r:F),Qv k s a t b m g i c j=some r→AY Tryz.prog Tryz.f57.results.toList (at_ Tryz.f57 9) (eJ s a t b m g i c j) (r)
 | 0,_,_,_,_,_,_,_,_,_,_,h=>nomatch h
 | k+1,s,a,t,b,m,g,i,c,j,r,h=>by
  refine AY.of_cut Ap HV (T:=[(5,[2,3,4,5,6],1000),(9,[2,3,4,5,6,7,8],1000)]) (n:=200) ?_
  refine gE (Y:=dR (fun r=>some (.ret (r))) (fun s a t b m g i=>some (.cut (at_ Tryz.f57 5) (eK s a t b m g i))) (fun s a t b m g i c j=>some (.cut (at_ Tryz.f57 9) (eJ s a t b m g i c j))) s a t b m g i c j) (by kernel_rfl) ?_
  exact (gS h (fun _ h=>(gS h (fun _ h=>(gS h (fun _ h=>(gS h (fun _ h=>(gS h (fun _ h=>(gS h (fun _ h=>(gS h (fun _ h=>(gS h (fun _ h=>(gS h (fun _ h=>(gS h (fun _ h=>(gS h (fun _ h=>(gS h (fun _ h=>(gS h (fun _ h=>(gS h (fun _ h=>(gS h (fun _ h=>(gS h (fun _ h=>(gS h (fun _ h=>(gS h (fun _ h=>(gS h (fun _ h=>gC (t57_9 k _ _ _ _ _ _ _ _ _ r h)) gN)) gN)) gN)) gN)) gN)) gN)) gN)) gN)) gN)) gN)) gN)) gN)) gN)) gN)) gN)) gN)) gN)) gN)) (fun _ h=>(gS h (fun _ h=>(gS h (fun _ h=>(gS h (fun _ h=>(gS h (fun _ h=>(gS h (fun _ h=>(gS h (fun _ h=>(gS h (fun _ h=>gC (t57_5 k _ _ _ _ _ _ _ r h)) gN)) gN)) gN)) gN)) gN)) gN)) gN)))
end
theorem t57 (k:Nat) (x:Int) (y:Int) (r:F) (h:G57 k x y=some r):AY Tryz.prog Tryz.f57.results.toList [.code (AR Tryz.f57)] (start Tryz.f57.ntmps ([AX x,AX y].map .f)) (r):=by
 refine AY.of_run Ap HV (T:=[(5,[2,3,4,5,6],1000),(9,[2,3,4,5,6,7,8],1000)]) (n:=200) ?_
 refine gE (Y:=T57 (fun r=>some (.ret (r))) (fun s a t b m g i=>some (.cut (at_ Tryz.f57 5) (eK s a t b m g i))) (fun s a t b m g i c j=>some (.cut (at_ Tryz.f57 9) (eJ s a t b m g i c j))) x y) (by kernel_rfl) ?_
 exact (gS h (fun _ h=>(gS h (fun _ h=>gR (by cases h;rfl)) (fun _ h=>(gS h (fun _ h=>(gS h (fun _ h=>(gS h (fun _ h=>gC (t57_5 k _ _ _ _ _ _ _ r h)) gN)) gN)) gN)))) (fun _ h=>gR (by cases h;rfl)))
theorem ZB {x y o c:Nat} (hx:x<4294967296) (hy:y<4294967296) (ho:o<4294967296) (hc:c<4294967296) :
  F.int .u32 (IntKind.u32.wrap (IntKind.u64.wrap (IntKind.u64.wrap ((c:Int)+IntKind.u64.wrap (IntKind.u64.wrap (x:Int)*IntKind.u64.wrap (y:Int)))+IntKind.u64.wrap (o:Int))))=Cn ((x*y+o+c) % 4294967296) ∧
  (IntKind.u64.wrap (IntKind.u64.wrap ((c:Int)+IntKind.u64.wrap (IntKind.u64.wrap (x:Int)*IntKind.u64.wrap (y:Int)))+IntKind.u64.wrap (o:Int))).fdiv (2 ^ min (Int.toNat 32) IntKind.u64.bits)=(((x*y+o+c) / 4294967296:Nat):Int)∧(x*y+o+c) / 4294967296<4294967296:=by
 have h:=Wp (B:=4294967296) (by omega) hx hy ho hc
 have hb:x*y+o+c<18446744073709551616:=by
  rw [Nat.div_lt_iff_lt_mul (by omega)] at h
  exact h
 have e:IntKind.u64.wrap (IntKind.u64.wrap ((c:Int)+IntKind.u64.wrap (IntKind.u64.wrap (x:Int)*IntKind.u64.wrap (y:Int)))+IntKind.u64.wrap (o:Int))=((x*y+o+c:Nat):Int):=by
  rw [CJ (show x<18446744073709551616 by omega),CJ (show y<18446744073709551616 by omega),CJ (show o<18446744073709551616 by omega),← Int.natCast_mul]
  clear h
  generalize x*y=p at *
  simp only [DR]
  omega
 rw [e,Jw]
 refine ⟨congrArg (F.int .u32) ?_,rfl,h⟩
 rw [HE]
 omega
theorem Sd {s t:Bool} {a b:List Nat} {m i:Nat} (oa:okD 4294967296 a) (ob:okD 4294967296 b) (hm:m=a.length+b.length) (hi:i<a.length) (hl:m≤1900) :
  ∀ (r j c k:Nat) (o:List Nat) (g:Nat→F),r+j=b.length→o.length=m→okD 4294967296 o→c<4294967296→(∀ q,i+j≤q→(j=0 ∨ i+b.length≤q)→(i+b.length≤q→o.getD q 0=0)) →
   (∀ q,q<m→g q=Cn (o.getD q 0))→r<k →
   ∃ o' g',Qv (k+1) s a t b m g i c j=Of (k-r) s a t b m g' ((i+1:Nat):Int)∧o'.length=m∧okD 4294967296 o'∧(∀ q,i+1+b.length≤q→o'.getD q 0=0) ∧
    (∀ q,q<m→g' q=Cn (o'.getD q 0))∧val 4294967296 o'+4294967296 ^ i*a.getD i 0*val 4294967296 (b.take j)=val 4294967296 o+4294967296 ^ (i+j)*c+4294967296 ^ i*a.getD i 0*val 4294967296 b
 | r,j,c,0,o,g,_,_,_,_,_,_,hk=>by omega
 | 0,j,c,k+1,o,g,hr,ho,oo,hc,hz,hg,hk=>by
  obtain rfl:j=b.length:=by omega
  have hp:i+b.length<m:=by omega
  have ei:IntKind.i64.wrap ((i:Int)+(b.length:Int))=((i+b.length:Nat):Int):=by rw [Av (by omega) (by omega)];omega
  have e1:IntKind.i64.wrap ((i:Int)+1)=((i+1:Nat):Int):=by rw [Av (by omega) (by omega)];omega
  have e2:F.int .u32 (IntKind.u32.wrap (c:Int))=Cn c:=congrArg (F.int .u32) (by rw [HE];omega)
  refine ⟨o.set (i+b.length) c,_,?_,by simp [ho],MZ oo hc,?_,Lk ho hp hg,?_⟩
  ·rw [Qv]
   unfold dR
   rw [decide_eq_false (show ¬ (b.length:Int)<b.length by omega),AJ,ei,e1,Int.toNat_natCast,decide_eq_true (show (0:Int)≤((i+b.length:Nat):Int) by omega),decide_eq_true (show ((i+b.length:Nat):Int)<(m:Int) by omega),Ez,decide_eq_true (show 0+(i+b.length)<m by omega),hg (0+(i+b.length)) (by omega),decide_eq_true (NB _),EE,e2]
   rfl
  ·intro q hq
   rw [Mp (by omega)]
   exact hz q (by omega) (.inr (by omega)) (by omega)
  ·have h1:=L9 4294967296 o (i+b.length) c (by omega)
   rw [hz (i+b.length) (by omega) (.inr (by omega)) (by omega),Nat.mul_zero,Nat.add_zero] at h1
   rw [h1,List.take_length]
 | r+1,j,c,k+1,o,g,hr,ho,oo,hc,hz,hg,hk=>by
  have hj:j<b.length:=by omega
  have hp:i+j<m:=by omega
  have hx:=DC oa hi
  have hy:=DC ob hj
  have hov:=DC oo (show i+j<o.length by omega)
  obtain ⟨c1,c2,c6⟩:=ZB hx hy hov hc
  have ei:IntKind.i64.wrap ((i:Int)+(j:Int))=((i+j:Nat):Int):=by rw [Av (by omega) (by omega)];omega
  have e1:IntKind.i64.wrap ((j:Int)+1)=((j+1:Nat):Int):=by rw [Av (by omega) (by omega)];omega
  obtain ⟨o',g',h1,h2,h3,h4,h5,h6⟩:=Sd (s:=s) (t:=t) oa ob hm hi hl r (j+1) ((a.getD i 0*b.getD j 0+o.getD (i+j) 0+c) / 4294967296) k (o.set (i+j) ((a.getD i 0*b.getD j 0+o.getD (i+j) 0+c) % 4294967296)) _ (by omega) (by simp [ho]) (MZ oo (Nat.mod_lt _ (by omega))) c6
   (fun q hq _ hq2=>by rw [Mp (by omega)];exact hz q (by omega) (.inr hq2) hq2) (Lk ho hp hg) (by omega)
  refine ⟨o',g',?_,h2,h3,h4,h5,?_⟩
  ·rw [show k+1-(r+1)=k-r by omega,← h1]
   conv=>lhs;rw [Qv]
   unfold dR
   rw [decide_eq_true (show (j:Int)<b.length by omega),decide_eq_true (show (0:Int)≤(j:Int) by omega),decide_eq_true (show (0:Int)≤(i:Int) by omega),decide_eq_true (show (i:Int)<a.length by omega),ei,e1,Int.toNat_natCast,Int.toNat_natCast,Int.toNat_natCast,decide_eq_true (show (0:Int)≤((i+j:Nat):Int) by omega),decide_eq_true (show ((i+j:Nat):Int)<(m:Int) by omega),Ez,decide_eq_true (show 0+(i+j)<m by omega),hg (0+(i+j)) (by omega),decide_eq_true (NB _),Xw,cD,SD,EE,Nat.zero_add,c1,c2]
   rfl
  ·have hs:=VT (B:=4294967296) (o:=o) (p:=i+j) (c:=c) (x:=a.getD i 0) (y:=b.getD j 0) (by omega)
   have ht:=GN (B:=4294967296) (l:=b) hj
   rw [ht,Nat.mul_add] at h6
   have e2:4294967296 ^ (i+j)*(a.getD i 0*b.getD j 0)=4294967296 ^ i*a.getD i 0*(4294967296 ^ j*b.getD j 0):=by
    rw [Nat.pow_add,Nat.mul_assoc,Nat.mul_assoc]
    congr 1
    rw [Nat.mul_left_comm]
   rw [show i+(j+1)=i+j+1 by omega] at h6
   omega
theorem Sc {s t:Bool} {a b:List Nat} {m:Nat} (oa:okD 4294967296 a) (ob:okD 4294967296 b) (hm:m=a.length+b.length) (hl:m≤1900) :
  ∀ (r i k:Nat) (o:List Nat) (g:Nat→F),r+i=a.length→o.length=m→okD 4294967296 o→(∀ q,i+b.length≤q→o.getD q 0=0)→(∀ q,q<m→g q=Cn (o.getD q 0))→val 4294967296 o=val 4294967296 (a.take i)*val 4294967296 b →
   r*(b.length+3)<k→Of k s a t b m g i=some (AX (sgn (!(s==t)) (val 4294967296 a*val 4294967296 b)))
 | r,i,0,o,g,_,_,_,_,_,_,hk=>by omega
 | 0,i,k+1,o,g,hr,ho,oo,hz,hg,hv,hk=>by
  obtain rfl:i=a.length:=by omega
  rw [List.take_length] at hv
  rw [Of]
  unfold dS
  rw [decide_eq_false (show ¬ (a.length:Int)<a.length by omega),AJ,show B3 0 g=g from rfl,EA ho hg,EC ho hg oo,show BD 2000 (.sl m g)=true from Nat.ble_eq_true_of_le (by omega),hv,Ez]
  rfl
 | r+1,i,k+1,o,g,hr,ho,oo,hz,hg,hv,hk=>by
  have hi:i<a.length:=by omega
  rw [Nat.add_mul,Nat.one_mul] at hk
  obtain ⟨k',rfl⟩:∃ k',k=k'+1:=⟨k-1,by omega⟩
  obtain ⟨o',g',h1,h2,h3,h4,h5,h6⟩:=Sd (s:=s) (t:=t) oa ob hm hi hl b.length 0 0 k' o g (by omega) ho oo (by omega) (fun q _ _ hq=>hz q hq) hg (by omega)
  have hv':val 4294967296 o'=val 4294967296 (a.take (i+1))*val 4294967296 b:=by
   rw [GN hi,Nat.add_mul,← hv]
   simp only [List.take_zero,val,Nat.mul_zero,Nat.add_zero] at h6
   exact h6
  rw [Of]
  unfold dS
  rw [decide_eq_true (show (i:Int)<a.length by omega),AF]
  exact h1.trans (Sc (s:=s) (t:=t) oa ob hm hl r (i+1) (k'-b.length) o' g' (by omega) h2 h3 (fun q hq=>h4 q hq) h5 hv' (by omega))
theorem mN {x y:Int} (hx:x.natAbs<4294967296 ^ 900) (hy:y.natAbs<4294967296 ^ 900):∃ r,G57 2000000 x y=some r∧FLe r (AX (x*y)):=by
 have lx:=Cw hx
 have ly:=Cw hy
 clear hx hy
 have z:FLe (F.agg [.bool false,.sl 0 fun _=>F.bool false]) (AX 0):=by
  unfold AX
  rw [show AM 4294967296 (Int.natAbs 0)=[] from BU _]
  exact FLe.agg ⟨.refl _,FLe.sl fun j hj=>by omega,trivial⟩
 unfold G57 T57
 by_cases hx0:x=0
 ·subst hx0
  rw [show AM 4294967296 (Int.natAbs 0)=[] from BU _,Int.zero_mul]
  exact ⟨_,rfl,z⟩
 have px:=Dh (n:=x.natAbs).2 (by omega)
 rw [show (((AM 4294967296 x.natAbs).length:Int)==0)=false by simp only [beq_eq_false_iff_ne,ne_eq];omega,show (false==false)=true from rfl,AF]
 by_cases hy0:y=0
 ·subst hy0
  rw [show AM 4294967296 (Int.natAbs 0)=[] from BU _,Int.mul_zero]
  exact ⟨_,rfl,z⟩
 have py:=Dh (n:=y.natAbs).2 (by omega)
 have ew:IntKind.i64.wrap (((AM 4294967296 x.natAbs).length:Int)+((AM 4294967296 y.natAbs).length:Int))=(((AM 4294967296 x.natAbs).length+(AM 4294967296 y.natAbs).length:Nat):Int):=by
  rw [Av (by omega) (by omega)];omega
 rw [ew,show (((AM 4294967296 y.natAbs).length:Int)==0)=false by simp only [beq_eq_false_iff_ne,ne_eq];omega,AJ]
 rw [decide_eq_true (show (0:Int)≤(((AM 4294967296 x.natAbs).length+(AM 4294967296 y.natAbs).length:Nat):Int) by omega),decide_eq_true (Int.le_refl _),decide_eq_true (DK (show (AM 4294967296 x.natAbs).length+(AM 4294967296 y.natAbs).length≤3000 by omega)),Int.toNat_natCast]
 simp only [AF]
 have fuel:(AM 4294967296 x.natAbs).length*((AM 4294967296 y.natAbs).length+3)<2000000:=Nat.lt_of_le_of_lt (Nat.mul_le_mul lx (show (AM 4294967296 y.natAbs).length+3≤903 by omega)) (by decide)
 have h:=Sc (s:=decide (x<0)) (t:=decide (y<0)) (a:=AM 4294967296 x.natAbs) (b:=AM 4294967296 y.natAbs) (BH (by omega) _) (BH (by omega) _) rfl (by omega) (AM 4294967296 x.natAbs).length 0 2000000 (List.replicate ((AM 4294967296 x.natAbs).length+(AM 4294967296 y.natAbs).length) 0) (fun _=>F.int .u32 0) rfl (by simp)
  (fun w hw=>by have:=(List.mem_replicate.1 hw).2;omega) (fun q hq=>by simp [List.getD,List.getElem?_replicate];split <;> rfl) (fun q hq=>by simp [List.getD,List.getElem?_replicate,Cn,hq]) (by rw [Ki];simp [val]) fuel
 rw [BV,BV,aI] at h
 exact ⟨_,h,.refl _⟩
def BF:List F→F | [x,y]=>AX (AW x*AW y) | _=>.dflt
theorem okMulZ:Ai Tryz.prog 57 (Jd 900) BF :=
 Ae (c:=AR Tryz.f57) Tryz.func57 (by kernel_rfl) (by kernel_rfl) fun xs hp=>match xs,hp with
 | [x,y],hp=>by
  obtain ⟨hx,hy⟩:=IR hp
  obtain ⟨r,e,hr⟩:=mN (BJ hx) (BJ hy)
  exact ⟨[AX (AW x),AX (AW y)],_,⟨(C0 hx).1,(C0 hy).1,trivial⟩,t57 2000000 _ _ _ e,hr⟩
/-! ### function 104 -/
def Z8 (b:List Nat) (m:Nat) (g:Nat→F) (e:List Nat) (i:Int):St:=⟨Ag 1 ((U.f (AN b)) :: Ag 5 ((U.hs 0 m 0 m) :: (U.f (AN e)) :: (U.f (F.int .i64 i)) :: Ag 49 [])),[HO.arr 1 m g]⟩
def VJ {ρ:Type} (ret:Kg ρ) (c7:(List Nat)→(Nat)→(Nat→F)→(List Nat)→(Int)→Option ρ) (b:List Nat) (m:Nat) (g:Nat→F) (e:List Nat) (i:Int):Option ρ :=
 (AC (decide (i ≥ 0))
 (AC (A4 (AN b)&&P8 (AS (AN b)).length i)
 (AC (Cc 800 (AN e)&&Cc 800 (AN (AM 4294967296 (val 4294967296 (AS (AN b))*2 ^ i.toNat))))
 (AC (decide (((↑(val 4294967296 (AS (AN e))):Int)-(↑(val 4294967296 (AS (AN (AM 4294967296 (val 4294967296 (AS (AN b))*2 ^ i.toNat))))):Int)).sign ≥ 0))
 (AC (A4 (AN e)&&BD 1900 (AN e)&&(A4 (AN (AM 4294967296 (val 4294967296 (AS (AN b))*2 ^ i.toNat)))&&BD 1900 (AN (AM 4294967296 (val 4294967296 (AS (AN b))*2 ^ i.toNat)))))
 (AC (A4 (Dv [AN e,AN (AM 4294967296 (val 4294967296 (AS (AN b))*2 ^ i.toNat))])&&BD 2000 (Dv [AN e,AN (AM 4294967296 (val 4294967296 (AS (AN b))*2 ^ i.toNat))]))
 (AC (decide (m=m))
 (AC (decide (0≤IntKind.i64.wrap (i.tdiv 32)))
 (AC (decide (IntKind.i64.wrap (i.tdiv 32)<(↑m:Int)))
 (AC (decide (m=m))
 (AC (decide (0+(IntKind.i64.wrap (i.tdiv 32)).toNat<m))
 (AC (decide ((g (0+(IntKind.i64.wrap (i.tdiv 32)).toNat)).cells.length=1))
 (AC (okV (Value.int IntKind.u32 0) ((List.drop 0 (g (0+(IntKind.i64.wrap (i.tdiv 32)).toNat)).cells).headD F.dflt)&&true)
 (AC (decide (0≤IntKind.u64.wrap (i.tmod 32)))
 (AC (decide (m=m))
 (AC (decide (0≤IntKind.i64.wrap (i.tdiv 32)))
 (AC (decide (IntKind.i64.wrap (i.tdiv 32)<(↑m:Int)))
 (AC (decide (m=m))
 (AC (decide (0+(IntKind.i64.wrap (i.tdiv 32)).toNat<m))
 (AC (decide ((g (0+(IntKind.i64.wrap (i.tdiv 32)).toNat)).cells.length=1))
 (AC ((CO (g (0+(IntKind.i64.wrap (i.tdiv 32)).toNat)) || true)&&true)
 (c7 (b) (m) (fun j ↦ if j=0+(IntKind.i64.wrap (i.tdiv 32)).toNat then F.int .u32 (Bz BinOp.or IntKind.u32 (Ex ((List.drop 0 (g (0+(IntKind.i64.wrap (i.tdiv 32)).toNat)).cells).headD F.dflt)) (IntKind.u32.wrap (1*2 ^ min (IntKind.u64.wrap (i.tmod 32)).toNat IntKind.u32.bits))) else g j) (AM 4294967296 (sgn false (val 4294967296 (AS (Dv [AN e,AN (AM 4294967296 (val 4294967296 (AS (AN b))*2 ^ i.toNat))])))).natAbs) (IntKind.i64.wrap (i-1)))
 none)
 none)
 none)
 none)
 none)
 none)
 none)
 none)
 none)
 none)
 none)
 none)
 none)
 none)
 none)
 none)
 none)
 (c7 (b) (m) (g) (e) (IntKind.i64.wrap (i-1))))
 none)
 none)
 (AC (decide (m=m))
 (AC (A4 (F.sl m (B3 0 g))&&BD 2000 (F.sl m (B3 0 g)))
 (ret (F.tup [AN (AM 4294967296 (sgn false (val 4294967296 (AS (F.sl m (B3 0 g))))).natAbs),AN e]))
 none)
 none))
def N8:Nat→(List Nat)→(Nat)→(Nat→F)→(List Nat)→(Int)→Option (F)
 | 0,_,_,_,_,_=>none
 | k+1,b,m,g,e,i=>VJ some (N8 k) b m g e i
def T104 {ρ:Type} (ret:Kg ρ) (c7:(List Nat)→(Nat)→(Nat→F)→(List Nat)→(Int)→Option ρ) (a:List Nat) (b:List Nat):Option ρ :=
 (AC (Cc 800 (AN a))
 (AC (Cc 800 (AN b))
 (AC (decide (IntKind.i64.wrap ((↑(Go.Proofs.YtlefbocihikaoaaGreat.R.bitLen (val 4294967296 (AS (AN a)))):Int)-(↑(Go.Proofs.YtlefbocihikaoaaGreat.R.bitLen (val 4294967296 (AS (AN b)))):Int))<0))
 (ret (F.tup [F.sl 0 fun x ↦ F.bool false,AN a]))
 (AC (decide (0≤IntKind.i64.wrap (IntKind.i64.wrap ((IntKind.i64.wrap ((↑(Go.Proofs.YtlefbocihikaoaaGreat.R.bitLen (val 4294967296 (AS (AN a)))):Int)-(↑(Go.Proofs.YtlefbocihikaoaaGreat.R.bitLen (val 4294967296 (AS (AN b)))):Int))).tdiv 32)+1)))
 (AC (decide (IntKind.i64.wrap (IntKind.i64.wrap ((IntKind.i64.wrap ((↑(Go.Proofs.YtlefbocihikaoaaGreat.R.bitLen (val 4294967296 (AS (AN a)))):Int)-(↑(Go.Proofs.YtlefbocihikaoaaGreat.R.bitLen (val 4294967296 (AS (AN b)))):Int))).tdiv 32)+1)≤IntKind.i64.wrap (IntKind.i64.wrap ((IntKind.i64.wrap ((↑(Go.Proofs.YtlefbocihikaoaaGreat.R.bitLen (val 4294967296 (AS (AN a)))):Int)-(↑(Go.Proofs.YtlefbocihikaoaaGreat.R.bitLen (val 4294967296 (AS (AN b)))):Int))).tdiv 32)+1)))
 (AC (decide (IntKind.i64.wrap (IntKind.i64.wrap ((IntKind.i64.wrap ((↑(Go.Proofs.YtlefbocihikaoaaGreat.R.bitLen (val 4294967296 (AS (AN a)))):Int)-(↑(Go.Proofs.YtlefbocihikaoaaGreat.R.bitLen (val 4294967296 (AS (AN b)))):Int))).tdiv 32)+1)*(((4:Nat):Int)+1)≤(↑BC:Int)))
 (c7 (b) ((IntKind.i64.wrap (IntKind.i64.wrap ((IntKind.i64.wrap ((↑(Go.Proofs.YtlefbocihikaoaaGreat.R.bitLen (val 4294967296 (AS (AN a)))):Int)-(↑(Go.Proofs.YtlefbocihikaoaaGreat.R.bitLen (val 4294967296 (AS (AN b)))):Int))).tdiv 32)+1)).toNat) (fun x ↦ F.int .u32 0) (a) (IntKind.i64.wrap ((↑(Go.Proofs.YtlefbocihikaoaaGreat.R.bitLen (val 4294967296 (AS (AN a)))):Int)-(↑(Go.Proofs.YtlefbocihikaoaaGreat.R.bitLen (val 4294967296 (AS (AN b)))):Int))))
 none)
 none)
 none))
 none)
 none)
def G104 (k:Nat) (a:List Nat) (b:List Nat):Option (F):=T104 some (N8 k) a b
theorem Yb:∀ (k:Nat) (b:List Nat) (m:Nat) (g:Nat→F) (e:List Nat) (i:Int) (r:F),N8 k b m g e i=some r→AY Tryz.prog Tryz.f104.results.toList (at_ Tryz.f104 7) (Z8 b m g e i) (r)
 | 0,_,_,_,_,_,_,h=>nomatch h
 | k+1,b,m,g,e,i,r,h=>by
  refine AY.of_cut Ap HV (T:=[(7,[1,7,8,9],1000)]) (n:=200) ?_
  refine gE (Y:=VJ (fun r=>some (.ret (r))) (fun b m g e i=>some (.cut (at_ Tryz.f104 7) (Z8 b m g e i))) b m g e i) (by kernel_rfl) ?_
  exact (gS h (fun _ h=>(gS h (fun _ h=>(gS h (fun _ h=>(gS h (fun _ h=>(gS h (fun _ h=>(gS h (fun _ h=>(gS h (fun _ h=>(gS h (fun _ h=>(gS h (fun _ h=>(gS h (fun _ h=>(gS h (fun _ h=>(gS h (fun _ h=>(gS h (fun _ h=>(gS h (fun _ h=>(gS h (fun _ h=>(gS h (fun _ h=>(gS h (fun _ h=>(gS h (fun _ h=>(gS h (fun _ h=>(gS h (fun _ h=>(gS h (fun _ h=>gC (Yb k _ _ _ _ _ r h)) gN)) gN)) gN)) gN)) gN)) gN)) gN)) gN)) gN)) gN)) gN)) gN)) gN)) gN)) gN)) gN)) gN)) (fun _ h=>gC (Yb k _ _ _ _ _ r h)))) gN)) gN)) (fun _ h=>(gS h (fun _ h=>(gS h (fun _ h=>gR (by cases h;rfl)) gN)) gN)))
theorem t104 (k:Nat) (a:List Nat) (b:List Nat) (r:F) (h:G104 k a b=some r):AY Tryz.prog Tryz.f104.results.toList [.code (AR Tryz.f104)] (start Tryz.f104.ntmps ([AN a,AN b].map .f)) (r):=by
 refine AY.of_run Ap HV (T:=[(7,[1,7,8,9],1000)]) (n:=200) ?_
 refine gE (Y:=T104 (fun r=>some (.ret (r))) (fun b m g e i=>some (.cut (at_ Tryz.f104 7) (Z8 b m g e i))) a b) (by kernel_rfl) ?_
 exact (gS h (fun _ h=>(gS h (fun _ h=>(gS h (fun _ h=>gR (by cases h;rfl)) (fun _ h=>(gS h (fun _ h=>(gS h (fun _ h=>(gS h (fun _ h=>gC (Yb k _ _ _ _ _ r h)) gN)) gN)) gN)))) gN)) gN)
theorem or32 {a b:Nat} (ha:a<4294967296) (hb:b<4294967296) (h:a ||| b<4294967296):Bz .or .u32 (a:Int) (b:Int)=((a ||| b:Nat):Int):=by
 have e:∀ n:Nat,BitVec.ofInt 32 (n:Int)=BitVec.ofNat 32 n:=fun n=>by
  apply BitVec.eq_of_toNat_eq
  rw [BitVec.toNat_ofInt,BitVec.toNat_ofNat]
  omega
 rw [show Bz .or .u32 (a:Int) (b:Int)=IntKind.u32.wrap ((BitVec.ofInt 32 (a:Int) ||| BitVec.ofInt 32 (b:Int)).toNat:Int) from rfl,e,e,BitVec.toNat_or,BitVec.toNat_ofNat,BitVec.toNat_ofNat,Nat.mod_eq_of_lt (show a<2 ^ 32 from ha),Nat.mod_eq_of_lt (show b<2 ^ 32 from hb),HE]
 omega
theorem GL {x n m:Nat} (h:x<4294967296 ^ n) (hn:n≤m):x<4294967296 ^ m:=Nat.lt_of_lt_of_le h (Nat.pow_le_pow_right (by omega) hn)
theorem Nr {a b N:Nat} (hb:0<b) (ha:a<4294967296 ^ 700) (hbN:b*2 ^ N<4294967296 ^ 700) (hN:N≤30000) (hlb:(AM 4294967296 b).length≤700) :
  ∀ (n k rest:Nat) (o:List Nat) (g:Nat→F),n≤N+1→n<k→DivInv a b n rest (val 4294967296 o)→o.length=N / 32+1→okD 4294967296 o→(∀ j,j<N / 32+1→g j=Cn (o.getD j 0)) →
   N8 k (AM 4294967296 b) (N / 32+1) g (AM 4294967296 rest) ((n:Int)-1)=some (.tup [AN (AM 4294967296 (a / b)),AN (AM 4294967296 (a % b))])
 | _,0,_,_,_,_,hk,_,_,_,_=>by omega
 | 0,k+1,rest,o,g,hn,hk,hI,ho,oo,hg=>by
  obtain ⟨q1,q2⟩:=hI.done
  have sg:∀ n:Nat,(sgn false n).natAbs=n:=DZ false
  rw [N8]
  unfold VJ
  rw [decide_eq_false (show ¬ ((0:Nat):Int)-1 ≥ 0 by omega),AJ,Ez,AF,show B3 0 g=g from rfl,EC ho hg oo,EA ho hg,show BD 2000 (F.sl (N / 32+1) g)=true by simp only [BD,Nat.ble_eq];omega,sg,q1,q2]
  rfl
 | n+1,k+1,rest,o,g,hn,hk,hI,ho,oo,hg=>by
  have hra:rest≤a:=by have:=hI.eq;omega
  have hrest:rest<4294967296 ^ 700:=by omega
  have hs:b*2 ^ n<4294967296 ^ 700:=Nat.lt_of_le_of_lt (Nat.mul_le_mul_left _ (Nat.pow_le_pow_right (by omega) (by omega))) hbN
  have t1:=CQ (GL hrest (show 700≤800 by omega))
  have t2:=CQ (GL hs (show 700≤800 by omega))
  have l1:BD 1900 (AN (AM 4294967296 rest))=true:=DS hrest (by omega)
  have l2:BD 1900 (AN (AM 4294967296 (b*2 ^ n)))=true:=DS hs (by omega)
  have lr:=Cw hrest
  have hl:P8 (AM 4294967296 b).length (n:Int)=true:=by
   simp only [P8,Bool.and_eq_true,decide_eq_true_eq,Nat.ble_eq,Int.toNat_natCast]
   omega
  have d1:=Cj (J8 (B:=4294967296) (by omega) (AM 4294967296 rest) (AM 4294967296 (b*2 ^ n)) 0)
  have d2:BD 2000 (AN (Gh 4294967296 (AM 4294967296 rest) (AM 4294967296 (b*2 ^ n)) 0))=true:=by rw [GQ,Nat.ble_eq,Mg];omega
  have sg:∀ n:Nat,(sgn false n).natAbs=n:=DZ false
  have ei:((n+1:Nat):Int)-1=(n:Int):=by omega
  have ew:IntKind.i64.wrap ((n:Int)-1)=(n:Int)-1:=by rw [Av (by omega) (by omega)]
  have e1:IntKind.i64.wrap ((n:Int).tdiv 32)=((n / 32:Nat):Int):=by
   rw [show (n:Int).tdiv 32=((n / 32:Nat):Int) from rfl,Av (by omega) (by omega)]
  have e2:IntKind.u64.wrap ((n:Int).tmod 32)=((n % 32:Nat):Int):=by
   rw [show (n:Int).tmod 32=((n % 32:Nat):Int) from rfl,CJ (by omega)]
  have hm32:n % 32<32:=Nat.mod_lt _ (by omega)
  have e3:min ((n % 32:Nat):Int).toNat IntKind.u32.bits=n % 32:=by rw [Int.toNat_natCast];exact Nat.min_eq_left (by show n % 32≤32;omega)
  have p32:2 ^ (n % 32)≤2 ^ 31:=Nat.pow_le_pow_right (by omega) (by omega)
  have e4:IntKind.u32.wrap (1*2 ^ (n % 32))=((2 ^ (n % 32):Nat):Int):=by
   have p33:2 ^ (n % 32)<4294967296:=Nat.lt_of_le_of_lt p32 (by decide)
   rw [Int.one_mul,WX,HE,show (4294967296:Int)=((4294967296:Nat):Int) from rfl,← Int.natCast_emod,Nat.mod_eq_of_lt p33]
  clear hrest hs
  rw [N8]
  unfold VJ
  rw [ei]
  simp only [Dv,C6,DF,BV,Int.toNat_natCast (n:=n),ED,t1,t2,l1,l2,hl,d1,d2,Bool.and_self,AF,decide_eq_true (show (n:Int) ≥ 0 by omega)]
  by_cases hc:b*2 ^ n≤rest
  ·have hI':=hI.take hc
   obtain ⟨b1,b2⟩:=bit_set oo (show n / 32<o.length by omega) hI.dvd
   have hq:=DC oo (show n / 32<o.length by omega)
   have hlong:(AM 4294967296 (b*2 ^ n)).length≤(AM 4294967296 rest).length:=by
    rcases Nat.lt_or_ge (AM 4294967296 rest).length (AM 4294967296 (b*2 ^ n)).length with h1 | h1
    ·have:=DW (B:=4294967296) (by omega) (BH (by omega) rest) (B8 (by omega) (b*2 ^ n)) h1
     rw [BV,BV] at this
     omega
    ·exact h1
   have hv:val 4294967296 (Gh 4294967296 (AM 4294967296 rest) (AM 4294967296 (b*2 ^ n)) 0)=rest-b*2 ^ n:=by
    have:=Jn (B:=4294967296) (by omega) (AM 4294967296 rest) (AM 4294967296 (b*2 ^ n)) 0 (BH (by omega) _) (BH (by omega) _) (by omega) hlong (by rw [BV,BV];omega)
    rw [BV,BV] at this
    omega
   rw [← b2] at hI'
   have ih:=Nr (a:=a) hb (by assumption) (by assumption) hN hlb n k (rest-b*2 ^ n) (o.set (n / 32) (o.getD (n / 32) 0 ||| 2 ^ (n % 32))) (fun j=>if j=0+n / 32 then F.int .u32 ((o.getD (n / 32) 0 ||| 2 ^ (n % 32):Nat):Int) else g j) (by omega) (by omega) hI' (by rw [List.length_set];exact ho) (MZ oo b1) (Lk ho (by omega) hg)
   rw [decide_eq_true (show ((rest:Int)-((b*2 ^ n:Nat):Int)).sign ≥ 0 from Int.sign_nonneg_iff.2 (by omega)),AF,hv,sg,e1,e2,e3,e4,ew,Int.toNat_natCast,Nat.zero_add,hg (n / 32) (by omega),Xw,cD,SD,or32 hq (by omega) b1,EE,decide_eq_true (NB _)]
   rw [decide_eq_true (show (0:Int)≤((n / 32:Nat):Int) by omega),decide_eq_true (show ((n / 32:Nat):Int)<((N / 32+1:Nat):Int) by omega),decide_eq_true (show n / 32<N / 32+1 by omega),decide_eq_true (show (0:Int)≤((n % 32:Nat):Int) by omega)]
   simp only [AF,decide_true]
   rw [Nat.zero_add] at ih
   exact ih
  ·have hI':=hI.skip (by omega)
   rw [decide_eq_false (show ¬ ((rest:Int)-((b*2 ^ n:Nat):Int)).sign ≥ 0 from fun h=>by have:=Int.sign_nonneg_iff.1 h;omega),AJ,ew]
   exact Nr (a:=a) hb (by assumption) (by assumption) hN hlb n k rest o g (by omega) (by omega) hI' ho oo hg
theorem Zv {n:Nat} (h:0<n):2 ^ (bitLen n-1)≤n∧0<bitLen n:=by
 have h0:0<bitLen n:=by
  rcases Nat.eq_zero_or_pos (bitLen n) with h1 | h1
  ·have:=(CD (n:=n) (j:=0)).1 (by omega)
   simp at this
   omega
  ·exact h1
 refine ⟨?_,h0⟩
 rcases Nat.lt_or_ge n (2 ^ (bitLen n-1)) with h1 | h1
 ·have:=CD.2 h1
  omega
 ·exact h1
theorem pZ {a b:Nat} (hb:0<b) (ha:a<4294967296 ^ 699) (hbb:b<4294967296 ^ 699):∃ r1 r2,G104 40000 (AM 4294967296 a) (AM 4294967296 b)=some (.tup [r1,r2])∧FLe r1 (AN (AM 4294967296 (a / b)))∧FLe r2 (AN (AM 4294967296 (a % b))):=by
 have lb:=Cw hbb
 have t1:=CQ (GL ha (show 699≤800 by omega))
 have t2:=CQ (GL hbb (show 699≤800 by omega))
 have ba:bitLen a≤32*699:=CD.2 (by rw [← VN];exact ha)
 have bbl:bitLen b≤32*699:=CD.2 (by rw [← VN];exact hbb)
 have ha7:=GL ha (show 699≤700 by omega)
 have hb7:4294967296 ^ 699*2 ^ 32≤4294967296 ^ 700:=by rw [show 4294967296 ^ 700=4294967296 ^ 699*4294967296 from Nat.pow_succ ..];exact Nat.mul_le_mul_left _ (by decide)
 obtain ⟨g1,g2⟩:=Zv hb
 have ua:a<2 ^ bitLen a:=CD.1 (Nat.le_refl _)
 have ub:b<2 ^ bitLen b:=CD.1 (Nat.le_refl _)
 have p22:(2:Nat) ^ (32*699)<4294967296 ^ 700:=by rw [← VN];exact Nat.pow_lt_pow_right (by omega) (by omega)
 unfold G104 T104
 simp only [t1,t2,C6,BV,AF]
 clear t1 t2 ha hbb hb7
 have ew:IntKind.i64.wrap ((bitLen a:Int)-bitLen b)=(bitLen a:Int)-bitLen b:=Av (by omega) (by omega)
 rw [ew]
 by_cases hlt:bitLen a<bitLen b
 ·rw [decide_eq_true (show (bitLen a:Int)-bitLen b<0 by omega),AF]
  have hab:a<b:=Nat.lt_of_lt_of_le ua (Nat.le_trans (Nat.pow_le_pow_right (by omega) (by omega)) g1)
  refine ⟨_,_,rfl,?_,?_⟩
  ·rw [Nat.div_eq_of_lt hab,BU]
   exact FLe.sl fun j hj=>by omega
  ·rw [Nat.mod_eq_of_lt hab];exact .refl _
 ·obtain ⟨N,hN⟩:∃ N,bitLen a=bitLen b+N:=⟨bitLen a-bitLen b,by omega⟩
  have eN:(bitLen a:Int)-bitLen b=(N:Int):=by omega
  have e1:IntKind.i64.wrap ((N:Int).tdiv 32)=((N / 32:Nat):Int):=by
   rw [show (N:Int).tdiv 32=((N / 32:Nat):Int) from rfl,Av (by omega) (by omega)]
  have e2:IntKind.i64.wrap (((N / 32:Nat):Int)+1)=((N / 32+1:Nat):Int):=by rw [Av (by omega) (by omega)];omega
  rw [decide_eq_false (show ¬ (bitLen a:Int)-bitLen b<0 by omega),AJ,eN,e1,e2,decide_eq_true (show (0:Int)≤((N / 32+1:Nat):Int) by omega),decide_eq_true (Int.le_refl _),decide_eq_true (DK (show N / 32+1≤3000 by omega)),Int.toNat_natCast]
  simp only [AF]
  have hstart:a<b*2 ^ (N+1):=by
   refine Nat.lt_of_lt_of_le ua ?_
   rw [show bitLen a=bitLen b-1+(N+1) by omega,Nat.pow_add]
   exact Nat.mul_le_mul_right _ g1
  have hbN:b*2 ^ N<4294967296 ^ 700:=by
   refine Nat.lt_of_lt_of_le (Nat.mul_lt_mul_of_pos_right ub (Nat.two_pow_pos N)) ?_
   rw [← Nat.pow_add,← hN]
   exact Nat.le_of_lt (Nat.lt_of_le_of_lt (Nat.pow_le_pow_right (by omega) ba) p22)
  have hv0:val 4294967296 (List.replicate (N / 32+1) 0)=0:=Ki _ _
  have h:=Nr hb ha7 hbN (by omega) (by omega) (N+1) 40000 a (List.replicate (N / 32+1) 0) (fun _=>F.int .u32 0) (Nat.le_refl _) (by omega) (by rw [hv0];exact DivInv.start hstart) (by simp) (fun w hw=>by have:=(List.mem_replicate.1 hw).2;omega) (fun j hj=>by simp only [List.getD,List.getElem?_replicate,if_pos hj];rfl)
  rw [show ((N+1:Nat):Int)-1=(N:Int) by omega] at h
  exact ⟨_,_,h,.refl _,.refl _⟩
def Lj (b:Nat):Bool:=!(Nat.beq b 0)
theorem GF {b:Nat}:Lj b=true ↔ 0<b:=by
 unfold Lj
 cases hb:Nat.beq b 0 with
 | true=>have:=Nat.eq_of_beq_eq_true hb;simp;omega
 | false=>simp;exact Nat.pos_of_ne_zero fun e=>by subst e;cases hb
def TN:List F→Bool | [x,y]=>Cc 699 x&&Cc 699 y&&Lj (val 4294967296 (AS y)) | _=>false
def bH:List F→F | [x,y]=>.tup [AN (AM 4294967296 (val 4294967296 (AS x) / val 4294967296 (AS y))),AN (AM 4294967296 (val 4294967296 (AS x) % val 4294967296 (AS y)))] | _=>.dflt
theorem okDivA:Ai Tryz.prog 104 TN bH :=
 Ae (c:=AR Tryz.f104) Tryz.func104 (by kernel_rfl) (by kernel_rfl) fun xs hp=>match xs,hp with
 | [x,y],hp=>by
  simp only [TN,Bool.and_eq_true] at hp
  obtain ⟨⟨hx,hy⟩,hd⟩:=hp
  obtain ⟨x1,x2,x3⟩:=GZ hx
  obtain ⟨y1,y2,y3⟩:=GZ hy
  obtain ⟨r1,r2,e,f1,f2⟩:=pZ (GF.1 hd) x2 y2
  rw [x3,y3] at e
  exact ⟨[AN (AS x),AN (AS y)],_,⟨(Bk x1).1,(Bk y1).1,trivial⟩,t104 40000 _ _ _ e,FLe.tup ⟨f1,f2,trivial⟩⟩
def envS4:Env:=((envS3.add 106 (.pure (Jd 800) MM)).add 57 (.pure (Jd 900) BF)).add 104 (.pure TN bH)
theorem KM:Ax Tryz.prog envS4:=(Env.add_ok (Env.add_ok (Env.add_ok HV okSubZ.sp) okMulZ.sp) okDivA.sp)
end
noncomputable section
def cR:Env:=cS
theorem Zc:Ax Tryz.prog cR:=Zd
end
noncomputable section
theorem Ea {x y:Int} {n m:Nat} (hx:x.natAbs<18446744073709551616 ^ n) (hy:y.natAbs<18446744073709551616 ^ m):(x*y).natAbs<18446744073709551616 ^ (n+m):=by
 rw [Int.natAbs_mul,Nat.pow_add]
 exact Nat.mul_lt_mul_of_lt_of_le hx (Nat.le_of_lt hy) (Nat.pow_pos (by omega))
theorem M0 {x:Int} {n m:Nat} (h:x.natAbs<18446744073709551616 ^ n) (hn:n≤m):x.natAbs<18446744073709551616 ^ m:=Nat.lt_of_lt_of_le h (Nat.pow_le_pow_right (by omega) hn)
def CR (u d:Int):Int:=(Nat.gcd u.natAbs d.natAbs:Nat)
theorem XH {u d:Int} (h:0<d):0<CR u d∧CR u d≤d:=by
 have h1:=Nat.gcd_pos_of_pos_right u.natAbs (show 0<d.natAbs by omega)
 have h2:=Nat.gcd_le_right u.natAbs (show 0<d.natAbs by omega)
 unfold CR
 omega
theorem mulb {a b:Int} (ha:-2000000≤a∧a≤2000000) (hb:-2000000≤b∧b≤2000000):-4000000000000≤a*b∧a*b≤4000000000000:=by
 have h:(a*b).natAbs≤2000000*2000000:=by rw [Int.natAbs_mul];exact Nat.mul_le_mul (by omega) (by omega)
 omega
theorem dotW {a b c d:Int} (ha:-2000000≤a∧a≤2000000) (hb:-2000000≤b∧b≤2000000) (hc:-2000000≤c∧c≤2000000) (hd:-2000000≤d∧d≤2000000) :
  IntKind.i64.wrap (IntKind.i64.wrap (a*b)+IntKind.i64.wrap (c*d))=a*b+c*d∧-8000000000000≤a*b+c*d∧a*b+c*d≤8000000000000:=by
 obtain ⟨h1,h2⟩:=mulb ha hb
 obtain ⟨h3,h4⟩:=mulb hc hd
 rw [Av (x:=a*b) (by omega) (by omega),Av (x:=c*d) (by omega) (by omega),Av (by omega) (by omega)]
 omega
def At (x y:Int):Prop:=-1000000≤x∧x≤1000000∧-1000000≤y∧y≤1000000
def Ab (x0 y0 x1 y1 x2 y2:Int):Int:=(x1-x0)*(y2-y0)-(y1-y0)*(x2-x0)
theorem Bn {x0 y0 x1 y1 x2 y2:Int} (h0:At x0 y0) (h1:At x1 y1) (h2:At x2 y2) :
  AE x0 y0 x1 y1 x2 y2=Ab x0 y0 x1 y1 x2 y2∧-8000000000000≤Ab x0 y0 x1 y1 x2 y2∧Ab x0 y0 x1 y1 x2 y2≤8000000000000:=by
 unfold At at h0 h1 h2
 unfold AE Ab
 rw [Av (x:=x1-x0) (by omega) (by omega),Av (x:=y2-y0) (by omega) (by omega),Av (x:=y1-y0) (by omega) (by omega),Av (x:=x2-x0) (by omega) (by omega)]
 obtain ⟨h1,h2⟩:=mulb (a:=x1-x0) (b:=y2-y0) (by omega) (by omega)
 obtain ⟨h3,h4⟩:=mulb (a:=y1-y0) (b:=x2-x0) (by omega) (by omega)
 rw [Av (x:=(x1-x0)*(y2-y0)) (by omega) (by omega),Av (x:=(y1-y0)*(x2-x0)) (by omega) (by omega),Av (by omega) (by omega)]
 omega
def Ml (x:Int):Bool:=decide (-1000000≤x)&&decide (x≤1000000)
def oM:Env:=cR
theorem hJ:Ax Tryz.prog oM:=Zc
end
noncomputable section
theorem Di {x:Int} {n m:Nat} (h:x.natAbs<4294967296 ^ n) (hn:n≤m):x.natAbs<4294967296 ^ m:=Nat.lt_of_lt_of_le h (Nat.pow_le_pow_right (by omega) hn)
theorem Zt {x y:Int} {n:Nat} (hx:x.natAbs<4294967296 ^ n) (hy:y.natAbs<4294967296 ^ n):(x-y).natAbs<4294967296 ^ (n+1):=by
 rw [Nat.pow_succ]
 generalize 4294967296 ^ n=t at *
 omega
theorem Lq {x y:Int} {n m:Nat} (hx:x.natAbs<4294967296 ^ n) (hy:y.natAbs<4294967296 ^ m):(x*y).natAbs<4294967296 ^ (n+m):=by
 rw [Int.natAbs_mul,Nat.pow_add]
 exact Nat.mul_lt_mul_of_lt_of_le hx (Nat.le_of_lt hy) (Nat.pow_pos (by omega))
/-! ### function 89 -/
def T89 {ρ:Type} (ret:(Int)→Option ρ) (x:Int) (y:Int):Option ρ :=
 (AC (A1 800 (AX x)&&A1 800 (AX y))
 (AC (A1 900 (MM [AX x,AX y]))
 (ret ((AW (MM [AX x,AX y])).sign))
 none)
 none)
def G89 (x:Int) (y:Int):Option (Int):=T89 some x y
theorem t89 (x:Int) (y:Int) (r:Int) (h:G89 x y=some r):AY Tryz.prog Tryz.f89.results.toList [.code (AR Tryz.f89)] (start Tryz.f89.ntmps ([AX x,AX y].map .f)) (F.int .i64 r):=by
 refine AY.of_run Ap KM (T:=[]) (n:=200) ?_
 refine gE (Y:=T89 (fun r=>some (.ret (F.int .i64 r))) x y) (by kernel_rfl) ?_
 exact (gS h (fun _ h=>(gS h (fun _ h=>gR (by cases h;rfl)) gN)) gN)
theorem qD {x y:Int} (hx:x.natAbs<4294967296 ^ 800) (hy:y.natAbs<4294967296 ^ 800):G89 x y=some (x-y).sign:=by
 have hs:(x-y).natAbs<4294967296 ^ 900:=Di (Zt hx hy) (by omega)
 unfold G89 T89
 simp only [MM,Cm,Bs hx,Bs hy,Bs hs,Bool.and_self,AF]
def bI:List F→F | [x,y]=>.int .i64 (AW x-AW y).sign | _=>.dflt
theorem okCmpZ:Ai Tryz.prog 89 (Jd 800) bI :=
 Ae (c:=AR Tryz.f89) Tryz.func89 (by kernel_rfl) (by kernel_rfl) fun xs hp=>match xs,hp with
 | [x,y],hp=>by
  obtain ⟨hx,hy⟩:=IR hp
  exact ⟨[AX (AW x),AX (AW y)],_,⟨(C0 hx).1,(C0 hy).1,trivial⟩,t89 _ _ _ (qD (BJ hx) (BJ hy)),.refl _⟩
/-! ### function 90 -/
def T90 {ρ:Type} (ret:Kg ρ) (x:Int) (y:Int):Option ρ :=
 (AC (Cc 699 (AN (AM 4294967296 x.natAbs))&&Cc 699 (AN (AM 4294967296 y.natAbs))&&Lj (val 4294967296 (AS (AN (AM 4294967296 y.natAbs)))))
 (AC (A4 (AN (AM 4294967296 (val 4294967296 (AS (AN (AM 4294967296 x.natAbs))) / val 4294967296 (AS (AN (AM 4294967296 y.natAbs))))))&&BD 2000 (AN (AM 4294967296 (val 4294967296 (AS (AN (AM 4294967296 x.natAbs))) / val 4294967296 (AS (AN (AM 4294967296 y.natAbs)))))))
 (AC (A4 (AN (AM 4294967296 (val 4294967296 (AS (AN (AM 4294967296 x.natAbs))) % val 4294967296 (AS (AN (AM 4294967296 y.natAbs))))))&&BD 2000 (AN (AM 4294967296 (val 4294967296 (AS (AN (AM 4294967296 x.natAbs))) % val 4294967296 (AS (AN (AM 4294967296 y.natAbs)))))))
 (AC (decide (sgn (decide (x<0)) (val 4294967296 (AS (AN (AM 4294967296 (val 4294967296 (AS (AN (AM 4294967296 x.natAbs))) % val 4294967296 (AS (AN (AM 4294967296 y.natAbs))))))))<0))
 (AC (decide (y<0))
 (AC (A1 800 (AX (sgn (!decide (x<0)==decide (y<0)) (val 4294967296 (AS (AN (AM 4294967296 (val 4294967296 (AS (AN (AM 4294967296 x.natAbs))) / val 4294967296 (AS (AN (AM 4294967296 y.natAbs))))))))))&&true)
 (AC (A1 800 (AX (sgn (decide (x<0)) (val 4294967296 (AS (AN (AM 4294967296 (val 4294967296 (AS (AN (AM 4294967296 x.natAbs))) % val 4294967296 (AS (AN (AM 4294967296 y.natAbs))))))))))&&A1 800 (AX y))
 (ret (F.tup [AX (AW (AX (sgn (!decide (x<0)==decide (y<0)) (val 4294967296 (AS (AN (AM 4294967296 (val 4294967296 (AS (AN (AM 4294967296 x.natAbs))) / val 4294967296 (AS (AN (AM 4294967296 y.natAbs))))))))))+AW (A0 [F.int .i64 1])),AX (AW (AX (sgn (decide (x<0)) (val 4294967296 (AS (AN (AM 4294967296 (val 4294967296 (AS (AN (AM 4294967296 x.natAbs))) % val 4294967296 (AS (AN (AM 4294967296 y.natAbs))))))))))-AW (AX y))]))
 none)
 none)
 (AC (A1 800 (AX (sgn (!decide (x<0)==decide (y<0)) (val 4294967296 (AS (AN (AM 4294967296 (val 4294967296 (AS (AN (AM 4294967296 x.natAbs))) / val 4294967296 (AS (AN (AM 4294967296 y.natAbs))))))))))&&true)
 (AC (A1 800 (AX (sgn (decide (x<0)) (val 4294967296 (AS (AN (AM 4294967296 (val 4294967296 (AS (AN (AM 4294967296 x.natAbs))) % val 4294967296 (AS (AN (AM 4294967296 y.natAbs))))))))))&&A1 800 (AX y))
 (ret (F.tup [AX (AW (AX (sgn (!decide (x<0)==decide (y<0)) (val 4294967296 (AS (AN (AM 4294967296 (val 4294967296 (AS (AN (AM 4294967296 x.natAbs))) / val 4294967296 (AS (AN (AM 4294967296 y.natAbs))))))))))-AW (A0 [F.int .i64 1])),AX (AW (AX (sgn (decide (x<0)) (val 4294967296 (AS (AN (AM 4294967296 (val 4294967296 (AS (AN (AM 4294967296 x.natAbs))) % val 4294967296 (AS (AN (AM 4294967296 y.natAbs))))))))))+AW (AX y))]))
 none)
 none))
 (ret (F.tup [AX (sgn (!decide (x<0)==decide (y<0)) (val 4294967296 (AS (AN (AM 4294967296 (val 4294967296 (AS (AN (AM 4294967296 x.natAbs))) / val 4294967296 (AS (AN (AM 4294967296 y.natAbs))))))))),AX (sgn (decide (x<0)) (val 4294967296 (AS (AN (AM 4294967296 (val 4294967296 (AS (AN (AM 4294967296 x.natAbs))) % val 4294967296 (AS (AN (AM 4294967296 y.natAbs)))))))))])))
 none)
 none)
 none)
def G90 (x:Int) (y:Int):Option (F):=T90 some x y
theorem t90 (x:Int) (y:Int) (r:F) (h:G90 x y=some r):AY Tryz.prog Tryz.f90.results.toList [.code (AR Tryz.f90)] (start Tryz.f90.ntmps ([AX x,AX y].map .f)) (r):=by
 refine AY.of_run Ap KM (T:=[]) (n:=200) ?_
 refine gE (Y:=T90 (fun r=>some (.ret (r))) x y) (by kernel_rfl) ?_
 exact (gS h (fun _ h=>(gS h (fun _ h=>(gS h (fun _ h=>(gS h (fun _ h=>(gS h (fun _ h=>(gS h (fun _ h=>(gS h (fun _ h=>gR (by cases h;rfl)) gN)) gN)) (fun _ h=>(gS h (fun _ h=>(gS h (fun _ h=>gR (by cases h;rfl)) gN)) gN)))) (fun _ h=>gR (by cases h;rfl)))) gN)) gN)) gN)
theorem pX {x y:Int} (hy:y ≠ 0) (hx:x.natAbs<4294967296 ^ 699) (hyb:y.natAbs<4294967296 ^ 699):∃ a b,G90 x y=some (.tup [AX a,AX b])∧a=x / y∧b=x % y:=by
 have q1:x.natAbs / y.natAbs<4294967296 ^ 699:=Nat.lt_of_le_of_lt (Nat.div_le_self _ _) hx
 have q2:x.natAbs % y.natAbs<4294967296 ^ 699:=Nat.lt_of_le_of_lt (Nat.mod_le _ _) hx
 have q1':(x.tdiv y).natAbs<4294967296 ^ 800:=by rw [Int.natAbs_tdiv];exact GL q1 (by omega)
 have q2':(x.tmod y).natAbs<4294967296 ^ 800:=by rw [Int.natAbs_tmod];exact GL q2 (by omega)
 have d:Lj y.natAbs=true:=GF.2 (by omega)
 unfold G90 T90
 simp only [C6,BV,CQ hx,CQ hyb,d,ED,DS q1 (show 699≤2000 by omega),DS q2 (show 699≤2000 by omega),Bool.and_self,Bool.and_true,AF,aK x y hy,aJ,Bs (Di hyb (show 699≤800 by omega)),Bs q1',Bs q2',A0,Cm]
 obtain ⟨f1,f2,f3⟩:=We (x:=x) hy
 by_cases hr:x.tmod y<0
 ·rw [decide_eq_true hr,AF]
  by_cases hn:y<0
  ·obtain ⟨g1,g2⟩:=f1 hr hn
   rw [decide_eq_true hn,AF]
   exact ⟨_,_,rfl,g1,by rw [← g2];omega⟩
  ·obtain ⟨g1,g2⟩:=f2 hr hn
   rw [decide_eq_false hn,AJ]
   exact ⟨_,_,rfl,g1,by rw [← g2];omega⟩
 ·obtain ⟨g1,g2⟩:=f3 hr
  rw [decide_eq_false hr,AJ]
  exact ⟨_,_,rfl,g1,g2⟩
def I7 (y:Int):Bool:=Lj y.natAbs
def TL:List F→Bool | [x,y]=>A1 699 x&&A1 699 y&&I7 (AW y) | _=>false
def bF:List F→F | [x,y]=>.tup [AX (AW x / AW y),AX (AW x % AW y)] | _=>.dflt
theorem okDivZ:Ai Tryz.prog 90 TL bF :=
 Ae (c:=AR Tryz.f90) Tryz.func90 (by kernel_rfl) (by kernel_rfl) fun xs hp=>match xs,hp with
 | [x,y],hp=>by
  simp only [TL,Bool.and_eq_true] at hp
  obtain ⟨⟨hx,hy⟩,hd⟩:=hp
  have h0:=GF.1 hd
  obtain ⟨a,b,e,rfl,rfl⟩:=pX (x:=AW x) (y:=AW y) (by omega) (BJ hx) (BJ hy)
  exact ⟨[AX (AW x),AX (AW y)],_,⟨(C0 hx).1,(C0 hy).1,trivial⟩,t90 _ _ _ e,.refl _⟩
/-! ### function 88 -/
def rE (x:List Nat) (y:List Nat):St:=⟨Ag 4 ((U.hp 0 0) :: (U.f (AN x)) :: (U.f (AN y)) :: Ag 19 []),[HO.box [(U.f (F.bool false)),U.nils]]⟩
def qU {ρ:Type} (ret:Kg ρ) (c3:(List Nat)→(List Nat)→Option ρ) (x:List Nat) (y:List Nat):Option ρ :=
 (AC (decide ((↑y.length:Int) > 0))
 (AC (Cc 699 (AN x)&&Cc 699 (AN y)&&Lj (val 4294967296 (AS (AN y))))
 (c3 (y) (AM 4294967296 (val 4294967296 (AS (AN x)) % val 4294967296 (AS (AN y)))))
 none)
 (AC (A4 (AN x)&&BD 2000 (AN x))
 (ret (AX (sgn false (val 4294967296 (AS (AN x))))))
 none))
def YH:Nat→(List Nat)→(List Nat)→Option (F)
 | 0,_,_=>none
 | k+1,x,y=>qU some (YH k) x y
def T88 {ρ:Type} (ret:Kg ρ) (c3:(List Nat)→(List Nat)→Option ρ) (x:Int) (y:Int):Option ρ :=
 (c3 (AM 4294967296 x.natAbs) (AM 4294967296 y.natAbs))
def G88 (k:Nat) (x:Int) (y:Int):Option (F):=T88 some (YH k) x y
theorem t88_3:∀ (k:Nat) (x:List Nat) (y:List Nat) (r:F),YH k x y=some r→AY Tryz.prog Tryz.f88.results.toList (at_ Tryz.f88 3) (rE x y) (r)
 | 0,_,_,_,h=>nomatch h
 | k+1,x,y,r,h=>by
  refine AY.of_cut Ap KM (T:=[(3,[4,5,6],1000)]) (n:=200) ?_
  refine gE (Y:=qU (fun r=>some (.ret (r))) (fun x y=>some (.cut (at_ Tryz.f88 3) (rE x y))) x y) (by kernel_rfl) ?_
  exact (gS h (fun _ h=>(gS h (fun _ h=>gC (t88_3 k _ _ r h)) gN)) (fun _ h=>(gS h (fun _ h=>gR (by cases h;rfl)) gN)))
theorem t88 (k:Nat) (x:Int) (y:Int) (r:F) (h:G88 k x y=some r):AY Tryz.prog Tryz.f88.results.toList [.code (AR Tryz.f88)] (start Tryz.f88.ntmps ([AX x,AX y].map .f)) (r):=by
 refine AY.of_run Ap KM (T:=[(3,[4,5,6],1000)]) (n:=200) ?_
 refine gE (Y:=T88 (fun r=>some (.ret (r))) (fun x y=>some (.cut (at_ Tryz.f88 3) (rE x y))) x y) (by kernel_rfl) ?_
 exact gC (t88_3 k _ _ r h)
theorem gO:∀ (y x k:Nat),y<4294967296 ^ 699→x<4294967296 ^ 699→y+1≤k→YH k (AM 4294967296 x) (AM 4294967296 y)=some (AX ((Nat.gcd x y:Nat):Int)):=by
 intro y
 induction y using Nat.strongRecOn with
 | _ y ih =>
  intro x k hy hx hk
  obtain ⟨k,rfl⟩:∃ j,k=j+1:=⟨k-1,by omega⟩
  rw [YH]
  unfold qU
  by_cases h0:y=0
  ·subst h0
   rw [BU,show decide (((([]:List Nat).length:Nat):Int) > 0)=false from rfl,AJ,ED,DS hx (show 699≤2000 by omega),C6,BV,Nat.gcd_zero_right]
   rfl
  ·have hm:x % y<y:=Nat.mod_lt _ (by omega)
   rw [decide_eq_true (Dh.2 h0),AF,CQ hx,CQ hy]
   simp only [C6,BV,GF.2 (show 0<y by omega),Bool.and_self,AF]
   rw [ih (x % y) hm y k (Nat.lt_trans hm hy) hy (by omega),← XF]
def Bx:List F→F | [x,y]=>AX (CR (AW x) (AW y)) | _=>.dflt
theorem okGcdZ:Ai Tryz.prog 88 (Jd 699) Bx :=
 Ae (c:=AR Tryz.f88) Tryz.func88 (by kernel_rfl) (by kernel_rfl) fun xs hp=>match xs,hp with
 | [x,y],hp=>by
  obtain ⟨hx,hy⟩:=IR hp
  exact ⟨[AX (AW x),AX (AW y)],_,⟨(C0 hx).1,(C0 hy).1,trivial⟩,t88 ((AW y).natAbs+1) _ _ _ (gO _ _ _ (BJ hy) (BJ hx) (Nat.le_refl _)),.refl _⟩
def envS5:Env:=((envS4.add 89 (.pure (Jd 800) bI)).add 90 (.pure TL bF)).add 88 (.pure (Jd 699) Bx)
theorem oJ:Ax Tryz.prog envS5:=(Env.add_ok (Env.add_ok (Env.add_ok KM okCmpZ.sp) okDivZ.sp) okGcdZ.sp)
end
noncomputable section
def envS6:Env:=envS5
theorem oI:Ax Tryz.prog envS6:=oJ
end
noncomputable section
def sgIn (s:Sg):Prop:=At s.x0 s.y0∧At s.x1 s.y1
theorem aM {s:Sg} (h:NH s=true):sgIn s:=by
 unfold NH BW at h
 simp only [Bool.and_eq_true] at h
 exact ⟨ET.1 h.1,ET.1 h.2.1⟩
structure NearOk (s:Int × Int × Int):Prop where
 idx:0≤s.1
 up0:0≤s.2.1
 up:s.2.1.natAbs<18446744073709551616 ^ 2
 down:0<s.2.2∧s.2.2≤8000000000000
def oL:Env:=oM
theorem gZ:Ax Tryz.prog oL:=hJ
end
noncomputable section
def envS7:Env:=envS6
theorem oH:Ax Tryz.prog envS7:=oI
end
noncomputable section
def envS8:Env:=envS7
theorem oG:Ax Tryz.prog envS8:=oH
end
noncomputable section
def oK:Env:=oL
theorem gY:Ax Tryz.prog oK:=gZ
end
noncomputable section
def oF:Env:=envS8.or oK
theorem QO:Ax Tryz.prog oF:=(Env.or_ok oG gY)
end
noncomputable section
def YL {α:Type} (enc:α→F) (d:α) (z:F) (l:List α) (i:Nat) (g:Nat→F):Prop:=∀ j,(j<i→g j=enc (l.getD j d))∧(i≤j→g j=z)
theorem YL.zero {α:Type} {enc:α→F} {d:α} {z:F} {l:List α}:YL enc d z l 0 (fun _=>z):=fun j=>⟨fun h=>by omega,fun _=>rfl⟩
theorem YL.set {α:Type} {enc:α→F} {d:α} {z:F} {l:List α} {i:Nat} {g:Nat→F} (h:YL enc d z l i g):YL enc d z l (i+1) (fun j=>if j=i then enc (l.getD i d) else g j):=fun j=>by
 by_cases e:j=i
 ·subst e;exact ⟨fun _=>by simp,fun h=>by omega⟩
 ·simp only [if_neg e];exact ⟨fun hj=>(h j).1 (by omega),fun hj=>(h j).2 (by omega)⟩
def envZ1:Env:=oF
theorem oD:Ax Tryz.prog envZ1:=QO
end
noncomputable section
def envZ2:Env:=envZ1
theorem oC:Ax Tryz.prog envZ2:=oD
end
noncomputable section
def envZ3:Env:=envZ2
theorem oB:Ax Tryz.prog envZ3:=oC
end
def BT (x0 y0 x1 y1:Int):Prop:=x0<x1 ∨ (x0=x1∧y0<y1)
def Ct (x0 y0 x1 y1:Int):Prop:=x0<x1 ∨ (x0=x1∧y0≤y1)
theorem col_vec {p q f g e h:Int} (hD:p ≠ 0 ∨ q ≠ 0) (ha:p*g=q*f) (hb:p*h=q*e):h*f=e*g:=by
 by_cases hp:p=0
 ·subst hp
  have hq:q ≠ 0:=by rcases hD with h | h;exact absurd rfl h;exact h
  have hf:f=0:=by
   have:q*f=0:=by rw [← ha,Int.zero_mul]
   rcases Int.mul_eq_zero.1 this with h | h
   ·exact absurd h hq
   ·exact h
  have he:e=0:=by
   have:q*e=0:=by rw [← hb,Int.zero_mul]
   rcases Int.mul_eq_zero.1 this with h | h
   ·exact absurd h hq
   ·exact h
  rw [hf,he,Int.mul_zero,Int.zero_mul]
 ·have:p*(h*f)=p*(e*g):=by grind
  exact Int.eq_of_mul_eq_mul_left hp this
theorem K5 {x0 y0 x1 y1 u0 v0 u1 v1:Int} (hs:BT x0 y0 x1 y1) (ha:Ab x0 y0 x1 y1 u0 v0=0) (hb:Ab x0 y0 x1 y1 u1 v1=0):Ab u0 v0 u1 v1 x0 y0=0∧Ab u0 v0 u1 v1 x1 y1=0:=by
 unfold Ab at *
 have hD:x1-x0 ≠ 0 ∨ y1-y0 ≠ 0:=by unfold BT at hs;omega
 have h1:(x1-x0)*(v0-y0)=(y1-y0)*(u0-x0):=by omega
 have h2:(x1-x0)*(v1-v0)=(y1-y0)*(u1-u0):=by grind
 have h3:=col_vec hD h1 h2
 constructor <;> grind
theorem Ox {s0 s1 t0 t1 a b c d:Int} (ha:0≤a) (hb:0≤b) (hc:0≤c) (hd:0≤d) (hw:a+b=c+d) (h0:0<a+b) (he:t0*a+t1*b=s0*c+s1*d):¬ (s0<t0∧s0<t1∧s1<t0∧s1<t1):=by
 rintro ⟨h1,h2,h3,h4⟩
 have m:∃ m,s0≤m∧s1≤m∧m<t0∧m<t1:=by
  rcases Int.le_total s0 s1 with h | h
  ·exact ⟨s1,h,Int.le_refl _,h3,h4⟩
  ·exact ⟨s0,Int.le_refl _,h,h1,h2⟩
 obtain ⟨m,k1,k2,k3,k4⟩:=m
 have e1:(m+1)*a≤t0*a:=Int.mul_le_mul_of_nonneg_right (by omega) ha
 have e2:(m+1)*b≤t1*b:=Int.mul_le_mul_of_nonneg_right (by omega) hb
 have e3:s0*c≤m*c:=Int.mul_le_mul_of_nonneg_right k1 hc
 have e4:s1*d≤m*d:=Int.mul_le_mul_of_nonneg_right k2 hd
 have e5:(m+1)*a+(m+1)*b=(m+1)*(a+b):=by grind
 have e6:m*c+m*d=m*(a+b):=by rw [hw];grind
 have e7:(m+1)*(a+b)=m*(a+b)+(a+b):=by grind
 omega
def apart (a b:Int):Prop:=(a≤0∧0≤b) ∨ (0≤a∧b≤0)
theorem sep {s0 s1 t0 t1 a b c d:Int} (h1:apart a b) (h2:apart c d) (hn:¬ (a=0∧b=0)) (hw:a-b=d-c) (he:t1*a-t0*b=s0*d-s1*c) :
  ¬ (s0<t0∧s0<t1∧s1<t0∧s1<t1)∧¬ (t0<s0∧t0<s1∧t1<s0∧t1<s1):=by
 unfold apart at h1 h2
 rcases Int.lt_trichotomy (a-b) 0 with h | h | h
 ·have p1:0≤-a:=by omega
  have p2:0≤b:=by omega
  have p3:0≤c:=by omega
  have p4:0≤-d:=by omega
  exact ⟨Ox (a:=b) (b:=-a) (c:=-d) (d:=c) p2 p1 p4 p3 (by omega) (by omega) (by rw [Int.mul_neg,Int.mul_neg];omega),
   fun ⟨k1,k2,k3,k4⟩=>Ox (s0:=t0) (s1:=t1) (t0:=s0) (t1:=s1) (a:=-d) (b:=c) (c:=b) (d:=-a) p4 p3 p2 p1 (by omega) (by omega) (by rw [Int.mul_neg,Int.mul_neg];omega) ⟨k1,k2,k3,k4⟩⟩
 ·omega
 ·have p1:0≤a:=by omega
  have p2:0≤-b:=by omega
  have p3:0≤-c:=by omega
  have p4:0≤d:=by omega
  exact ⟨Ox (a:=-b) (b:=a) (c:=d) (d:=-c) p2 p1 p4 p3 (by omega) (by omega) (by rw [Int.mul_neg,Int.mul_neg];omega),
   fun ⟨k1,k2,k3,k4⟩=>Ox (s0:=t0) (s1:=t1) (t0:=s0) (t1:=s1) (a:=d) (b:=-c) (c:=-b) (d:=a) p4 p3 p2 p1 (by omega) (by omega) (by rw [Int.mul_neg,Int.mul_neg];omega) ⟨k1,k2,k3,k4⟩⟩
theorem between {p q f g:Int} (h:p*g=q*f) (h1:0<f ∨ (0=f∧0≤g)) (h2:f<p ∨ (f=p∧g≤q)):(0≤g∧g≤q) ∨ (q≤g∧g≤0):=by
 by_cases hp:p=0
 ·subst hp;omega
 ·have hp0:0<p:=by omega
  rcases Int.le_total 0 q with hq | hq
  ·left
   have a1:0≤q*f:=Int.mul_nonneg hq (by omega)
   have a2:q*f≤q*p:=Int.mul_le_mul_of_nonneg_left (by omega) hq
   constructor
   ·rcases Int.lt_or_le g 0 with hg | hg
    ·have:=Int.mul_neg_of_pos_of_neg hp0 hg;omega
    ·exact hg
   ·have:p*g≤p*q:=by rw [h,Int.mul_comm p q];exact a2
    exact Int.le_of_mul_le_mul_left this hp0
  ·right
   have a1:q*f≤0:=Int.mul_nonpos_of_nonpos_of_nonneg hq (by omega)
   have a2:q*p≤q*f:=Int.mul_le_mul_of_nonpos_left hq (by omega)
   constructor
   ·have:p*q≤p*g:=by rw [h,Int.mul_comm p q];exact a2
    exact Int.le_of_mul_le_mul_left this hp0
   ·rcases Int.lt_or_le 0 g with hg | hg
    ·have:=Int.mul_pos hp0 hg;omega
    ·exact hg
def CZ (x0 y0 x1 y1 u0 v0 u1 v1:Int):Prop :=
 (Ab x0 y0 x1 y1 u0 v0=0∧Ab x0 y0 x1 y1 u1 v1=0∧Ct u0 v0 x1 y1∧Ct x0 y0 u1 v1) ∨
 (¬ (Ab x0 y0 x1 y1 u0 v0=0∧Ab x0 y0 x1 y1 u1 v1=0)∧apart (Ab x0 y0 x1 y1 u0 v0) (Ab x0 y0 x1 y1 u1 v1)∧apart (Ab u0 v0 u1 v1 x0 y0) (Ab u0 v0 u1 v1 x1 y1))
theorem I5 {x0 y0 x1 y1 u0 v0 u1 v1:Int} (hs:BT x0 y0 x1 y1) (ht:BT u0 v0 u1 v1) (h:CZ x0 y0 x1 y1 u0 v0 u1 v1):CZ u0 v0 u1 v1 x0 y0 x1 y1:=by
 rcases h with ⟨h1,h2,h3,h4⟩ | ⟨h1,h2,h3⟩
 ·obtain ⟨k1,k2⟩:=K5 hs h1 h2
  exact .inl ⟨k1,k2,h4,h3⟩
 ·exact .inr ⟨fun ⟨k1,k2⟩=>h1 (K5 ht k1 k2),h3,h2⟩
theorem Wj {x0 y0 x1 y1 p q:Int} (h:Ab x0 y0 x1 y1 p q=0) (h1:Ct x0 y0 p q) (h2:Ct p q x1 y1):(y0≤q∧q≤y1) ∨ (y1≤q∧q≤y0):=by
 unfold Ab at h
 unfold Ct at h1 h2
 have:=between (p:=x1-x0) (q:=y1-y0) (f:=p-x0) (g:=q-y0) (by omega) (by omega) (by omega)
 omega
theorem fZ {x0 y0 x1 y1 u0 v0 u1 v1:Int} (hs:BT x0 y0 x1 y1) (ht:BT u0 v0 u1 v1) (h:CZ x0 y0 x1 y1 u0 v0 u1 v1) :
  (u0≤x1∧x0≤u1)∧¬ (y0<v0∧y0<v1∧y1<v0∧y1<v1)∧¬ (v0<y0∧v0<y1∧v1<y0∧v1<y1):=by
 rcases h with ⟨h1,h2,h3,h4⟩ | ⟨h1,h2,h3⟩
 ·obtain ⟨k1,k2⟩:=K5 hs h1 h2
  have hx:u0≤x1∧x0≤u1:=by unfold Ct at h3 h4;omega
  refine ⟨hx,?_⟩
    -- the greater of the two beginnings lies on both
  by_cases hl:Ct x0 y0 u0 v0
  ·have:=Wj h1 hl h3
   omega
  ·have hl':Ct u0 v0 x0 y0:=by unfold Ct at hl ⊢;omega
   have:=Wj k1 hl' h4
   omega
 ·have hw:Ab x0 y0 x1 y1 u0 v0-Ab x0 y0 x1 y1 u1 v1=Ab u0 v0 u1 v1 x1 y1-Ab u0 v0 u1 v1 x0 y0:=by unfold Ab;grind
  have ex:u1*Ab x0 y0 x1 y1 u0 v0-u0*Ab x0 y0 x1 y1 u1 v1=x0*Ab u0 v0 u1 v1 x1 y1-x1*Ab u0 v0 u1 v1 x0 y0:=by unfold Ab;grind
  have ey:v1*Ab x0 y0 x1 y1 u0 v0-v0*Ab x0 y0 x1 y1 u1 v1=y0*Ab u0 v0 u1 v1 x1 y1-y1*Ab u0 v0 u1 v1 x0 y0:=by unfold Ab;grind
  have sx:=sep h2 h3 h1 hw ex
  have sy:=sep h2 h3 h1 hw ey
  refine ⟨?_,sy⟩
  unfold BT at hs ht
  omega
def fL (x0 y0 x1 y1 p q:Int):Prop:=Ab x0 y0 x1 y1 p q=0∧Ct x0 y0 p q∧Ct p q x1 y1
theorem X4 {c d f g k:Int} (hf:0≤f) (hg:0≤g) (hp:0<f+g) (hc:(f+g)*c=f*k) (hd:(f+g)*d = -(g*k)):apart c d:=by
 unfold apart
 have sgn:∀ {z w:Int},(f+g)*z=w→(0≤w→0≤z)∧(w≤0→z≤0):=by
  intro z w h
  constructor
  ·intro hw
   rcases Int.lt_or_le z 0 with hz | hz
   ·have:=Int.mul_neg_of_pos_of_neg hp hz;omega
   ·exact hz
  ·intro hw
   rcases Int.lt_or_le 0 z with hz | hz
   ·have:=Int.mul_pos hp hz;omega
   ·exact hz
 rcases Int.le_total 0 k with hk | hk
 ·have a1:=Int.mul_nonneg hf hk
  have a2:=Int.mul_nonneg hg hk
  right
  exact ⟨(sgn hc).1 a1,(sgn hd).2 (by omega)⟩
 ·have a1:=Int.mul_nonpos_of_nonneg_of_nonpos hf hk
  have a2:=Int.mul_nonpos_of_nonneg_of_nonpos hg hk
  left
  exact ⟨(sgn hc).2 a1,(sgn hd).1 (by omega)⟩
theorem Wl {x0 y0 x1 y1 p q e h:Int} (hs:BT x0 y0 x1 y1) (ho:fL x0 y0 x1 y1 p q):apart (e*(y0-q)-h*(x0-p)) (e*(y1-q)-h*(x1-p)):=by
 obtain ⟨h1,h2,h3⟩:=ho
 unfold Ab at h1
 unfold Ct at h2 h3
 unfold BT at hs
 by_cases hx:x0=x1
 ·have e1:p=x0:=by omega
  subst e1;subst hx
  exact X4 (f:=q-y0) (g:=y1-q) (k:=-(e*(y1-y0))) (by omega) (by omega) (by omega) (by grind) (by grind)
 ·exact X4 (f:=p-x0) (g:=x1-p) (k:=h*(x1-x0)-e*(y1-y0)) (by omega) (by omega) (by omega) (by grind) (by grind)
theorem Wk {x0 y0 x1 y1 u0 v0 u1 v1:Int} (hs:BT x0 y0 x1 y1) (ht:BT u0 v0 u1 v1) (h:fL x0 y0 x1 y1 u0 v0 ∨ fL x0 y0 x1 y1 u1 v1):CZ x0 y0 x1 y1 u0 v0 u1 v1:=by
 by_cases hc:Ab x0 y0 x1 y1 u0 v0=0∧Ab x0 y0 x1 y1 u1 v1=0
 ·left
  refine ⟨hc.1,hc.2,?_⟩
  unfold BT at hs ht
  unfold fL Ct at h
  unfold Ct
  omega
 ·right
  refine ⟨hc,?_,?_⟩
  ·unfold apart
   rcases h with h | h
   ·have:=h.1;omega
   ·have:=h.1;omega
  ·rcases h with h | h
   ·have:=Wl (e:=u1-u0) (h:=v1-v0) hs h
    exact this
   ·have:=Wl (e:=u1-u0) (h:=v1-v0) hs h
    have e1:Ab u0 v0 u1 v1 x0 y0=(u1-u0)*(y0-v1)-(v1-v0)*(x0-u1):=by unfold Ab;grind
    have e2:Ab u0 v0 u1 v1 x1 y1=(u1-u0)*(y1-v1)-(v1-v0)*(x1-u1):=by unfold Ab;grind
    rw [e1,e2]
    exact this
noncomputable section
def isL3p (n:Nat):F→Bool | .agg [a,b,c,d,e,f]=>A1 n (.agg [a,b])&&(A1 n (.agg [c,d])&&A1 n (.agg [e,f])) | _=>false
def unX3:F→Int | .agg [a,b,_,_,_,_]=>AW (.agg [a,b]) | _=>0
def unY3:F→Int | .agg [_,_,a,b,_,_]=>AW (.agg [a,b]) | _=>0
def unW3:F→Int | .agg [_,_,_,_,a,b]=>AW (.agg [a,b]) | _=>0
theorem l3p_eqv {n:Nat} {x:F} (h:isL3p n x=true):FLe x (Dk (unX3 x) (unY3 x) (unW3 x))∧FLe (Dk (unX3 x) (unY3 x) (unW3 x)) x:=by
 unfold isL3p at h
 split at h
 ·rename_i a b c d e f
  rw [Bool.and_eq_true,Bool.and_eq_true] at h
  obtain ⟨s,y,e1,hy,f1⟩:=Mi h.1
  obtain ⟨t,z,e2,hz,f2⟩:=Mi h.2.1
  obtain ⟨r,o,e3,ho,f3⟩:=Mi h.2.2
  cases e1;cases e2;cases e3
  have g:Dk (unX3 (.agg [.bool s,b,.bool t,d,.bool r,f])) (unY3 (.agg [.bool s,b,.bool t,d,.bool r,f])) (unW3 (.agg [.bool s,b,.bool t,d,.bool r,f]))=.agg [.bool s,AN (AS b),.bool t,AN (AS d),.bool r,AN (AS f)]:=by
   unfold AX at f1 f2 f3
   injection f1 with f1
   injection f2 with f2
   injection f3 with f3
   simp only [List.cons.injEq,and_true] at f1 f2 f3
   show F.agg [_,_,_,_,_,_]=_
   rw [show unX3 (.agg [.bool s,b,.bool t,d,.bool r,f])=AW (.agg [.bool s,b]) from rfl,show unY3 (.agg [.bool s,b,.bool t,d,.bool r,f])=AW (.agg [.bool t,d]) from rfl,show unW3 (.agg [.bool s,b,.bool t,d,.bool r,f])=AW (.agg [.bool r,f]) from rfl,f1.1,f1.2,f2.1,f2.2,f3.1,f3.2]
  rw [g]
  exact ⟨FLe.agg ⟨.refl _,(Bk hy).1,.refl _,(Bk hz).1,.refl _,(Bk ho).1,trivial⟩,FLe.agg ⟨.refl _,(Bk hy).2,.refl _,(Bk hz).2,.refl _,(Bk ho).2,trivial⟩⟩
 ·cases h
/-! ### function 54 -/
def T54 {ρ:Type} (ret:Kg ρ) (x:Int) (y:Int):Option ρ :=
 (AC (Al x)
 (AC (Al y)
 (ret (Dk x y 1))
 none)
 none)
def G54 (x:Int) (y:Int):Option (F):=T54 some x y
theorem t54 (x:Int) (y:Int) (r:F) (h:G54 x y=some r):AY Tryz.prog Tryz.f54.results.toList [.code (AR Tryz.f54)] (start Tryz.f54.ntmps ([F.agg [F.int .i64 x,F.int .i64 y]].map .f)) (r):=by
 refine AY.of_run Ap QO (T:=[]) (n:=200) ?_
 refine gE (Y:=T54 (fun r=>some (.ret (r))) x y) (by kernel_rfl) ?_
 exact (gS h (fun _ h=>(gS h (fun _ h=>gR (by cases h;rfl)) gN)) gN)
def V4:List F→F | [.agg [.int .i64 a,.int .i64 b]]=>Dk a b 1 | _=>.dflt
theorem Zu {x y:Int} {n:Nat} (hx:x.natAbs<4294967296 ^ n) (hy:y.natAbs<4294967296 ^ n):(x+y).natAbs<4294967296 ^ (n+1):=by
 rw [Nat.pow_succ]
 generalize 4294967296 ^ n=m at *
 omega
theorem Yl (x y:Int):BF [AX x,AX y]=AX (x*y):=by
 show AX (AW (AX x)*AW (AX y))=_
 rw [Cm,Cm]
theorem ZM {x y:Int} (hx:Al x=true) (hy:Al y=true):G54 x y=some (Dk x y 1):=by
 unfold G54 T54
 rw [hx,hy];rfl
def Yw:List F→Bool | [.agg [.int .i64 a,.int .i64 b]]=>Al a&&Al b | _=>false
theorem okSpot3:Ai Tryz.prog 54 Yw V4 :=
 Bm (c:=AR Tryz.f54) Tryz.func54 (by kernel_rfl) (by kernel_rfl) fun xs hp=>match xs,hp with
 | [.agg [.int .i64 a,.int .i64 b]],hp=>by
  simp only [Yw,Bool.and_eq_true] at hp
  exact t54 a b _ (ZM hp.1 hp.2)
def envH1:Env:=oF.add 54 (.pure Yw V4)
theorem Xi:Ax Tryz.prog envH1:=(Env.add_ok QO okSpot3.sp)
end
noncomputable section
/-! ### function 58 -/
def T58 {ρ:Type} (ret:Kg ρ) (x:Int) (y:Int) (w:Int):Option ρ :=
 (AC (decide (w<0))
 (AC (A1 800 (AX x))
 (AC (A1 800 (AX y))
 (AC (A1 800 (AX w))
 (AC (A1 699 (AX (-AW (AX x)))&&A1 699 (AX (-AW (AX y))))
 (AC (A1 699 (Bx [AX (-AW (AX x)),AX (-AW (AX y))])&&A1 699 (AX (-AW (AX w))))
 (AC (A1 800 (AX (CR (AW (Bx [AX (-AW (AX x)),AX (-AW (AX y))])) (AW (AX (-AW (AX w))))))&&true)
 (AC ((AW (AX (CR (AW (Bx [AX (-AW (AX x)),AX (-AW (AX y))])) (AW (AX (-AW (AX w))))))-AW (A0 [F.int .i64 1])).sign != 0)
 (AC (A1 699 (AX (-AW (AX x)))&&A1 699 (AX (CR (AW (Bx [AX (-AW (AX x)),AX (-AW (AX y))])) (AW (AX (-AW (AX w))))))&&I7 (AW (AX (CR (AW (Bx [AX (-AW (AX x)),AX (-AW (AX y))])) (AW (AX (-AW (AX w))))))))
 (AC (A1 699 (AX (-AW (AX y)))&&A1 699 (AX (CR (AW (Bx [AX (-AW (AX x)),AX (-AW (AX y))])) (AW (AX (-AW (AX w))))))&&I7 (AW (AX (CR (AW (Bx [AX (-AW (AX x)),AX (-AW (AX y))])) (AW (AX (-AW (AX w))))))))
 (AC (A1 699 (AX (-AW (AX w)))&&A1 699 (AX (CR (AW (Bx [AX (-AW (AX x)),AX (-AW (AX y))])) (AW (AX (-AW (AX w))))))&&I7 (AW (AX (CR (AW (Bx [AX (-AW (AX x)),AX (-AW (AX y))])) (AW (AX (-AW (AX w))))))))
 (ret (Dk (AW (AX (-AW (AX x))) / AW (AX (CR (AW (Bx [AX (-AW (AX x)),AX (-AW (AX y))])) (AW (AX (-AW (AX w))))))) (AW (AX (-AW (AX y))) / AW (AX (CR (AW (Bx [AX (-AW (AX x)),AX (-AW (AX y))])) (AW (AX (-AW (AX w))))))) (AW (AX (-AW (AX w))) / AW (AX (CR (AW (Bx [AX (-AW (AX x)),AX (-AW (AX y))])) (AW (AX (-AW (AX w)))))))))
 none)
 none)
 none)
 (ret (Dk (-AW (AX x)) (-AW (AX y)) (-AW (AX w)))))
 none)
 none)
 none)
 none)
 none)
 none)
 (AC (A1 699 (AX x)&&A1 699 (AX y))
 (AC (A1 699 (Bx [AX x,AX y])&&A1 699 (AX w))
 (AC (A1 800 (AX (CR (AW (Bx [AX x,AX y])) (AW (AX w))))&&true)
 (AC ((AW (AX (CR (AW (Bx [AX x,AX y])) (AW (AX w))))-AW (A0 [F.int .i64 1])).sign != 0)
 (AC (A1 699 (AX x)&&A1 699 (AX (CR (AW (Bx [AX x,AX y])) (AW (AX w))))&&I7 (AW (AX (CR (AW (Bx [AX x,AX y])) (AW (AX w))))))
 (AC (A1 699 (AX y)&&A1 699 (AX (CR (AW (Bx [AX x,AX y])) (AW (AX w))))&&I7 (AW (AX (CR (AW (Bx [AX x,AX y])) (AW (AX w))))))
 (AC (A1 699 (AX w)&&A1 699 (AX (CR (AW (Bx [AX x,AX y])) (AW (AX w))))&&I7 (AW (AX (CR (AW (Bx [AX x,AX y])) (AW (AX w))))))
 (ret (Dk (AW (AX x) / AW (AX (CR (AW (Bx [AX x,AX y])) (AW (AX w))))) (AW (AX y) / AW (AX (CR (AW (Bx [AX x,AX y])) (AW (AX w))))) (AW (AX w) / AW (AX (CR (AW (Bx [AX x,AX y])) (AW (AX w)))))))
 none)
 none)
 none)
 (ret (Dk x y w)))
 none)
 none)
 none))
def G58 (x:Int) (y:Int) (w:Int):Option (F):=T58 some x y w
theorem t58 (x:Int) (y:Int) (w:Int) (r:F) (h:G58 x y w=some r):AY Tryz.prog Tryz.f58.results.toList [.code (AR Tryz.f58)] (start Tryz.f58.ntmps ([AX x,AX y,AX w].map .f)) (r):=by
 refine AY.of_run Ap Xi (T:=[]) (n:=200) ?_
 refine gE (Y:=T58 (fun r=>some (.ret (r))) x y w) (by kernel_rfl) ?_
 exact (gS h (fun _ h=>(gS h (fun _ h=>(gS h (fun _ h=>(gS h (fun _ h=>(gS h (fun _ h=>(gS h (fun _ h=>(gS h (fun _ h=>(gS h (fun _ h=>(gS h (fun _ h=>(gS h (fun _ h=>(gS h (fun _ h=>gR (by cases h;rfl)) gN)) gN)) gN)) (fun _ h=>gR (by cases h;rfl)))) gN)) gN)) gN)) gN)) gN)) gN)) (fun _ h=>(gS h (fun _ h=>(gS h (fun _ h=>(gS h (fun _ h=>(gS h (fun _ h=>(gS h (fun _ h=>(gS h (fun _ h=>(gS h (fun _ h=>gR (by cases h;rfl)) gN)) gN)) gN)) (fun _ h=>gR (by cases h;rfl)))) gN)) gN)) gN)))
theorem QG {x y:Int} {m:Nat} (hx:x.natAbs<m) (hy:y.natAbs<m):(CR x y).natAbs<m:=by
 unfold CR
 rw [Int.natAbs_natCast]
 by_cases h:y.natAbs=0
 ·rw [h,Nat.gcd_zero_right];exact hx
 ·exact Nat.lt_of_le_of_lt (Nat.gcd_le_right x.natAbs (by omega)) hy
def g3 (x y w:Int):Int:=CR (CR x y) w
def mQ (x y w:Int):Int:=if w<0 then -x / g3 (-x) (-y) (-w) else x / g3 x y w
def mP (x y w:Int):Int:=if w<0 then -y / g3 (-x) (-y) (-w) else y / g3 x y w
def mR (x y w:Int):Int:=if w<0 then -w / g3 (-x) (-y) (-w) else w / g3 x y w
theorem Ym (x y:Int):Bx [AX x,AX y]=AX (CR x y):=by
 show AX (CR (AW (AX x)) (AW (AX y)))=_
 rw [Cm,Cm]
theorem ZN {x y w:Int} (hw0:w ≠ 0) (hx:x.natAbs<4294967296 ^ 600) (hy:y.natAbs<4294967296 ^ 600) (hw:w.natAbs<4294967296 ^ 600) :
  G58 x y w=some (Dk (mQ x y w) (mP x y w) (mR x y w)):=by
 unfold mQ mP mR
 have key:∀ {g:Int},¬ (g-1).sign ≠ 0→∀ z:Int,z / g=z:=fun {g} h z=>by
  have h1:=Int.sign_eq_zero_iff_zero.1 (Classical.byContradiction h)
  obtain rfl:g=1:=by omega
  exact Int.ediv_one z
 unfold G58 T58
 simp only [Ym,Cm]
 by_cases hn:w<0
 ·have gxy:=QG (x:=-x) (y:=-y) (by rw [Int.natAbs_neg];exact hx) (by rw [Int.natAbs_neg];exact hy)
  obtain ⟨g1,g2⟩:=XH (u:=CR (-x) (-y)) (show 0 < -w by omega)
  have hg:(CR (CR (-x) (-y)) (-w)).natAbs<4294967296 ^ 600:=by omega
  have dz:I7 (CR (CR (-x) (-y)) (-w))=true:=GF.2 (by omega)
  have nx:(-x).natAbs<4294967296 ^ 600:=by rw [Int.natAbs_neg];exact hx
  have ny:(-y).natAbs<4294967296 ^ 600:=by rw [Int.natAbs_neg];exact hy
  have nw:(-w).natAbs<4294967296 ^ 600:=by rw [Int.natAbs_neg];exact hw
  have i7:∀ {z:Int},z.natAbs<4294967296 ^ 600→A1 699 (AX z)=true:=fun h=>Bs (Di h (by omega))
  have i8:∀ {z:Int},z.natAbs<4294967296 ^ 600→A1 800 (AX z)=true:=fun h=>Bs (Di h (by omega))
  rw [decide_eq_true hn,if_pos hn,if_pos hn,if_pos hn]
  simp only [i8 hx,i8 hy,i8 hw,i7 nx,i7 ny,i7 nw,i7 gxy,i7 hg,i8 hg,dz,A0,Cm,Bool.and_self,AF]
  unfold g3
  by_cases h:(CR (CR (-x) (-y)) (-w)-1).sign ≠ 0
  ·rw [show ((CR (CR (-x) (-y)) (-w)-1).sign != 0)=true by simpa using h,AF]
  ·rw [show ((CR (CR (-x) (-y)) (-w)-1).sign != 0)=false by simpa using h,AJ,key h,key h,key h]
 ·have gxy:=QG hx hy
  obtain ⟨g1,g2⟩:=XH (u:=CR x y) (show 0<w by omega)
  have hg:(CR (CR x y) w).natAbs<4294967296 ^ 600:=by omega
  have dz:I7 (CR (CR x y) w)=true:=GF.2 (by omega)
  have i7:∀ {z:Int},z.natAbs<4294967296 ^ 600→A1 699 (AX z)=true:=fun h=>Bs (Di h (by omega))
  have i8:∀ {z:Int},z.natAbs<4294967296 ^ 600→A1 800 (AX z)=true:=fun h=>Bs (Di h (by omega))
  rw [decide_eq_false hn,if_neg hn,if_neg hn,if_neg hn]
  simp only [i8 hx,i8 hy,i8 hw,i7 hx,i7 hy,i7 hw,i7 gxy,i7 hg,i8 hg,dz,A0,Cm,Bool.and_self,AF,AJ]
  unfold g3
  by_cases h:(CR (CR x y) w-1).sign ≠ 0
  ·rw [show ((CR (CR x y) w-1).sign != 0)=true by simpa using h,AF]
  ·rw [show ((CR (CR x y) w-1).sign != 0)=false by simpa using h,AJ,key h,key h,key h]
def Nb (w:Int):Bool:=!(w==0)
def NQ:List F→Bool | [x,y,w]=>A1 600 x&&A1 600 y&&A1 600 w&&Nb (AW w) | _=>false
def Ro:List F→F | [x,y,w]=>Dk (mQ (AW x) (AW y) (AW w)) (mP (AW x) (AW y) (AW w)) (mR (AW x) (AW y) (AW w)) | _=>.dflt
theorem lX:Ai Tryz.prog 58 NQ Ro :=
 Ae (c:=AR Tryz.f58) Tryz.func58 (by kernel_rfl) (by kernel_rfl) fun xs hp=>match xs,hp with
 | [x,y,w],hp=>by
  simp only [NQ,Nb,Bool.and_eq_true,Bool.not_eq_true',beq_eq_false_iff_ne,ne_eq] at hp
  obtain ⟨⟨⟨h1,h2⟩,h3⟩,h4⟩:=hp
  exact ⟨[AX (AW x),AX (AW y),AX (AW w)],_,⟨(C0 h1).1,(C0 h2).1,(C0 h3).1,trivial⟩,t58 _ _ _ _ (ZN h4 (BJ h1) (BJ h2) (BJ h3)),.refl _⟩
def envH2:Env:=envH1.add 58 (.pure NQ Ro)
theorem pH:Ax Tryz.prog envH2:=(Env.add_ok Xi lX.sp)
end
noncomputable section
def envH3:Env:=envH2
theorem pG:Ax Tryz.prog envH3:=pH
end
noncomputable section
def pF:Env:=envH3
theorem SU:Ax Tryz.prog pF:=pG
end
noncomputable section
set_option maxHeartbeats 1000000
/-! ### function 25 -/
def T25 {ρ:Type} (ret:Kg ρ) (x0:Int) (y0:Int) (x1:Int) (y1:Int) (u0:Int) (v0:Int) (u1:Int) (v1:Int):Option ρ :=
 (AC ((HH x0 y0 x1 y1 u0 v0==0)==true)
 (AC (HH x0 y0 x1 y1 u1 v1==0)
 (AC (B1 x0 y0 u0 v0)
 (AC (B1 u1 v1 x1 y1)
 (AC (B1 u1 v1 u0 v0)
 (ret (F.tup [F.int .i64 0,F.agg [F.bool false,F.sl 0 fun x ↦ F.bool false,F.bool false,F.sl 0 fun x ↦ F.bool false,F.bool false,F.sl 0 fun x ↦ F.bool false],F.agg [F.bool false,F.sl 0 fun x ↦ F.bool false,F.bool false,F.sl 0 fun x ↦ F.bool false,F.bool false,F.sl 0 fun x ↦ F.bool false]]))
 (AC (u0==u1&&(v0==v1&&true))
 (AC (Al u0&&Al v0)
 (ret (F.tup [F.int .i64 1,Dk u0 v0 1,F.agg [F.bool false,F.sl 0 fun x ↦ F.bool false,F.bool false,F.sl 0 fun x ↦ F.bool false,F.bool false,F.sl 0 fun x ↦ F.bool false]]))
 none)
 (AC (Al u0&&Al v0)
 (AC (Al u1&&Al v1)
 (ret (F.tup [F.int .i64 2,Dk u0 v0 1,Dk u1 v1 1]))
 none)
 none)))
 (AC (B1 x1 y1 u0 v0)
 (ret (F.tup [F.int .i64 0,F.agg [F.bool false,F.sl 0 fun x ↦ F.bool false,F.bool false,F.sl 0 fun x ↦ F.bool false,F.bool false,F.sl 0 fun x ↦ F.bool false],F.agg [F.bool false,F.sl 0 fun x ↦ F.bool false,F.bool false,F.sl 0 fun x ↦ F.bool false,F.bool false,F.sl 0 fun x ↦ F.bool false]]))
 (AC (u0==x1&&(v0==y1&&true))
 (AC (Al u0&&Al v0)
 (ret (F.tup [F.int .i64 1,Dk u0 v0 1,F.agg [F.bool false,F.sl 0 fun x ↦ F.bool false,F.bool false,F.sl 0 fun x ↦ F.bool false,F.bool false,F.sl 0 fun x ↦ F.bool false]]))
 none)
 (AC (Al u0&&Al v0)
 (AC (Al x1&&Al y1)
 (ret (F.tup [F.int .i64 2,Dk u0 v0 1,Dk x1 y1 1]))
 none)
 none))))
 (AC (B1 u1 v1 x1 y1)
 (AC (B1 u1 v1 x0 y0)
 (ret (F.tup [F.int .i64 0,F.agg [F.bool false,F.sl 0 fun x ↦ F.bool false,F.bool false,F.sl 0 fun x ↦ F.bool false,F.bool false,F.sl 0 fun x ↦ F.bool false],F.agg [F.bool false,F.sl 0 fun x ↦ F.bool false,F.bool false,F.sl 0 fun x ↦ F.bool false,F.bool false,F.sl 0 fun x ↦ F.bool false]]))
 (AC (x0==u1&&(y0==v1&&true))
 (AC (Al x0&&Al y0)
 (ret (F.tup [F.int .i64 1,Dk x0 y0 1,F.agg [F.bool false,F.sl 0 fun x ↦ F.bool false,F.bool false,F.sl 0 fun x ↦ F.bool false,F.bool false,F.sl 0 fun x ↦ F.bool false]]))
 none)
 (AC (Al x0&&Al y0)
 (AC (Al u1&&Al v1)
 (ret (F.tup [F.int .i64 2,Dk x0 y0 1,Dk u1 v1 1]))
 none)
 none)))
 (AC (B1 x1 y1 x0 y0)
 (ret (F.tup [F.int .i64 0,F.agg [F.bool false,F.sl 0 fun x ↦ F.bool false,F.bool false,F.sl 0 fun x ↦ F.bool false,F.bool false,F.sl 0 fun x ↦ F.bool false],F.agg [F.bool false,F.sl 0 fun x ↦ F.bool false,F.bool false,F.sl 0 fun x ↦ F.bool false,F.bool false,F.sl 0 fun x ↦ F.bool false]]))
 (AC (x0==x1&&(y0==y1&&true))
 (AC (Al x0&&Al y0)
 (ret (F.tup [F.int .i64 1,Dk x0 y0 1,F.agg [F.bool false,F.sl 0 fun x ↦ F.bool false,F.bool false,F.sl 0 fun x ↦ F.bool false,F.bool false,F.sl 0 fun x ↦ F.bool false]]))
 none)
 (AC (Al x0&&Al y0)
 (AC (Al x1&&Al y1)
 (ret (F.tup [F.int .i64 2,Dk x0 y0 1,Dk x1 y1 1]))
 none)
 none)))))
 (AC (decide (IntKind.i64.wrap (HH x0 y0 x1 y1 u0 v0*HH x0 y0 x1 y1 u1 v1) > 0)==false)
 (AC (decide (IntKind.i64.wrap (HH u0 v0 u1 v1 x0 y0*HH u0 v0 u1 v1 x1 y1) > 0))
 (ret (F.tup [F.int .i64 0,F.agg [F.bool false,F.sl 0 fun x ↦ F.bool false,F.bool false,F.sl 0 fun x ↦ F.bool false,F.bool false,F.sl 0 fun x ↦ F.bool false],F.agg [F.bool false,F.sl 0 fun x ↦ F.bool false,F.bool false,F.sl 0 fun x ↦ F.bool false,F.bool false,F.sl 0 fun x ↦ F.bool false]]))
 (AC (Al (IntKind.i64.wrap (IntKind.i64.wrap (IntKind.i64.wrap (x1-x0)*IntKind.i64.wrap (v1-v0))-IntKind.i64.wrap (IntKind.i64.wrap (y1-y0)*IntKind.i64.wrap (u1-u0)))))
 (AC (Al (IntKind.i64.wrap (IntKind.i64.wrap (IntKind.i64.wrap (u0-x0)*IntKind.i64.wrap (v1-v0))-IntKind.i64.wrap (IntKind.i64.wrap (v0-y0)*IntKind.i64.wrap (u1-u0)))))
 (AC (Al x0)
 (AC (A1 900 (A0 [F.int .i64 x0])&&A1 900 (AX (IntKind.i64.wrap (IntKind.i64.wrap (IntKind.i64.wrap (x1-x0)*IntKind.i64.wrap (v1-v0))-IntKind.i64.wrap (IntKind.i64.wrap (y1-y0)*IntKind.i64.wrap (u1-u0))))))
 (AC (Al (IntKind.i64.wrap (x1-x0)))
 (AC (A1 900 (A0 [F.int .i64 (IntKind.i64.wrap (x1-x0))])&&A1 900 (AX (IntKind.i64.wrap (IntKind.i64.wrap (IntKind.i64.wrap (u0-x0)*IntKind.i64.wrap (v1-v0))-IntKind.i64.wrap (IntKind.i64.wrap (v0-y0)*IntKind.i64.wrap (u1-u0))))))
 (AC (A1 800 (BF [A0 [F.int .i64 x0],AX (IntKind.i64.wrap (IntKind.i64.wrap (IntKind.i64.wrap (x1-x0)*IntKind.i64.wrap (v1-v0))-IntKind.i64.wrap (IntKind.i64.wrap (y1-y0)*IntKind.i64.wrap (u1-u0))))])&&A1 800 (BF [A0 [F.int .i64 (IntKind.i64.wrap (x1-x0))],AX (IntKind.i64.wrap (IntKind.i64.wrap (IntKind.i64.wrap (u0-x0)*IntKind.i64.wrap (v1-v0))-IntKind.i64.wrap (IntKind.i64.wrap (v0-y0)*IntKind.i64.wrap (u1-u0))))]))
 (AC (Al y0)
 (AC (A1 900 (A0 [F.int .i64 y0])&&A1 900 (AX (IntKind.i64.wrap (IntKind.i64.wrap (IntKind.i64.wrap (x1-x0)*IntKind.i64.wrap (v1-v0))-IntKind.i64.wrap (IntKind.i64.wrap (y1-y0)*IntKind.i64.wrap (u1-u0))))))
 (AC (Al (IntKind.i64.wrap (y1-y0)))
 (AC (A1 900 (A0 [F.int .i64 (IntKind.i64.wrap (y1-y0))])&&A1 900 (AX (IntKind.i64.wrap (IntKind.i64.wrap (IntKind.i64.wrap (u0-x0)*IntKind.i64.wrap (v1-v0))-IntKind.i64.wrap (IntKind.i64.wrap (v0-y0)*IntKind.i64.wrap (u1-u0))))))
 (AC (A1 800 (BF [A0 [F.int .i64 y0],AX (IntKind.i64.wrap (IntKind.i64.wrap (IntKind.i64.wrap (x1-x0)*IntKind.i64.wrap (v1-v0))-IntKind.i64.wrap (IntKind.i64.wrap (y1-y0)*IntKind.i64.wrap (u1-u0))))])&&A1 800 (BF [A0 [F.int .i64 (IntKind.i64.wrap (y1-y0))],AX (IntKind.i64.wrap (IntKind.i64.wrap (IntKind.i64.wrap (u0-x0)*IntKind.i64.wrap (v1-v0))-IntKind.i64.wrap (IntKind.i64.wrap (v0-y0)*IntKind.i64.wrap (u1-u0))))]))
 (AC (A1 600 (AX (AW (BF [A0 [F.int .i64 x0],AX (IntKind.i64.wrap (IntKind.i64.wrap (IntKind.i64.wrap (x1-x0)*IntKind.i64.wrap (v1-v0))-IntKind.i64.wrap (IntKind.i64.wrap (y1-y0)*IntKind.i64.wrap (u1-u0))))])+AW (BF [A0 [F.int .i64 (IntKind.i64.wrap (x1-x0))],AX (IntKind.i64.wrap (IntKind.i64.wrap (IntKind.i64.wrap (u0-x0)*IntKind.i64.wrap (v1-v0))-IntKind.i64.wrap (IntKind.i64.wrap (v0-y0)*IntKind.i64.wrap (u1-u0))))])))&&A1 600 (AX (AW (BF [A0 [F.int .i64 y0],AX (IntKind.i64.wrap (IntKind.i64.wrap (IntKind.i64.wrap (x1-x0)*IntKind.i64.wrap (v1-v0))-IntKind.i64.wrap (IntKind.i64.wrap (y1-y0)*IntKind.i64.wrap (u1-u0))))])+AW (BF [A0 [F.int .i64 (IntKind.i64.wrap (y1-y0))],AX (IntKind.i64.wrap (IntKind.i64.wrap (IntKind.i64.wrap (u0-x0)*IntKind.i64.wrap (v1-v0))-IntKind.i64.wrap (IntKind.i64.wrap (v0-y0)*IntKind.i64.wrap (u1-u0))))])))&&A1 600 (AX (IntKind.i64.wrap (IntKind.i64.wrap (IntKind.i64.wrap (x1-x0)*IntKind.i64.wrap (v1-v0))-IntKind.i64.wrap (IntKind.i64.wrap (y1-y0)*IntKind.i64.wrap (u1-u0)))))&&Nb (AW (AX (IntKind.i64.wrap (IntKind.i64.wrap (IntKind.i64.wrap (x1-x0)*IntKind.i64.wrap (v1-v0))-IntKind.i64.wrap (IntKind.i64.wrap (y1-y0)*IntKind.i64.wrap (u1-u0)))))))
 (ret (F.tup [F.int .i64 1,Dk (mQ (AW (AX (AW (BF [A0 [F.int .i64 x0],AX (IntKind.i64.wrap (IntKind.i64.wrap (IntKind.i64.wrap (x1-x0)*IntKind.i64.wrap (v1-v0))-IntKind.i64.wrap (IntKind.i64.wrap (y1-y0)*IntKind.i64.wrap (u1-u0))))])+AW (BF [A0 [F.int .i64 (IntKind.i64.wrap (x1-x0))],AX (IntKind.i64.wrap (IntKind.i64.wrap (IntKind.i64.wrap (u0-x0)*IntKind.i64.wrap (v1-v0))-IntKind.i64.wrap (IntKind.i64.wrap (v0-y0)*IntKind.i64.wrap (u1-u0))))])))) (AW (AX (AW (BF [A0 [F.int .i64 y0],AX (IntKind.i64.wrap (IntKind.i64.wrap (IntKind.i64.wrap (x1-x0)*IntKind.i64.wrap (v1-v0))-IntKind.i64.wrap (IntKind.i64.wrap (y1-y0)*IntKind.i64.wrap (u1-u0))))])+AW (BF [A0 [F.int .i64 (IntKind.i64.wrap (y1-y0))],AX (IntKind.i64.wrap (IntKind.i64.wrap (IntKind.i64.wrap (u0-x0)*IntKind.i64.wrap (v1-v0))-IntKind.i64.wrap (IntKind.i64.wrap (v0-y0)*IntKind.i64.wrap (u1-u0))))])))) (AW (AX (IntKind.i64.wrap (IntKind.i64.wrap (IntKind.i64.wrap (x1-x0)*IntKind.i64.wrap (v1-v0))-IntKind.i64.wrap (IntKind.i64.wrap (y1-y0)*IntKind.i64.wrap (u1-u0))))))) (mP (AW (AX (AW (BF [A0 [F.int .i64 x0],AX (IntKind.i64.wrap (IntKind.i64.wrap (IntKind.i64.wrap (x1-x0)*IntKind.i64.wrap (v1-v0))-IntKind.i64.wrap (IntKind.i64.wrap (y1-y0)*IntKind.i64.wrap (u1-u0))))])+AW (BF [A0 [F.int .i64 (IntKind.i64.wrap (x1-x0))],AX (IntKind.i64.wrap (IntKind.i64.wrap (IntKind.i64.wrap (u0-x0)*IntKind.i64.wrap (v1-v0))-IntKind.i64.wrap (IntKind.i64.wrap (v0-y0)*IntKind.i64.wrap (u1-u0))))])))) (AW (AX (AW (BF [A0 [F.int .i64 y0],AX (IntKind.i64.wrap (IntKind.i64.wrap (IntKind.i64.wrap (x1-x0)*IntKind.i64.wrap (v1-v0))-IntKind.i64.wrap (IntKind.i64.wrap (y1-y0)*IntKind.i64.wrap (u1-u0))))])+AW (BF [A0 [F.int .i64 (IntKind.i64.wrap (y1-y0))],AX (IntKind.i64.wrap (IntKind.i64.wrap (IntKind.i64.wrap (u0-x0)*IntKind.i64.wrap (v1-v0))-IntKind.i64.wrap (IntKind.i64.wrap (v0-y0)*IntKind.i64.wrap (u1-u0))))])))) (AW (AX (IntKind.i64.wrap (IntKind.i64.wrap (IntKind.i64.wrap (x1-x0)*IntKind.i64.wrap (v1-v0))-IntKind.i64.wrap (IntKind.i64.wrap (y1-y0)*IntKind.i64.wrap (u1-u0))))))) (mR (AW (AX (AW (BF [A0 [F.int .i64 x0],AX (IntKind.i64.wrap (IntKind.i64.wrap (IntKind.i64.wrap (x1-x0)*IntKind.i64.wrap (v1-v0))-IntKind.i64.wrap (IntKind.i64.wrap (y1-y0)*IntKind.i64.wrap (u1-u0))))])+AW (BF [A0 [F.int .i64 (IntKind.i64.wrap (x1-x0))],AX (IntKind.i64.wrap (IntKind.i64.wrap (IntKind.i64.wrap (u0-x0)*IntKind.i64.wrap (v1-v0))-IntKind.i64.wrap (IntKind.i64.wrap (v0-y0)*IntKind.i64.wrap (u1-u0))))])))) (AW (AX (AW (BF [A0 [F.int .i64 y0],AX (IntKind.i64.wrap (IntKind.i64.wrap (IntKind.i64.wrap (x1-x0)*IntKind.i64.wrap (v1-v0))-IntKind.i64.wrap (IntKind.i64.wrap (y1-y0)*IntKind.i64.wrap (u1-u0))))])+AW (BF [A0 [F.int .i64 (IntKind.i64.wrap (y1-y0))],AX (IntKind.i64.wrap (IntKind.i64.wrap (IntKind.i64.wrap (u0-x0)*IntKind.i64.wrap (v1-v0))-IntKind.i64.wrap (IntKind.i64.wrap (v0-y0)*IntKind.i64.wrap (u1-u0))))])))) (AW (AX (IntKind.i64.wrap (IntKind.i64.wrap (IntKind.i64.wrap (x1-x0)*IntKind.i64.wrap (v1-v0))-IntKind.i64.wrap (IntKind.i64.wrap (y1-y0)*IntKind.i64.wrap (u1-u0))))))),F.agg [F.bool false,F.sl 0 fun x ↦ F.bool false,F.bool false,F.sl 0 fun x ↦ F.bool false,F.bool false,F.sl 0 fun x ↦ F.bool false]]))
 none)
 none)
 none)
 none)
 none)
 none)
 none)
 none)
 none)
 none)
 none)
 none)
 none))
 (ret (F.tup [F.int .i64 0,F.agg [F.bool false,F.sl 0 fun x ↦ F.bool false,F.bool false,F.sl 0 fun x ↦ F.bool false,F.bool false,F.sl 0 fun x ↦ F.bool false],F.agg [F.bool false,F.sl 0 fun x ↦ F.bool false,F.bool false,F.sl 0 fun x ↦ F.bool false,F.bool false,F.sl 0 fun x ↦ F.bool false]]))))
 (AC (decide (IntKind.i64.wrap (HH x0 y0 x1 y1 u0 v0*HH x0 y0 x1 y1 u1 v1) > 0)==false)
 (AC (decide (IntKind.i64.wrap (HH u0 v0 u1 v1 x0 y0*HH u0 v0 u1 v1 x1 y1) > 0))
 (ret (F.tup [F.int .i64 0,F.agg [F.bool false,F.sl 0 fun x ↦ F.bool false,F.bool false,F.sl 0 fun x ↦ F.bool false,F.bool false,F.sl 0 fun x ↦ F.bool false],F.agg [F.bool false,F.sl 0 fun x ↦ F.bool false,F.bool false,F.sl 0 fun x ↦ F.bool false,F.bool false,F.sl 0 fun x ↦ F.bool false]]))
 (AC (Al (IntKind.i64.wrap (IntKind.i64.wrap (IntKind.i64.wrap (x1-x0)*IntKind.i64.wrap (v1-v0))-IntKind.i64.wrap (IntKind.i64.wrap (y1-y0)*IntKind.i64.wrap (u1-u0)))))
 (AC (Al (IntKind.i64.wrap (IntKind.i64.wrap (IntKind.i64.wrap (u0-x0)*IntKind.i64.wrap (v1-v0))-IntKind.i64.wrap (IntKind.i64.wrap (v0-y0)*IntKind.i64.wrap (u1-u0)))))
 (AC (Al x0)
 (AC (A1 900 (A0 [F.int .i64 x0])&&A1 900 (AX (IntKind.i64.wrap (IntKind.i64.wrap (IntKind.i64.wrap (x1-x0)*IntKind.i64.wrap (v1-v0))-IntKind.i64.wrap (IntKind.i64.wrap (y1-y0)*IntKind.i64.wrap (u1-u0))))))
 (AC (Al (IntKind.i64.wrap (x1-x0)))
 (AC (A1 900 (A0 [F.int .i64 (IntKind.i64.wrap (x1-x0))])&&A1 900 (AX (IntKind.i64.wrap (IntKind.i64.wrap (IntKind.i64.wrap (u0-x0)*IntKind.i64.wrap (v1-v0))-IntKind.i64.wrap (IntKind.i64.wrap (v0-y0)*IntKind.i64.wrap (u1-u0))))))
 (AC (A1 800 (BF [A0 [F.int .i64 x0],AX (IntKind.i64.wrap (IntKind.i64.wrap (IntKind.i64.wrap (x1-x0)*IntKind.i64.wrap (v1-v0))-IntKind.i64.wrap (IntKind.i64.wrap (y1-y0)*IntKind.i64.wrap (u1-u0))))])&&A1 800 (BF [A0 [F.int .i64 (IntKind.i64.wrap (x1-x0))],AX (IntKind.i64.wrap (IntKind.i64.wrap (IntKind.i64.wrap (u0-x0)*IntKind.i64.wrap (v1-v0))-IntKind.i64.wrap (IntKind.i64.wrap (v0-y0)*IntKind.i64.wrap (u1-u0))))]))
 (AC (Al y0)
 (AC (A1 900 (A0 [F.int .i64 y0])&&A1 900 (AX (IntKind.i64.wrap (IntKind.i64.wrap (IntKind.i64.wrap (x1-x0)*IntKind.i64.wrap (v1-v0))-IntKind.i64.wrap (IntKind.i64.wrap (y1-y0)*IntKind.i64.wrap (u1-u0))))))
 (AC (Al (IntKind.i64.wrap (y1-y0)))
 (AC (A1 900 (A0 [F.int .i64 (IntKind.i64.wrap (y1-y0))])&&A1 900 (AX (IntKind.i64.wrap (IntKind.i64.wrap (IntKind.i64.wrap (u0-x0)*IntKind.i64.wrap (v1-v0))-IntKind.i64.wrap (IntKind.i64.wrap (v0-y0)*IntKind.i64.wrap (u1-u0))))))
 (AC (A1 800 (BF [A0 [F.int .i64 y0],AX (IntKind.i64.wrap (IntKind.i64.wrap (IntKind.i64.wrap (x1-x0)*IntKind.i64.wrap (v1-v0))-IntKind.i64.wrap (IntKind.i64.wrap (y1-y0)*IntKind.i64.wrap (u1-u0))))])&&A1 800 (BF [A0 [F.int .i64 (IntKind.i64.wrap (y1-y0))],AX (IntKind.i64.wrap (IntKind.i64.wrap (IntKind.i64.wrap (u0-x0)*IntKind.i64.wrap (v1-v0))-IntKind.i64.wrap (IntKind.i64.wrap (v0-y0)*IntKind.i64.wrap (u1-u0))))]))
 (AC (A1 600 (AX (AW (BF [A0 [F.int .i64 x0],AX (IntKind.i64.wrap (IntKind.i64.wrap (IntKind.i64.wrap (x1-x0)*IntKind.i64.wrap (v1-v0))-IntKind.i64.wrap (IntKind.i64.wrap (y1-y0)*IntKind.i64.wrap (u1-u0))))])+AW (BF [A0 [F.int .i64 (IntKind.i64.wrap (x1-x0))],AX (IntKind.i64.wrap (IntKind.i64.wrap (IntKind.i64.wrap (u0-x0)*IntKind.i64.wrap (v1-v0))-IntKind.i64.wrap (IntKind.i64.wrap (v0-y0)*IntKind.i64.wrap (u1-u0))))])))&&A1 600 (AX (AW (BF [A0 [F.int .i64 y0],AX (IntKind.i64.wrap (IntKind.i64.wrap (IntKind.i64.wrap (x1-x0)*IntKind.i64.wrap (v1-v0))-IntKind.i64.wrap (IntKind.i64.wrap (y1-y0)*IntKind.i64.wrap (u1-u0))))])+AW (BF [A0 [F.int .i64 (IntKind.i64.wrap (y1-y0))],AX (IntKind.i64.wrap (IntKind.i64.wrap (IntKind.i64.wrap (u0-x0)*IntKind.i64.wrap (v1-v0))-IntKind.i64.wrap (IntKind.i64.wrap (v0-y0)*IntKind.i64.wrap (u1-u0))))])))&&A1 600 (AX (IntKind.i64.wrap (IntKind.i64.wrap (IntKind.i64.wrap (x1-x0)*IntKind.i64.wrap (v1-v0))-IntKind.i64.wrap (IntKind.i64.wrap (y1-y0)*IntKind.i64.wrap (u1-u0)))))&&Nb (AW (AX (IntKind.i64.wrap (IntKind.i64.wrap (IntKind.i64.wrap (x1-x0)*IntKind.i64.wrap (v1-v0))-IntKind.i64.wrap (IntKind.i64.wrap (y1-y0)*IntKind.i64.wrap (u1-u0)))))))
 (ret (F.tup [F.int .i64 1,Dk (mQ (AW (AX (AW (BF [A0 [F.int .i64 x0],AX (IntKind.i64.wrap (IntKind.i64.wrap (IntKind.i64.wrap (x1-x0)*IntKind.i64.wrap (v1-v0))-IntKind.i64.wrap (IntKind.i64.wrap (y1-y0)*IntKind.i64.wrap (u1-u0))))])+AW (BF [A0 [F.int .i64 (IntKind.i64.wrap (x1-x0))],AX (IntKind.i64.wrap (IntKind.i64.wrap (IntKind.i64.wrap (u0-x0)*IntKind.i64.wrap (v1-v0))-IntKind.i64.wrap (IntKind.i64.wrap (v0-y0)*IntKind.i64.wrap (u1-u0))))])))) (AW (AX (AW (BF [A0 [F.int .i64 y0],AX (IntKind.i64.wrap (IntKind.i64.wrap (IntKind.i64.wrap (x1-x0)*IntKind.i64.wrap (v1-v0))-IntKind.i64.wrap (IntKind.i64.wrap (y1-y0)*IntKind.i64.wrap (u1-u0))))])+AW (BF [A0 [F.int .i64 (IntKind.i64.wrap (y1-y0))],AX (IntKind.i64.wrap (IntKind.i64.wrap (IntKind.i64.wrap (u0-x0)*IntKind.i64.wrap (v1-v0))-IntKind.i64.wrap (IntKind.i64.wrap (v0-y0)*IntKind.i64.wrap (u1-u0))))])))) (AW (AX (IntKind.i64.wrap (IntKind.i64.wrap (IntKind.i64.wrap (x1-x0)*IntKind.i64.wrap (v1-v0))-IntKind.i64.wrap (IntKind.i64.wrap (y1-y0)*IntKind.i64.wrap (u1-u0))))))) (mP (AW (AX (AW (BF [A0 [F.int .i64 x0],AX (IntKind.i64.wrap (IntKind.i64.wrap (IntKind.i64.wrap (x1-x0)*IntKind.i64.wrap (v1-v0))-IntKind.i64.wrap (IntKind.i64.wrap (y1-y0)*IntKind.i64.wrap (u1-u0))))])+AW (BF [A0 [F.int .i64 (IntKind.i64.wrap (x1-x0))],AX (IntKind.i64.wrap (IntKind.i64.wrap (IntKind.i64.wrap (u0-x0)*IntKind.i64.wrap (v1-v0))-IntKind.i64.wrap (IntKind.i64.wrap (v0-y0)*IntKind.i64.wrap (u1-u0))))])))) (AW (AX (AW (BF [A0 [F.int .i64 y0],AX (IntKind.i64.wrap (IntKind.i64.wrap (IntKind.i64.wrap (x1-x0)*IntKind.i64.wrap (v1-v0))-IntKind.i64.wrap (IntKind.i64.wrap (y1-y0)*IntKind.i64.wrap (u1-u0))))])+AW (BF [A0 [F.int .i64 (IntKind.i64.wrap (y1-y0))],AX (IntKind.i64.wrap (IntKind.i64.wrap (IntKind.i64.wrap (u0-x0)*IntKind.i64.wrap (v1-v0))-IntKind.i64.wrap (IntKind.i64.wrap (v0-y0)*IntKind.i64.wrap (u1-u0))))])))) (AW (AX (IntKind.i64.wrap (IntKind.i64.wrap (IntKind.i64.wrap (x1-x0)*IntKind.i64.wrap (v1-v0))-IntKind.i64.wrap (IntKind.i64.wrap (y1-y0)*IntKind.i64.wrap (u1-u0))))))) (mR (AW (AX (AW (BF [A0 [F.int .i64 x0],AX (IntKind.i64.wrap (IntKind.i64.wrap (IntKind.i64.wrap (x1-x0)*IntKind.i64.wrap (v1-v0))-IntKind.i64.wrap (IntKind.i64.wrap (y1-y0)*IntKind.i64.wrap (u1-u0))))])+AW (BF [A0 [F.int .i64 (IntKind.i64.wrap (x1-x0))],AX (IntKind.i64.wrap (IntKind.i64.wrap (IntKind.i64.wrap (u0-x0)*IntKind.i64.wrap (v1-v0))-IntKind.i64.wrap (IntKind.i64.wrap (v0-y0)*IntKind.i64.wrap (u1-u0))))])))) (AW (AX (AW (BF [A0 [F.int .i64 y0],AX (IntKind.i64.wrap (IntKind.i64.wrap (IntKind.i64.wrap (x1-x0)*IntKind.i64.wrap (v1-v0))-IntKind.i64.wrap (IntKind.i64.wrap (y1-y0)*IntKind.i64.wrap (u1-u0))))])+AW (BF [A0 [F.int .i64 (IntKind.i64.wrap (y1-y0))],AX (IntKind.i64.wrap (IntKind.i64.wrap (IntKind.i64.wrap (u0-x0)*IntKind.i64.wrap (v1-v0))-IntKind.i64.wrap (IntKind.i64.wrap (v0-y0)*IntKind.i64.wrap (u1-u0))))])))) (AW (AX (IntKind.i64.wrap (IntKind.i64.wrap (IntKind.i64.wrap (x1-x0)*IntKind.i64.wrap (v1-v0))-IntKind.i64.wrap (IntKind.i64.wrap (y1-y0)*IntKind.i64.wrap (u1-u0))))))),F.agg [F.bool false,F.sl 0 fun x ↦ F.bool false,F.bool false,F.sl 0 fun x ↦ F.bool false,F.bool false,F.sl 0 fun x ↦ F.bool false]]))
 none)
 none)
 none)
 none)
 none)
 none)
 none)
 none)
 none)
 none)
 none)
 none)
 none))
 (ret (F.tup [F.int .i64 0,F.agg [F.bool false,F.sl 0 fun x ↦ F.bool false,F.bool false,F.sl 0 fun x ↦ F.bool false,F.bool false,F.sl 0 fun x ↦ F.bool false],F.agg [F.bool false,F.sl 0 fun x ↦ F.bool false,F.bool false,F.sl 0 fun x ↦ F.bool false,F.bool false,F.sl 0 fun x ↦ F.bool false]]))))
def G25 (x0:Int) (y0:Int) (x1:Int) (y1:Int) (u0:Int) (v0:Int) (u1:Int) (v1:Int):Option (F):=T25 some x0 y0 x1 y1 u0 v0 u1 v1
theorem t25 (x0:Int) (y0:Int) (x1:Int) (y1:Int) (u0:Int) (v0:Int) (u1:Int) (v1:Int) (r:F) (h:G25 x0 y0 x1 y1 u0 v0 u1 v1=some r):AY Tryz.prog Tryz.f25.results.toList [.code (AR Tryz.f25)] (start Tryz.f25.ntmps ([F.agg [F.int .i64 x0,F.int .i64 y0,F.int .i64 x1,F.int .i64 y1],F.agg [F.int .i64 u0,F.int .i64 v0,F.int .i64 u1,F.int .i64 v1]].map .f)) (r):=by
 refine AY.of_run Ap SU (T:=[]) (n:=200) ?_
 refine gE (Y:=T25 (fun r=>some (.ret (r))) x0 y0 x1 y1 u0 v0 u1 v1) (by kernel_rfl) ?_
 exact (gS h (fun _ h=>(gS h (fun _ h=>(gS h (fun _ h=>(gS h (fun _ h=>(gS h (fun _ h=>gR (by cases h;rfl)) (fun _ h=>(gS h (fun _ h=>(gS h (fun _ h=>gR (by cases h;rfl)) gN)) (fun _ h=>(gS h (fun _ h=>(gS h (fun _ h=>gR (by cases h;rfl)) gN)) gN)))))) (fun _ h=>(gS h (fun _ h=>gR (by cases h;rfl)) (fun _ h=>(gS h (fun _ h=>(gS h (fun _ h=>gR (by cases h;rfl)) gN)) (fun _ h=>(gS h (fun _ h=>(gS h (fun _ h=>gR (by cases h;rfl)) gN)) gN)))))))) (fun _ h=>(gS h (fun _ h=>(gS h (fun _ h=>gR (by cases h;rfl)) (fun _ h=>(gS h (fun _ h=>(gS h (fun _ h=>gR (by cases h;rfl)) gN)) (fun _ h=>(gS h (fun _ h=>(gS h (fun _ h=>gR (by cases h;rfl)) gN)) gN)))))) (fun _ h=>(gS h (fun _ h=>gR (by cases h;rfl)) (fun _ h=>(gS h (fun _ h=>(gS h (fun _ h=>gR (by cases h;rfl)) gN)) (fun _ h=>(gS h (fun _ h=>(gS h (fun _ h=>gR (by cases h;rfl)) gN)) gN)))))))))) (fun _ h=>(gS h (fun _ h=>(gS h (fun _ h=>gR (by cases h;rfl)) (fun _ h=>(gS h (fun _ h=>(gS h (fun _ h=>(gS h (fun _ h=>(gS h (fun _ h=>(gS h (fun _ h=>(gS h (fun _ h=>(gS h (fun _ h=>(gS h (fun _ h=>(gS h (fun _ h=>(gS h (fun _ h=>(gS h (fun _ h=>(gS h (fun _ h=>(gS h (fun _ h=>gR (by cases h;rfl)) gN)) gN)) gN)) gN)) gN)) gN)) gN)) gN)) gN)) gN)) gN)) gN)) gN)))) (fun _ h=>gR (by cases h;rfl)))))) (fun _ h=>(gS h (fun _ h=>(gS h (fun _ h=>gR (by cases h;rfl)) (fun _ h=>(gS h (fun _ h=>(gS h (fun _ h=>(gS h (fun _ h=>(gS h (fun _ h=>(gS h (fun _ h=>(gS h (fun _ h=>(gS h (fun _ h=>(gS h (fun _ h=>(gS h (fun _ h=>(gS h (fun _ h=>(gS h (fun _ h=>(gS h (fun _ h=>(gS h (fun _ h=>gR (by cases h;rfl)) gN)) gN)) gN)) gN)) gN)) gN)) gN)) gN)) gN)) gN)) gN)) gN)) gN)))) (fun _ h=>gR (by cases h;rfl)))))
theorem HI (n:Int):HJ n=n.sign:=by
 unfold HJ
 rcases Int.lt_trichotomy n 0 with h | h | h
 ·rw [decide_eq_true h,Int.sign_eq_neg_one_of_neg h];rfl
 ·subst h;rfl
 ·rw [decide_eq_false (show ¬ n<0 by omega),decide_eq_true (show n > 0 by omega),Int.sign_eq_one_of_pos h];rfl
theorem EB {x0 y0 x1 y1 u v:Int} (h0:At x0 y0) (h1:At x1 y1) (h2:At u v):HH x0 y0 x1 y1 u v=(Ab x0 y0 x1 y1 u v).sign:=by
 unfold HH
 rw [(Bn h0 h1 h2).1,HI]
theorem Vk (a:Int):(a<0∧a.sign = -1) ∨ (a=0∧a.sign=0) ∨ (0<a∧a.sign=1):=by
 rcases Int.lt_trichotomy a 0 with h | h | h
 ·exact .inl ⟨h,Int.sign_eq_neg_one_of_neg h⟩
 ·subst h;exact .inr (.inl ⟨rfl,rfl⟩)
 ·exact .inr (.inr ⟨h,Int.sign_eq_one_of_pos h⟩)
theorem D6 {a b:Int} (h:apart a b):decide (IntKind.i64.wrap (a.sign*b.sign) > 0)=false:=by
 unfold apart at h
 rcases Vk a with ⟨k,e⟩ | ⟨k,e⟩ | ⟨k,e⟩ <;> rcases Vk b with ⟨m,f⟩ | ⟨m,f⟩ | ⟨m,f⟩ <;> rw [e,f] <;> first | rfl | (exfalso;omega)
theorem In {a b:Int} (h:¬ apart a b):decide (IntKind.i64.wrap (a.sign*b.sign) > 0)=true:=by
 unfold apart at h
 rcases Vk a with ⟨k,e⟩ | ⟨k,e⟩ | ⟨k,e⟩ <;> rcases Vk b with ⟨m,f⟩ | ⟨m,f⟩ | ⟨m,f⟩ <;> rw [e,f] <;> first | rfl | (exfalso;omega)
theorem Cz {a b c d:Int}:B1 a b c d=true ↔ BT a b c d:=by
 unfold B1 BT
 rw [Bool.or_eq_true,Bool.and_eq_true,decide_eq_true_eq,decide_eq_true_eq,beq_iff_eq]
theorem Er {a b c d:Int}:B1 a b c d=false ↔ Ct c d a b:=by
 rw [← Bool.not_eq_true,Cz]
 unfold BT Ct
 omega
def Dj (x0 y0 x1 y1 u0 v0 u1 v1:Int):Prop:=Ab x0 y0 x1 y1 u0 v0=0∧Ab x0 y0 x1 y1 u1 v1=0∧BT u0 v0 x1 y1∧BT x0 y0 u1 v1
def EW (k:Int) (M S:Prop):Prop:=(k=0 ∨ k=1 ∨ k=2)∧(k ≠ 0 ↔ M)∧(k=2 ↔ S)
theorem R7 {k m:Int} {M S:Prop} (h:EW k M S) (g:EW m M S):k=m:=by
 obtain ⟨h1,h2,h3⟩:=h
 obtain ⟨g1,g2,g3⟩:=g
 by_cases hM:M <;> by_cases hS:S <;> simp only [hM,hS,iff_true,iff_false] at h2 h3 g2 g3 <;> omega
theorem K0 {k:Int} {M S:Prop} (h:∀ j,j=k→((j=0 ∨ j=1 ∨ j=2)∧(j ≠ 0 ↔ M)∧(j=2 ↔ S))):EW k M S:=h k rfl
def is3 (p:F):Prop:=∃ X Y W,FLe p (Dk X Y W)
theorem ZS (X Y W:Int):is3 (Dk X Y W):=⟨X,Y,W,.refl _⟩
theorem QB:is3 (F.agg [F.bool false,F.sl 0 fun x ↦ F.bool false,F.bool false,F.sl 0 fun x ↦ F.bool false,F.bool false,F.sl 0 fun x ↦ F.bool false]):=⟨_,_,_,(l3p_eqv (n:=100) (by rfl)).1⟩
def LN (X:Option F) (M S:Prop):Prop:=∃ k p q,X=some (F.tup [F.int .i64 k,p,q])∧EW k M S∧is3 p∧is3 q
theorem ends3 {c e:Bool} {X Y:Option F} {M S:Prop} (h1:c=true→LN X M S) (h2:c=false→LN Y M S):LN (AC c X Y) M S:=by
 cases c
 ·exact h2 rfl
 ·exact h1 rfl
theorem Tc {k:Int} {X Y W:Int} {M S:Prop} (h:EW k M S):LN (some (F.tup [F.int .i64 k,Dk X Y W,F.agg [F.bool false,F.sl 0 fun x ↦ F.bool false,F.bool false,F.sl 0 fun x ↦ F.bool false,F.bool false,F.sl 0 fun x ↦ F.bool false]])) M S:=⟨_,_,_,rfl,h,ZS _ _ _,QB⟩
theorem nO {k:Int} {X Y W X' Y' W':Int} {M S:Prop} (h:EW k M S):LN (some (F.tup [F.int .i64 k,Dk X Y W,Dk X' Y' W'])) M S:=⟨_,_,_,rfl,h,ZS _ _ _,ZS _ _ _⟩
theorem O8 {k:Int} {M S:Prop} (h:EW k M S):LN (some (F.tup [F.int .i64 k,F.agg [F.bool false,F.sl 0 fun x ↦ F.bool false,F.bool false,F.sl 0 fun x ↦ F.bool false,F.bool false,F.sl 0 fun x ↦ F.bool false],F.agg [F.bool false,F.sl 0 fun x ↦ F.bool false,F.bool false,F.sl 0 fun x ↦ F.bool false,F.bool false,F.sl 0 fun x ↦ F.bool false]])) M S:=⟨_,_,_,rfl,h,QB,QB⟩
theorem ZL {x0 y0 x1 y1 u0 v0 u1 v1:Int} (h0:At x0 y0) (h1:At x1 y1) (k0:At u0 v0) (k1:At u1 v1) (hs:BT x0 y0 x1 y1) (ht:BT u0 v0 u1 v1) (ha:Ab x0 y0 x1 y1 u0 v0=0) (hb:Ab x0 y0 x1 y1 u1 v1=0) :
  LN (G25 x0 y0 x1 y1 u0 v0 u1 v1) (CZ x0 y0 x1 y1 u0 v0 u1 v1) (Dj x0 y0 x1 y1 u0 v0 u1 v1):=by
 have i:∀ {x y:Int},At x y→Al x=true∧Al y=true:=fun h=>by
  unfold At at h
  exact ⟨BG.2 (by omega),BG.2 (by omega)⟩
 have hm:CZ x0 y0 x1 y1 u0 v0 u1 v1 ↔ (Ct u0 v0 x1 y1∧Ct x0 y0 u1 v1):=by
  unfold CZ
  rw [ha,hb]
  constructor
  ·rintro (⟨_,_,h⟩ | ⟨h,_⟩)
   ·exact h
   ·exact absurd ⟨rfl,rfl⟩ h
  ·exact fun h=>.inl ⟨rfl,rfl,h⟩
 unfold G25 T25
 rw [EB h0 h1 k0,EB h0 h1 k1,ha,hb]
 simp only [Int.sign_zero,beq_self_eq_true,AF,i h0,i h1,i k0,i k1,Bool.and_self]
 unfold BT at hs ht
 have hsp:Dj x0 y0 x1 y1 u0 v0 u1 v1 ↔ (BT u0 v0 x1 y1∧BT x0 y0 u1 v1):=by
  unfold Dj
  rw [ha,hb]
  exact ⟨fun h=>h.2.2,fun h=>⟨rfl,rfl,h⟩⟩
 repeat' first
  | (refine ends3 (e:=true) (fun _=>?_) (fun _=>?_))
  | (refine O8 ?_;refine K0 fun j hj=>?_;rw [hm,hsp];clear hm hsp ha hb i h0 h1 k0 k1;simp only [Cz,Er,Bool.and_true,Bool.and_eq_true,Bool.and_eq_false_iff,beq_iff_eq,beq_eq_false_iff_ne,ne_eq] at *;unfold Ct at *;unfold BT at *;omega)
  | (refine Tc ?_;refine K0 fun j hj=>?_;rw [hm,hsp];clear hm hsp ha hb i h0 h1 k0 k1;simp only [Cz,Er,Bool.and_true,Bool.and_eq_true,Bool.and_eq_false_iff,beq_iff_eq,beq_eq_false_iff_ne,ne_eq] at *;unfold Ct at *;unfold BT at *;omega)
  | (refine nO ?_;refine K0 fun j hj=>?_;rw [hm,hsp];clear hm hsp ha hb i h0 h1 k0 k1;simp only [Cz,Er,Bool.and_true,Bool.and_eq_true,Bool.and_eq_false_iff,beq_iff_eq,beq_eq_false_iff_ne,ne_eq] at *;unfold Ct at *;unfold BT at *;omega)
theorem MI (a:Int):(a.sign==0)=(a==0):=by
 rcases Vk a with ⟨h,e⟩ | ⟨h,e⟩ | ⟨h,e⟩
 ·rw [e,show (a==0)=false by simp only [beq_eq_false_iff_ne,ne_eq];omega];rfl
 ·rw [h];rfl
 ·rw [e,show (a==0)=false by simp only [beq_eq_false_iff_ne,ne_eq];omega];rfl
theorem ZK {x0 y0 x1 y1 u0 v0 u1 v1:Int} (h0:At x0 y0) (h1:At x1 y1) (k0:At u0 v0) (k1:At u1 v1) (hn:¬ (Ab x0 y0 x1 y1 u0 v0=0∧Ab x0 y0 x1 y1 u1 v1=0))
  (ho:¬ (apart (Ab x0 y0 x1 y1 u0 v0) (Ab x0 y0 x1 y1 u1 v1)∧apart (Ab u0 v0 u1 v1 x0 y0) (Ab u0 v0 u1 v1 x1 y1))) :
  LN (G25 x0 y0 x1 y1 u0 v0 u1 v1) (CZ x0 y0 x1 y1 u0 v0 u1 v1) (Dj x0 y0 x1 y1 u0 v0 u1 v1):=by
 have hm:¬ CZ x0 y0 x1 y1 u0 v0 u1 v1:=by
  unfold CZ
  rintro (⟨a,b,_⟩ | ⟨_,h⟩)
  ·exact hn ⟨a,b⟩
  ·exact ho h
 have hsp:¬ Dj x0 y0 x1 y1 u0 v0 u1 v1:=fun h=>hn ⟨h.1,h.2.1⟩
 have z:EW 0 (CZ x0 y0 x1 y1 u0 v0 u1 v1) (Dj x0 y0 x1 y1 u0 v0 u1 v1):=⟨.inl rfl,by simp [hm],by simp [hsp]⟩
 have tt:(true==true)=true:=rfl
 have ft:(false==true)=false:=rfl
 have tf:(true==false)=false:=rfl
 have ff:(false==false)=true:=rfl
 unfold G25 T25
 rw [EB h0 h1 k0,EB h0 h1 k1,EB k0 k1 h0,EB k0 k1 h1]
 simp only [MI]
 generalize Ab x0 y0 x1 y1 u0 v0=A at *
 generalize Ab x0 y0 x1 y1 u1 v1=B at *
 generalize Ab u0 v0 u1 v1 x0 y0=C at *
 generalize Ab u0 v0 u1 v1 x1 y1=D at *
 by_cases ap:apart A B
 ·have cd:¬ apart C D:=fun h=>ho ⟨ap,h⟩
  rw [D6 ap,In cd]
  by_cases hA:A=0
  ·have hB:¬ B=0:=fun h=>hn ⟨hA,h⟩
   rw [show (A==0)=true from beq_iff_eq.2 hA,show (B==0)=false from beq_eq_false_iff_ne.2 hB]
   simp only [tt,ff,AF,AJ]
   exact O8 z
  ·rw [show (A==0)=false from beq_eq_false_iff_ne.2 hA]
   simp only [ft,ff,AF,AJ]
   exact O8 z
 ·rw [In ap]
  by_cases hA:A=0
  ·exact absurd (show apart A B by unfold apart;omega) ap
  ·rw [show (A==0)=false from beq_eq_false_iff_ne.2 hA]
   simp only [ft,tf,AF,AJ]
   exact O8 z
theorem mulB {a b:Int} (ha:-2000000≤a∧a≤2000000) (hb:-2000000≤b∧b≤2000000):-8000000000000≤a*b∧a*b≤8000000000000:=by
 have:=(dotW (a:=a) (b:=b) (c:=0) (d:=0) (by omega) (by omega) (by omega) (by omega)).2
 simp only [Int.mul_zero,Int.add_zero] at this
 exact this
theorem diffW {a b c d:Int} (ha:-2000000≤a∧a≤2000000) (hb:-2000000≤b∧b≤2000000) (hc:-2000000≤c∧c≤2000000) (hd:-2000000≤d∧d≤2000000) :
  IntKind.i64.wrap (IntKind.i64.wrap (IntKind.i64.wrap a*IntKind.i64.wrap b)-IntKind.i64.wrap (IntKind.i64.wrap c*IntKind.i64.wrap d))=a*b-c*d∧Al (a*b-c*d)=true:=by
 have m1:=mulB ha hb
 have m2:=mulB hc hd
 rw [Av (x:=a) (by omega) (by omega),Av (x:=b) (by omega) (by omega),Av (x:=c) (by omega) (by omega),Av (x:=d) (by omega) (by omega),Av (x:=a*b) (by omega) (by omega),Av (x:=c*d) (by omega) (by omega),Av (by omega) (by omega)]
 exact ⟨rfl,BG.2 (by omega)⟩
theorem gG {x0 y0 x1 y1 u0 v0 u1 v1:Int} (h0:At x0 y0) (h1:At x1 y1) (k0:At u0 v0) (k1:At u1 v1) (hn:¬ (Ab x0 y0 x1 y1 u0 v0=0∧Ab x0 y0 x1 y1 u1 v1=0))
  (ho:apart (Ab x0 y0 x1 y1 u0 v0) (Ab x0 y0 x1 y1 u1 v1)∧apart (Ab u0 v0 u1 v1 x0 y0) (Ab u0 v0 u1 v1 x1 y1)) :
  LN (G25 x0 y0 x1 y1 u0 v0 u1 v1) (CZ x0 y0 x1 y1 u0 v0 u1 v1) (Dj x0 y0 x1 y1 u0 v0 u1 v1):=by
 have hm:CZ x0 y0 x1 y1 u0 v0 u1 v1:=.inr ⟨hn,ho⟩
 have hsp:¬ Dj x0 y0 x1 y1 u0 v0 u1 v1:=fun h=>hn ⟨h.1,h.2.1⟩
 have z:EW 1 (CZ x0 y0 x1 y1 u0 v0 u1 v1) (Dj x0 y0 x1 y1 u0 v0 u1 v1):=⟨.inr (.inl rfl),by simp [hm],by simp [hsp]⟩
 have tt:(true==true)=true:=rfl
 have ft:(false==true)=false:=rfl
 have ff:(false==false)=true:=rfl
 have hden:Ab x0 y0 x1 y1 u1 v1-Ab x0 y0 x1 y1 u0 v0=(x1-x0)*(v1-v0)-(y1-y0)*(u1-u0):=by unfold Ab;grind
 have hne:(x1-x0)*(v1-v0)-(y1-y0)*(u1-u0) ≠ 0:=by
  rw [← hden]
  have:=ho.1
  unfold apart at this
  omega
 have s0:=h0
 have s1:=h1
 have t0:=k0
 have t1:=k1
 unfold At at s0 s1 t0 t1
 obtain ⟨d1,d2⟩:=diffW (a:=x1-x0) (b:=v1-v0) (c:=y1-y0) (d:=u1-u0) (by omega) (by omega) (by omega) (by omega)
 obtain ⟨e1,e2⟩:=diffW (a:=u0-x0) (b:=v1-v0) (c:=v0-y0) (d:=u1-u0) (by omega) (by omega) (by omega) (by omega)
 have b2:∀ {w:Int},Al w=true→w.natAbs<4294967296 ^ 2:=fun h=>by have:=BG.1 h;omega
 have i9:∀ {w:Int},Al w=true→A1 900 (AX w)=true:=fun h=>Bs (Di (b2 h) (by omega))
 have p8:∀ {w r:Int},Al w=true→Al r=true→A1 800 (AX (w*r))=true:=fun h g=>Bs (Di (Lq (b2 h) (b2 g)) (by omega))
 have p6:∀ {w r m o:Int},Al w=true→Al r=true→Al m=true→Al o=true→A1 600 (AX (w*r+m*o))=true:=fun h g i j=>Bs (Di (Zu (Lq (b2 h) (b2 g)) (Lq (b2 i) (b2 j))) (by omega))
 have ix:Al x0=true:=BG.2 (by omega)
 have iy:Al y0=true:=BG.2 (by omega)
 have wx:IntKind.i64.wrap (x1-x0)=x1-x0:=Av (by omega) (by omega)
 have wy:IntKind.i64.wrap (y1-y0)=y1-y0:=Av (by omega) (by omega)
 have jx:Al (x1-x0)=true:=BG.2 (by omega)
 have jy:Al (y1-y0)=true:=BG.2 (by omega)
 have r3:∀ n:Int,A0 [F.int .i64 n]=AX n:=fun _=>rfl
 unfold G25 T25
 rw [EB h0 h1 k0,EB h0 h1 k1,EB k0 k1 h0,EB k0 k1 h1,D6 ho.1,D6 ho.2]
 simp only [MI,d1,e1]
 simp only [wx,wy,r3,Yl,Cm]
 generalize (x1-x0)*(v1-v0)-(y1-y0)*(u1-u0)=dn at *
 generalize (u0-x0)*(v1-v0)-(v0-y0)*(u1-u0)=nm at *
 have nz:Nb dn=true:=by unfold Nb;rw [show (dn==0)=false from beq_eq_false_iff_ne.2 hne];rfl
 simp only [ix,iy,jx,jy,d2,e2,i9 ix,i9 iy,i9 jx,i9 jy,i9 d2,i9 e2,p8 ix d2,p8 iy d2,p8 jx e2,p8 jy e2,p6 ix d2 jx e2,p6 iy d2 jy e2,nz,Bs (Di (b2 d2) (show 2≤600 by omega)),Bool.and_self,AF,ff,AJ]
 by_cases hA:Ab x0 y0 x1 y1 u0 v0=0
 ·have hB:¬ Ab x0 y0 x1 y1 u1 v1=0:=fun h=>hn ⟨hA,h⟩
  rw [show (Ab x0 y0 x1 y1 u0 v0==0)=true from beq_iff_eq.2 hA,show (Ab x0 y0 x1 y1 u1 v1==0)=false from beq_eq_false_iff_ne.2 hB]
  simp only [tt,ff,AF,AJ]
  exact Tc z
 ·rw [show (Ab x0 y0 x1 y1 u0 v0==0)=false from beq_eq_false_iff_ne.2 hA]
  simp only [ft,ff,AF,AJ]
  exact Tc z
theorem P6 {x0 y0 x1 y1 u0 v0 u1 v1:Int} (h0:At x0 y0) (h1:At x1 y1) (k0:At u0 v0) (k1:At u1 v1) (hs:BT x0 y0 x1 y1) (ht:BT u0 v0 u1 v1) :
  LN (G25 x0 y0 x1 y1 u0 v0 u1 v1) (CZ x0 y0 x1 y1 u0 v0 u1 v1) (Dj x0 y0 x1 y1 u0 v0 u1 v1):=by
 by_cases hn:Ab x0 y0 x1 y1 u0 v0=0∧Ab x0 y0 x1 y1 u1 v1=0
 ·exact ZL h0 h1 k0 k1 hs ht hn.1 hn.2
 ·by_cases ho:apart (Ab x0 y0 x1 y1 u0 v0) (Ab x0 y0 x1 y1 u1 v1)∧apart (Ab u0 v0 u1 v1 x0 y0) (Ab u0 v0 u1 v1 x1 y1)
  ·exact gG h0 h1 k0 k1 hn ho
  ·exact ZK h0 h1 k0 k1 hn ho
theorem B9 {x0 y0 x1 y1:Int} (h:BW x0 y0 x1 y1=true):At x0 y0∧At x1 y1∧BT x0 y0 x1 y1:=by
 unfold BW at h
 simp only [Bool.and_eq_true] at h
 exact ⟨ET.1 h.1,ET.1 h.2.1,Cz.1 h.2.2⟩
open Classical in
def of3 (p:F):Int × Int × Int:=if h:is3 p then ⟨h.choose,h.choose_spec.choose,h.choose_spec.choose_spec.choose⟩ else (0,0,0)
theorem mG {p:F} (h:is3 p):FLe p (Dk (of3 p).1 (of3 p).2.1 (of3 p).2.2):=by
 unfold of3
 rw [dif_pos h]
 exact h.choose_spec.choose_spec.choose_spec
def CX (x0 y0 x1 y1 u0 v0 u1 v1:Int):Int:=match G25 x0 y0 x1 y1 u0 v0 u1 v1 with | some (.tup [.int _ k,_,_])=>k | _=>0
def Eo (i:Nat) (x0 y0 x1 y1 u0 v0 u1 v1:Int):Int:=match G25 x0 y0 x1 y1 u0 v0 u1 v1 with | some (.tup [_,p,q])=>([(of3 p).1,(of3 p).2.1,(of3 p).2.2,(of3 q).1,(of3 q).2.1,(of3 q).2.2]:List Int).getD i 0 | _=>0
theorem IY {x0 y0 x1 y1 u0 v0 u1 v1:Int} (hs:BW x0 y0 x1 y1=true) (ht:BW u0 v0 u1 v1=true):EW (CX x0 y0 x1 y1 u0 v0 u1 v1) (CZ x0 y0 x1 y1 u0 v0 u1 v1) (Dj x0 y0 x1 y1 u0 v0 u1 v1):=by
 obtain ⟨h0,h1,h2⟩:=B9 hs
 obtain ⟨k0,k1,k2⟩:=B9 ht
 obtain ⟨k,p,q,e,h,_⟩:=P6 h0 h1 k0 k1 h2 k2
 unfold CX
 rw [e]
 exact h
def IQ:List F→Bool | [.agg [.int .i64 a,.int .i64 b,.int .i64 c,.int .i64 d],.agg [.int .i64 e,.int .i64 f,.int .i64 g,.int .i64 h]]=>BW a b c d&&BW e f g h | _=>false
def WB:List F→F | [.agg [.int .i64 a,.int .i64 b,.int .i64 c,.int .i64 d],.agg [.int .i64 e,.int .i64 f,.int .i64 g,.int .i64 h]]=>.tup [.int .i64 (CX a b c d e f g h),Dk (Eo 0 a b c d e f g h) (Eo 1 a b c d e f g h) (Eo 2 a b c d e f g h),Dk (Eo 3 a b c d e f g h) (Eo 4 a b c d e f g h) (Eo 5 a b c d e f g h)] | _=>.dflt
theorem okMeet3:Ai Tryz.prog 25 IQ WB :=
 Ae (c:=AR Tryz.f25) Tryz.func25 (by kernel_rfl) (by kernel_rfl) fun xs hp=>match xs,hp with
 | [.agg [.int .i64 a,.int .i64 b,.int .i64 c,.int .i64 d],.agg [.int .i64 e,.int .i64 f,.int .i64 g,.int .i64 h]],hp=>by
  simp only [IQ,Bool.and_eq_true] at hp
  obtain ⟨h0,h1,h2⟩:=B9 hp.1
  obtain ⟨k0,k1,k2⟩:=B9 hp.2
  obtain ⟨k,p,q,ek,_,hp3,hq3⟩:=P6 h0 h1 k0 k1 h2 k2
  refine ⟨[_,_],_,⟨.refl _,.refl _,trivial⟩,t25 a b c d e f g h _ ek,?_⟩
  show FLe _ (.tup [.int .i64 (CX a b c d e f g h),Dk (Eo 0 a b c d e f g h) (Eo 1 a b c d e f g h) (Eo 2 a b c d e f g h),Dk (Eo 3 a b c d e f g h) (Eo 4 a b c d e f g h) (Eo 5 a b c d e f g h)])
  have e1:CX a b c d e f g h=k:=by unfold CX;rw [ek]
  have e2:∀ i,Eo i a b c d e f g h=([(of3 p).1,(of3 p).2.1,(of3 p).2.2,(of3 q).1,(of3 q).2.1,(of3 q).2.2]:List Int).getD i 0:=fun i=>by unfold Eo;rw [ek]
  rw [e1,e2,e2,e2,e2,e2,e2]
  exact FLe.tup ⟨.refl _,mG hp3,mG hq3,trivial⟩
def pE:Env:=pF.add 25 (.pure IQ WB)
theorem Nm:Ax Tryz.prog pE:=(Env.add_ok SU okMeet3.sp)
end
noncomputable section
structure Pt where
 x:Int
 y:Int
def Pt.zero:Pt:=⟨0,0⟩
def ptF (s:Pt):F:=.agg [.int .i64 s.x,.int .i64 s.y]
def isPt:F→Bool
 | .agg [.int .i64 _,.int .i64 _]=>true
 | _=>false
def unPt:F→Pt
 | .agg [.int .i64 a,.int .i64 b]=>⟨a,b⟩
 | _=>.zero
def Am (l:List Pt):F:=slF ptF .zero l
def C3 (x:F):Bool:=Ci isPt x
def BR (x:F):List Pt:=D8 unPt x
theorem E6 (l:List Pt):BR (Am l)=l:=Jp (fun _=>rfl) l
theorem GE (l:List Pt):C3 (Am l)=true:=KG l fun _ _=>rfl
theorem pt_eq {x:F} (h:isPt x=true):ptF (unPt x)=x:=by
 unfold isPt at h
 split at h
 ·rfl
 ·cases h
theorem Dx {x:F} (hx:C3 x=true):FLe x (Am (BR x))∧FLe (Am (BR x)) x:=MH (fun _ h=>pt_eq h) hx
theorem pt_ext {a b:Pt} (h1:a.x=b.x) (h2:a.y=b.y):a=b:=by
 cases a;cases b;simp only at h1 h2;rw [h1,h2]
theorem pt_eta (a:Pt):(⟨a.x,a.y⟩:Pt)=a:=rfl
theorem pt_ne {a b:Pt} (h:a ≠ b):a.x ≠ b.x ∨ a.y ≠ b.y:=by
 by_cases hx:a.x=b.x
 ·right;intro hy;exact h (pt_ext hx hy)
 ·exact .inl hx
def CK (f:Nat→Bool):Nat→Nat→Bool
 | _,0=>true
 | i,d+1=>f i&&CK f (i+1) d
theorem DQ (f:Nat→Bool):∀ (d i:Nat),CK f i d=true ↔ ∀ j,i≤j→j<i+d→f j=true
 | 0,i=>⟨fun _ j h1 h2=>by omega,fun _=>rfl⟩
 | d+1,i=>by
  rw [CK,Bool.and_eq_true,DQ f d (i+1)]
  constructor
  ·rintro ⟨h1,h2⟩ j h3 h4
   by_cases e:j=i
   ·subst e;exact h1
   ·exact h2 j (by omega) (by omega)
  ·exact fun h=>⟨h i (by omega) (by omega),fun j h1 h2=>h j (by omega) (by omega)⟩
theorem Ck (f:Nat→Bool) (i d:Nat):CK f i (d+1)=(f i&&CK f (i+1) d):=rfl
def DA (a b:Pt):Sg:=bif B1 b.x b.y a.x a.y then ⟨b.x,b.y,a.x,a.y⟩ else ⟨a.x,a.y,b.x,b.y⟩
theorem IX (a b:Pt) (h:a ≠ b):(BT a.x a.y b.x b.y∧DA a b=⟨a.x,a.y,b.x,b.y⟩) ∨ (BT b.x b.y a.x a.y∧DA a b=⟨b.x,b.y,a.x,a.y⟩):=by
 unfold DA
 cases hl:B1 b.x b.y a.x a.y with
 | true=>exact .inr ⟨Cz.1 hl,rfl⟩
 | false =>
  refine .inl ⟨?_,rfl⟩
  have:=Er.1 hl
  have:=pt_ne h
  unfold Ct at *
  unfold BT
  omega
def onS (s:Sg) (p:Pt):Prop:=fL s.x0 s.y0 s.x1 s.y1 p.x p.y
def Ws (s t:Sg):Prop:=CZ s.x0 s.y0 s.x1 s.y1 t.x0 t.y0 t.x1 t.y1
def OH (s:Sg):Prop:=BT s.x0 s.y0 s.x1 s.y1
theorem KE {a b:Pt} (h:a ≠ b):OH (DA a b):=by
 unfold OH
 rcases IX a b h with ⟨h1,h2⟩ | ⟨h1,h2⟩ <;> rw [h2] <;> exact h1
theorem nA {a b:Pt} (h:a ≠ b) {s:Sg} (hs:OH s) (ho:onS s a):Ws s (DA a b):=by
 unfold onS at ho
 unfold OH at hs
 unfold Ws
 rcases IX a b h with ⟨h1,h2⟩ | ⟨h1,h2⟩ <;> rw [h2]
 ·exact Wk hs h1 (.inl ho)
 ·exact Wk hs h1 (.inr ho)
theorem ZC {s t:Sg} (hs:OH s) (ht:OH t):Ws s t ↔ Ws t s:=⟨I5 hs ht,I5 ht hs⟩
end
noncomputable section
def isU4 (a b c d:Int):Bool:=H7 a&&H7 b&&(H7 c&&H7 d)
theorem nH {a b c d:Int}:isU4 a b c d=true ↔ ((0≤a∧a<18446744073709551616)∧(0≤b∧b<18446744073709551616))∧(0≤c∧c<18446744073709551616)∧(0≤d∧d<18446744073709551616):=by
 simp only [isU4,Bool.and_eq_true,Ev]
def wdsS (a b c d:Int):Int:=if a<9223372036854775808 then d+18446744073709551616*(c+18446744073709551616*(b+18446744073709551616*a)) else d+18446744073709551616*(c+18446744073709551616*(b+18446744073709551616*a))-115792089237316195423570985008687907853269984665640564039457584007913129639936
theorem aD {z:Int} (h:CY z=true):wdsS (wd3 z) (wd2 z) (wd1 z) (wd0 z)=z∧isU4 (wd3 z) (wd2 z) (wd1 z) (wd0 z)=true:=by
 have hw:=GC.1 h
 rw [nH]
 simp only [wdsS,wd3,wd2,wd1,wd0,h,cond_true]
 refine ⟨?_,by omega⟩
 split <;> omega
/-! ### function 70 -/
def T70 {ρ:Type} (ret:Kg ρ) (n:Int):Option ρ :=
 (AC (Al n)
 (AC (BA 399 (AD [F.int .i64 n]))
 (ret (F.agg [F.int .u64 (wd3 (AG (AD [F.int .i64 n]))),F.int .u64 (wd2 (AG (AD [F.int .i64 n]))),F.int .u64 (wd1 (AG (AD [F.int .i64 n]))),F.int .u64 (wd0 (AG (AD [F.int .i64 n])))]))
 none)
 none)
def G70 (n:Int):Option (F):=T70 some n
theorem t70 (n:Int) (r:F) (h:G70 n=some r):AY Tryz.prog Tryz.f70.results.toList [.code (AR Tryz.f70)] (start Tryz.f70.ntmps ([F.int .i64 n].map .f)) (r):=by
 refine AY.of_run Ap Nm (T:=[]) (n:=200) ?_
 refine gE (Y:=T70 (fun r=>some (.ret (r))) n) (by kernel_rfl) ?_
 exact (gS h (fun _ h=>(gS h (fun _ h=>gR (by cases h;rfl)) gN)) gN)
theorem YO {n:Int} (h:Al n=true):G70 n=some (OC n):=by
 have r:AD [F.int .i64 n]=AH n:=rfl
 have hn:n.natAbs<18446744073709551616 ^ 1:=by have:=BG.1 h;omega
 unfold G70 T70
 rw [r,h,CA (M0 hn (show 1≤399 by omega)),Bj]
 rfl
def Rm:List F→F | [.int .i64 n]=>OC n | _=>.dflt
theorem lP:Ai Tryz.prog 70 NT Rm :=
 Bm (c:=AR Tryz.f70) Tryz.func70 (by kernel_rfl) (by kernel_rfl) fun xs hp=>match xs,hp with
 | [.int .i64 n],hp=>t70 n _ (YO hp)
/-! ### function 68 -/
def T68 {ρ:Type} (ret:Kg ρ) (x0:Int) (y0:Int) (x1:Int) (y1:Int):Option ρ :=
 (AC (decide (EH x0 y0 x1 y1 > 0))
 (ret (F.agg [F.int .i64 x1,F.int .i64 y1,F.int .i64 x0,F.int .i64 y0]))
 (ret (F.agg [F.int .i64 x0,F.int .i64 y0,F.int .i64 x1,F.int .i64 y1])))
def G68 (x0:Int) (y0:Int) (x1:Int) (y1:Int):Option (F):=T68 some x0 y0 x1 y1
theorem t68 (x0:Int) (y0:Int) (x1:Int) (y1:Int) (r:F) (h:G68 x0 y0 x1 y1=some r):AY Tryz.prog Tryz.f68.results.toList [.code (AR Tryz.f68)] (start Tryz.f68.ntmps ([F.agg [F.int .i64 x0,F.int .i64 y0],F.agg [F.int .i64 x1,F.int .i64 y1]].map .f)) (r):=by
 refine AY.of_run Ap Nm (T:=[]) (n:=200) ?_
 refine gE (Y:=T68 (fun r=>some (.ret (r))) x0 y0 x1 y1) (by kernel_rfl) ?_
 exact (gS h (fun _ h=>gR (by cases h;rfl)) (fun _ h=>gR (by cases h;rfl)))
theorem Qc (x0 y0 x1 y1:Int):decide (EH x0 y0 x1 y1 > 0)=B1 x1 y1 x0 y0:=by
 unfold EH
 cases h1:(x0==x1&&y0==y1) with
 | true =>
  simp only [Bool.and_eq_true,beq_iff_eq] at h1
  cases h2:B1 x1 y1 x0 y0 with
  | false=>rfl
  | true =>
   have:=Cz.1 h2
   unfold BT at this
   omega
 | false =>
  have hn:¬ (x0=x1∧y0=y1):=fun ⟨e1,e2⟩=>by rw [e1,e2,beq_self_eq_true,beq_self_eq_true] at h1;cases h1
  cases h2:B1 x0 y0 x1 y1 <;> cases h3:B1 x1 y1 x0 y0 <;> first | rfl | skip
  ·have h2:=Er.1 h2
   have h3:=Er.1 h3
   unfold Ct at h2 h3
   omega
  ·have h2:=Cz.1 h2
   have h3:=Cz.1 h3
   unfold BT at h2 h3
   omega
def kS:List F→F | [.agg [.int .i64 a,.int .i64 b],.agg [.int .i64 c,.int .i64 d]]=>sgF (DA ⟨a,b⟩ ⟨c,d⟩) | _=>.dflt
theorem okLeg:Ai Tryz.prog 68 J4 kS :=
 Bm (c:=AR Tryz.f68) Tryz.func68 (by kernel_rfl) (by kernel_rfl) fun xs hp=>match xs,hp with
 | [.agg [.int .i64 a,.int .i64 b],.agg [.int .i64 c,.int .i64 d]],hp=>t68 a b c d _ (by
   unfold G68 T68
   rw [Qc]
   show _=some (sgF (DA ⟨a,b⟩ ⟨c,d⟩))
   unfold DA
   cases B1 c d a b <;> rfl)
def envH5:Env:=(pE.add 70 (.pure NT Rm)).add 68 (.pure J4 kS)
theorem Xh:Ax Tryz.prog envH5:=(Env.add_ok (Env.add_ok Nm lP.sp) okLeg.sp)
end
noncomputable section
/-! ### function 45 -/
def T45 {ρ:Type} (ret:Kg ρ) (x:Int) (y:Int):Option ρ :=
 (AC (Al x)
 (AC (Al y)
 (ret (F.agg [F.int .u64 (wd3 x),F.int .u64 (wd2 x),F.int .u64 (wd1 x),F.int .u64 (wd0 x),F.int .u64 (wd3 y),F.int .u64 (wd2 y),F.int .u64 (wd1 y),F.int .u64 (wd0 y),F.int .u64 (wd3 1),F.int .u64 (wd2 1),F.int .u64 (wd1 1),F.int .u64 (wd0 1)]))
 none)
 none)
def G45 (x:Int) (y:Int):Option (F):=T45 some x y
theorem t45 (x:Int) (y:Int) (r:F) (h:G45 x y=some r):AY Tryz.prog Tryz.f45.results.toList [.code (AR Tryz.f45)] (start Tryz.f45.ntmps ([F.agg [F.int .i64 x,F.int .i64 y]].map .f)) (r):=by
 refine AY.of_run Ap Xh (T:=[]) (n:=200) ?_
 refine gE (Y:=T45 (fun r=>some (.ret (r))) x y) (by kernel_rfl) ?_
 exact (gS h (fun _ h=>(gS h (fun _ h=>gR (by cases h;rfl)) gN)) gN)
def lG:List F→Bool | [.agg [.int .i64 x,.int .i64 y]]=>Al x&&Al y | _=>false
def aU:List F→F | [.agg [.int .i64 x,.int .i64 y]]=>.agg [.int .u64 (wd3 x),.int .u64 (wd2 x),.int .u64 (wd1 x),.int .u64 (wd0 x),.int .u64 (wd3 y),.int .u64 (wd2 y),.int .u64 (wd1 y),.int .u64 (wd0 y),.int .u64 (wd3 1),.int .u64 (wd2 1),.int .u64 (wd1 1),.int .u64 (wd0 1)] | _=>.dflt
theorem okPtOf:Ai Tryz.prog 45 lG aU :=
 Bm (c:=AR Tryz.f45) Tryz.func45 (by kernel_rfl) (by kernel_rfl) fun xs hp=>match xs,hp with
 | [.agg [.int .i64 x,.int .i64 y]],hp=>by
  simp only [lG,Bool.and_eq_true] at hp
  exact t45 x y _ (by unfold G45 T45;rw [hp.1,hp.2];rfl)
def envH6:Env:=envH5.add 45 (.pure lG aU)
theorem Xg:Ax Tryz.prog envH6:=(Env.add_ok Xh okPtOf.sp)
end
noncomputable section
set_option maxHeartbeats 1000000
theorem Rs (x y:Int):AQ [AH x,AH y]=AH (x*y):=by simp only [AQ,Bj]
theorem A2 {z:Int} {n m:Nat} (h:z.natAbs<18446744073709551616 ^ n) (hm:n≤m):BA m (AH z)=true:=CA (M0 h hm)
def NZ (x0 y0 x1 y1:Int):Bool:=Ml x0&&Ml y0&&(Ml x1&&Ml y1)
theorem Li {x0 y0 x1 y1:Int}:NZ x0 y0 x1 y1=true ↔ At x0 y0∧At x1 y1:=by
 simp only [NZ,Ml,At,Bool.and_eq_true,decide_eq_true_eq,and_assoc]
/-! ### function 50 -/
def T50 {ρ:Type} (ret:Kg ρ) (x:Int) (y:Int) (w:Int):Option ρ :=
 (AC (BA 400 (AH w))
 (AC ((AG (AH w)).sign==0)
 (ret (F.tup [F.agg [F.int .u64 0,F.int .u64 0,F.int .u64 0,F.int .u64 0,F.int .u64 0,F.int .u64 0,F.int .u64 0,F.int .u64 0,F.int .u64 0,F.int .u64 0,F.int .u64 0,F.int .u64 0],F.bool false]))
 (AC (H9 400 (F.sl 3 (Aj [AH x,AH y,AH w]))&&SJ (Ad (F.sl 3 (Aj [AH x,AH y,AH w]))))
 (AC (decide (w<0))
 (AC (BA 400 (AH (↑(AZ 0 (Ad (F.sl 3 (Aj [AH x,AH y,AH w])))):Int)))
 (AC (BA 399 (AH x)&&BA 399 (AH (-AG (AH (↑(AZ 0 (Ad (F.sl 3 (Aj [AH x,AH y,AH w])))):Int))))&&HN (AG (AH x)) (AG (AH (-AG (AH (↑(AZ 0 (Ad (F.sl 3 (Aj [AH x,AH y,AH w])))):Int))))))
 (AC (BA 399 (AH y)&&BA 399 (AH (-AG (AH (↑(AZ 0 (Ad (F.sl 3 (Aj [AH x,AH y,AH w])))):Int))))&&HN (AG (AH y)) (AG (AH (-AG (AH (↑(AZ 0 (Ad (F.sl 3 (Aj [AH x,AH y,AH w])))):Int))))))
 (AC (BA 399 (AH w)&&BA 399 (AH (-AG (AH (↑(AZ 0 (Ad (F.sl 3 (Aj [AH x,AH y,AH w])))):Int))))&&HN (AG (AH w)) (AG (AH (-AG (AH (↑(AZ 0 (Ad (F.sl 3 (Aj [AH x,AH y,AH w])))):Int))))))
 (AC (BA 400 (AH (AG (AH x) / AG (AH (-AG (AH (↑(AZ 0 (Ad (F.sl 3 (Aj [AH x,AH y,AH w])))):Int)))))))
 (AC (BA 400 (AH (AG (AH y) / AG (AH (-AG (AH (↑(AZ 0 (Ad (F.sl 3 (Aj [AH x,AH y,AH w])))):Int)))))))
 (AC (BA 400 (AH (AG (AH w) / AG (AH (-AG (AH (↑(AZ 0 (Ad (F.sl 3 (Aj [AH x,AH y,AH w])))):Int)))))))
 (AC (decide ((if true=true then if (↑(Go.Proofs.YtlefbocihikaoaaGreat.R.bitLen (AG (AH (AG (AH w) / AG (AH (-AG (AH (↑(AZ 0 (Ad (F.sl 3 (Aj [AH x,AH y,AH w])))):Int))))))).natAbs):Int) > if true=true then if (↑(Go.Proofs.YtlefbocihikaoaaGreat.R.bitLen (AG (AH (AG (AH y) / AG (AH (-AG (AH (↑(AZ 0 (Ad (F.sl 3 (Aj [AH x,AH y,AH w])))):Int))))))).natAbs):Int) > (↑(Go.Proofs.YtlefbocihikaoaaGreat.R.bitLen (AG (AH (AG (AH x) / AG (AH (-AG (AH (↑(AZ 0 (Ad (F.sl 3 (Aj [AH x,AH y,AH w])))):Int))))))).natAbs):Int) then (↑(Go.Proofs.YtlefbocihikaoaaGreat.R.bitLen (AG (AH (AG (AH y) / AG (AH (-AG (AH (↑(AZ 0 (Ad (F.sl 3 (Aj [AH x,AH y,AH w])))):Int))))))).natAbs):Int) else (↑(Go.Proofs.YtlefbocihikaoaaGreat.R.bitLen (AG (AH (AG (AH x) / AG (AH (-AG (AH (↑(AZ 0 (Ad (F.sl 3 (Aj [AH x,AH y,AH w])))):Int))))))).natAbs):Int) else if (↑(Go.Proofs.YtlefbocihikaoaaGreat.R.bitLen (AG (AH (AG (AH y) / AG (AH (-AG (AH (↑(AZ 0 (Ad (F.sl 3 (Aj [AH x,AH y,AH w])))):Int))))))).natAbs):Int)<(↑(Go.Proofs.YtlefbocihikaoaaGreat.R.bitLen (AG (AH (AG (AH x) / AG (AH (-AG (AH (↑(AZ 0 (Ad (F.sl 3 (Aj [AH x,AH y,AH w])))):Int))))))).natAbs):Int) then (↑(Go.Proofs.YtlefbocihikaoaaGreat.R.bitLen (AG (AH (AG (AH y) / AG (AH (-AG (AH (↑(AZ 0 (Ad (F.sl 3 (Aj [AH x,AH y,AH w])))):Int))))))).natAbs):Int) else (↑(Go.Proofs.YtlefbocihikaoaaGreat.R.bitLen (AG (AH (AG (AH x) / AG (AH (-AG (AH (↑(AZ 0 (Ad (F.sl 3 (Aj [AH x,AH y,AH w])))):Int))))))).natAbs):Int) then (↑(Go.Proofs.YtlefbocihikaoaaGreat.R.bitLen (AG (AH (AG (AH w) / AG (AH (-AG (AH (↑(AZ 0 (Ad (F.sl 3 (Aj [AH x,AH y,AH w])))):Int))))))).natAbs):Int) else if true=true then if (↑(Go.Proofs.YtlefbocihikaoaaGreat.R.bitLen (AG (AH (AG (AH y) / AG (AH (-AG (AH (↑(AZ 0 (Ad (F.sl 3 (Aj [AH x,AH y,AH w])))):Int))))))).natAbs):Int) > (↑(Go.Proofs.YtlefbocihikaoaaGreat.R.bitLen (AG (AH (AG (AH x) / AG (AH (-AG (AH (↑(AZ 0 (Ad (F.sl 3 (Aj [AH x,AH y,AH w])))):Int))))))).natAbs):Int) then (↑(Go.Proofs.YtlefbocihikaoaaGreat.R.bitLen (AG (AH (AG (AH y) / AG (AH (-AG (AH (↑(AZ 0 (Ad (F.sl 3 (Aj [AH x,AH y,AH w])))):Int))))))).natAbs):Int) else (↑(Go.Proofs.YtlefbocihikaoaaGreat.R.bitLen (AG (AH (AG (AH x) / AG (AH (-AG (AH (↑(AZ 0 (Ad (F.sl 3 (Aj [AH x,AH y,AH w])))):Int))))))).natAbs):Int) else if (↑(Go.Proofs.YtlefbocihikaoaaGreat.R.bitLen (AG (AH (AG (AH y) / AG (AH (-AG (AH (↑(AZ 0 (Ad (F.sl 3 (Aj [AH x,AH y,AH w])))):Int))))))).natAbs):Int)<(↑(Go.Proofs.YtlefbocihikaoaaGreat.R.bitLen (AG (AH (AG (AH x) / AG (AH (-AG (AH (↑(AZ 0 (Ad (F.sl 3 (Aj [AH x,AH y,AH w])))):Int))))))).natAbs):Int) then (↑(Go.Proofs.YtlefbocihikaoaaGreat.R.bitLen (AG (AH (AG (AH y) / AG (AH (-AG (AH (↑(AZ 0 (Ad (F.sl 3 (Aj [AH x,AH y,AH w])))):Int))))))).natAbs):Int) else (↑(Go.Proofs.YtlefbocihikaoaaGreat.R.bitLen (AG (AH (AG (AH x) / AG (AH (-AG (AH (↑(AZ 0 (Ad (F.sl 3 (Aj [AH x,AH y,AH w])))):Int))))))).natAbs):Int) else if (↑(Go.Proofs.YtlefbocihikaoaaGreat.R.bitLen (AG (AH (AG (AH w) / AG (AH (-AG (AH (↑(AZ 0 (Ad (F.sl 3 (Aj [AH x,AH y,AH w])))):Int))))))).natAbs):Int)<if true=true then if (↑(Go.Proofs.YtlefbocihikaoaaGreat.R.bitLen (AG (AH (AG (AH y) / AG (AH (-AG (AH (↑(AZ 0 (Ad (F.sl 3 (Aj [AH x,AH y,AH w])))):Int))))))).natAbs):Int) > (↑(Go.Proofs.YtlefbocihikaoaaGreat.R.bitLen (AG (AH (AG (AH x) / AG (AH (-AG (AH (↑(AZ 0 (Ad (F.sl 3 (Aj [AH x,AH y,AH w])))):Int))))))).natAbs):Int) then (↑(Go.Proofs.YtlefbocihikaoaaGreat.R.bitLen (AG (AH (AG (AH y) / AG (AH (-AG (AH (↑(AZ 0 (Ad (F.sl 3 (Aj [AH x,AH y,AH w])))):Int))))))).natAbs):Int) else (↑(Go.Proofs.YtlefbocihikaoaaGreat.R.bitLen (AG (AH (AG (AH x) / AG (AH (-AG (AH (↑(AZ 0 (Ad (F.sl 3 (Aj [AH x,AH y,AH w])))):Int))))))).natAbs):Int) else if (↑(Go.Proofs.YtlefbocihikaoaaGreat.R.bitLen (AG (AH (AG (AH y) / AG (AH (-AG (AH (↑(AZ 0 (Ad (F.sl 3 (Aj [AH x,AH y,AH w])))):Int))))))).natAbs):Int)<(↑(Go.Proofs.YtlefbocihikaoaaGreat.R.bitLen (AG (AH (AG (AH x) / AG (AH (-AG (AH (↑(AZ 0 (Ad (F.sl 3 (Aj [AH x,AH y,AH w])))):Int))))))).natAbs):Int) then (↑(Go.Proofs.YtlefbocihikaoaaGreat.R.bitLen (AG (AH (AG (AH y) / AG (AH (-AG (AH (↑(AZ 0 (Ad (F.sl 3 (Aj [AH x,AH y,AH w])))):Int))))))).natAbs):Int) else (↑(Go.Proofs.YtlefbocihikaoaaGreat.R.bitLen (AG (AH (AG (AH x) / AG (AH (-AG (AH (↑(AZ 0 (Ad (F.sl 3 (Aj [AH x,AH y,AH w])))):Int))))))).natAbs):Int) then (↑(Go.Proofs.YtlefbocihikaoaaGreat.R.bitLen (AG (AH (AG (AH w) / AG (AH (-AG (AH (↑(AZ 0 (Ad (F.sl 3 (Aj [AH x,AH y,AH w])))):Int))))))).natAbs):Int) else if true=true then if (↑(Go.Proofs.YtlefbocihikaoaaGreat.R.bitLen (AG (AH (AG (AH y) / AG (AH (-AG (AH (↑(AZ 0 (Ad (F.sl 3 (Aj [AH x,AH y,AH w])))):Int))))))).natAbs):Int) > (↑(Go.Proofs.YtlefbocihikaoaaGreat.R.bitLen (AG (AH (AG (AH x) / AG (AH (-AG (AH (↑(AZ 0 (Ad (F.sl 3 (Aj [AH x,AH y,AH w])))):Int))))))).natAbs):Int) then (↑(Go.Proofs.YtlefbocihikaoaaGreat.R.bitLen (AG (AH (AG (AH y) / AG (AH (-AG (AH (↑(AZ 0 (Ad (F.sl 3 (Aj [AH x,AH y,AH w])))):Int))))))).natAbs):Int) else (↑(Go.Proofs.YtlefbocihikaoaaGreat.R.bitLen (AG (AH (AG (AH x) / AG (AH (-AG (AH (↑(AZ 0 (Ad (F.sl 3 (Aj [AH x,AH y,AH w])))):Int))))))).natAbs):Int) else if (↑(Go.Proofs.YtlefbocihikaoaaGreat.R.bitLen (AG (AH (AG (AH y) / AG (AH (-AG (AH (↑(AZ 0 (Ad (F.sl 3 (Aj [AH x,AH y,AH w])))):Int))))))).natAbs):Int)<(↑(Go.Proofs.YtlefbocihikaoaaGreat.R.bitLen (AG (AH (AG (AH x) / AG (AH (-AG (AH (↑(AZ 0 (Ad (F.sl 3 (Aj [AH x,AH y,AH w])))):Int))))))).natAbs):Int) then (↑(Go.Proofs.YtlefbocihikaoaaGreat.R.bitLen (AG (AH (AG (AH y) / AG (AH (-AG (AH (↑(AZ 0 (Ad (F.sl 3 (Aj [AH x,AH y,AH w])))):Int))))))).natAbs):Int) else (↑(Go.Proofs.YtlefbocihikaoaaGreat.R.bitLen (AG (AH (AG (AH x) / AG (AH (-AG (AH (↑(AZ 0 (Ad (F.sl 3 (Aj [AH x,AH y,AH w])))):Int))))))).natAbs):Int)) > 80))
 (ret (F.tup [F.agg [F.int .u64 0,F.int .u64 0,F.int .u64 0,F.int .u64 0,F.int .u64 0,F.int .u64 0,F.int .u64 0,F.int .u64 0,F.int .u64 0,F.int .u64 0,F.int .u64 0,F.int .u64 0],F.bool false]))
 (AC (BA 399 (AH (AG (AH x) / AG (AH (-AG (AH (↑(AZ 0 (Ad (F.sl 3 (Aj [AH x,AH y,AH w])))):Int)))))))
 (AC (BA 399 (AH (AG (AH y) / AG (AH (-AG (AH (↑(AZ 0 (Ad (F.sl 3 (Aj [AH x,AH y,AH w])))):Int)))))))
 (AC (BA 399 (AH (AG (AH w) / AG (AH (-AG (AH (↑(AZ 0 (Ad (F.sl 3 (Aj [AH x,AH y,AH w])))):Int)))))))
 (ret (F.tup [F.agg [F.int .u64 (wd3 (AG (AH (AG (AH x) / AG (AH (-AG (AH (↑(AZ 0 (Ad (F.sl 3 (Aj [AH x,AH y,AH w])))):Int)))))))),F.int .u64 (wd2 (AG (AH (AG (AH x) / AG (AH (-AG (AH (↑(AZ 0 (Ad (F.sl 3 (Aj [AH x,AH y,AH w])))):Int)))))))),F.int .u64 (wd1 (AG (AH (AG (AH x) / AG (AH (-AG (AH (↑(AZ 0 (Ad (F.sl 3 (Aj [AH x,AH y,AH w])))):Int)))))))),F.int .u64 (wd0 (AG (AH (AG (AH x) / AG (AH (-AG (AH (↑(AZ 0 (Ad (F.sl 3 (Aj [AH x,AH y,AH w])))):Int)))))))),F.int .u64 (wd3 (AG (AH (AG (AH y) / AG (AH (-AG (AH (↑(AZ 0 (Ad (F.sl 3 (Aj [AH x,AH y,AH w])))):Int)))))))),F.int .u64 (wd2 (AG (AH (AG (AH y) / AG (AH (-AG (AH (↑(AZ 0 (Ad (F.sl 3 (Aj [AH x,AH y,AH w])))):Int)))))))),F.int .u64 (wd1 (AG (AH (AG (AH y) / AG (AH (-AG (AH (↑(AZ 0 (Ad (F.sl 3 (Aj [AH x,AH y,AH w])))):Int)))))))),F.int .u64 (wd0 (AG (AH (AG (AH y) / AG (AH (-AG (AH (↑(AZ 0 (Ad (F.sl 3 (Aj [AH x,AH y,AH w])))):Int)))))))),F.int .u64 (wd3 (AG (AH (AG (AH w) / AG (AH (-AG (AH (↑(AZ 0 (Ad (F.sl 3 (Aj [AH x,AH y,AH w])))):Int)))))))),F.int .u64 (wd2 (AG (AH (AG (AH w) / AG (AH (-AG (AH (↑(AZ 0 (Ad (F.sl 3 (Aj [AH x,AH y,AH w])))):Int)))))))),F.int .u64 (wd1 (AG (AH (AG (AH w) / AG (AH (-AG (AH (↑(AZ 0 (Ad (F.sl 3 (Aj [AH x,AH y,AH w])))):Int)))))))),F.int .u64 (wd0 (AG (AH (AG (AH w) / AG (AH (-AG (AH (↑(AZ 0 (Ad (F.sl 3 (Aj [AH x,AH y,AH w])))):Int))))))))],F.bool true]))
 none)
 none)
 none))
 none)
 none)
 none)
 none)
 none)
 none)
 none)
 (AC (BA 399 (AH x)&&BA 399 (AH (↑(AZ 0 (Ad (F.sl 3 (Aj [AH x,AH y,AH w])))):Int))&&HN (AG (AH x)) (AG (AH (↑(AZ 0 (Ad (F.sl 3 (Aj [AH x,AH y,AH w])))):Int))))
 (AC (BA 399 (AH y)&&BA 399 (AH (↑(AZ 0 (Ad (F.sl 3 (Aj [AH x,AH y,AH w])))):Int))&&HN (AG (AH y)) (AG (AH (↑(AZ 0 (Ad (F.sl 3 (Aj [AH x,AH y,AH w])))):Int))))
 (AC (BA 399 (AH w)&&BA 399 (AH (↑(AZ 0 (Ad (F.sl 3 (Aj [AH x,AH y,AH w])))):Int))&&HN (AG (AH w)) (AG (AH (↑(AZ 0 (Ad (F.sl 3 (Aj [AH x,AH y,AH w])))):Int))))
 (AC (BA 400 (AH (AG (AH x) / AG (AH (↑(AZ 0 (Ad (F.sl 3 (Aj [AH x,AH y,AH w])))):Int)))))
 (AC (BA 400 (AH (AG (AH y) / AG (AH (↑(AZ 0 (Ad (F.sl 3 (Aj [AH x,AH y,AH w])))):Int)))))
 (AC (BA 400 (AH (AG (AH w) / AG (AH (↑(AZ 0 (Ad (F.sl 3 (Aj [AH x,AH y,AH w])))):Int)))))
 (AC (decide ((if true=true then if (↑(Go.Proofs.YtlefbocihikaoaaGreat.R.bitLen (AG (AH (AG (AH w) / AG (AH (↑(AZ 0 (Ad (F.sl 3 (Aj [AH x,AH y,AH w])))):Int))))).natAbs):Int) > if true=true then if (↑(Go.Proofs.YtlefbocihikaoaaGreat.R.bitLen (AG (AH (AG (AH y) / AG (AH (↑(AZ 0 (Ad (F.sl 3 (Aj [AH x,AH y,AH w])))):Int))))).natAbs):Int) > (↑(Go.Proofs.YtlefbocihikaoaaGreat.R.bitLen (AG (AH (AG (AH x) / AG (AH (↑(AZ 0 (Ad (F.sl 3 (Aj [AH x,AH y,AH w])))):Int))))).natAbs):Int) then (↑(Go.Proofs.YtlefbocihikaoaaGreat.R.bitLen (AG (AH (AG (AH y) / AG (AH (↑(AZ 0 (Ad (F.sl 3 (Aj [AH x,AH y,AH w])))):Int))))).natAbs):Int) else (↑(Go.Proofs.YtlefbocihikaoaaGreat.R.bitLen (AG (AH (AG (AH x) / AG (AH (↑(AZ 0 (Ad (F.sl 3 (Aj [AH x,AH y,AH w])))):Int))))).natAbs):Int) else if (↑(Go.Proofs.YtlefbocihikaoaaGreat.R.bitLen (AG (AH (AG (AH y) / AG (AH (↑(AZ 0 (Ad (F.sl 3 (Aj [AH x,AH y,AH w])))):Int))))).natAbs):Int)<(↑(Go.Proofs.YtlefbocihikaoaaGreat.R.bitLen (AG (AH (AG (AH x) / AG (AH (↑(AZ 0 (Ad (F.sl 3 (Aj [AH x,AH y,AH w])))):Int))))).natAbs):Int) then (↑(Go.Proofs.YtlefbocihikaoaaGreat.R.bitLen (AG (AH (AG (AH y) / AG (AH (↑(AZ 0 (Ad (F.sl 3 (Aj [AH x,AH y,AH w])))):Int))))).natAbs):Int) else (↑(Go.Proofs.YtlefbocihikaoaaGreat.R.bitLen (AG (AH (AG (AH x) / AG (AH (↑(AZ 0 (Ad (F.sl 3 (Aj [AH x,AH y,AH w])))):Int))))).natAbs):Int) then (↑(Go.Proofs.YtlefbocihikaoaaGreat.R.bitLen (AG (AH (AG (AH w) / AG (AH (↑(AZ 0 (Ad (F.sl 3 (Aj [AH x,AH y,AH w])))):Int))))).natAbs):Int) else if true=true then if (↑(Go.Proofs.YtlefbocihikaoaaGreat.R.bitLen (AG (AH (AG (AH y) / AG (AH (↑(AZ 0 (Ad (F.sl 3 (Aj [AH x,AH y,AH w])))):Int))))).natAbs):Int) > (↑(Go.Proofs.YtlefbocihikaoaaGreat.R.bitLen (AG (AH (AG (AH x) / AG (AH (↑(AZ 0 (Ad (F.sl 3 (Aj [AH x,AH y,AH w])))):Int))))).natAbs):Int) then (↑(Go.Proofs.YtlefbocihikaoaaGreat.R.bitLen (AG (AH (AG (AH y) / AG (AH (↑(AZ 0 (Ad (F.sl 3 (Aj [AH x,AH y,AH w])))):Int))))).natAbs):Int) else (↑(Go.Proofs.YtlefbocihikaoaaGreat.R.bitLen (AG (AH (AG (AH x) / AG (AH (↑(AZ 0 (Ad (F.sl 3 (Aj [AH x,AH y,AH w])))):Int))))).natAbs):Int) else if (↑(Go.Proofs.YtlefbocihikaoaaGreat.R.bitLen (AG (AH (AG (AH y) / AG (AH (↑(AZ 0 (Ad (F.sl 3 (Aj [AH x,AH y,AH w])))):Int))))).natAbs):Int)<(↑(Go.Proofs.YtlefbocihikaoaaGreat.R.bitLen (AG (AH (AG (AH x) / AG (AH (↑(AZ 0 (Ad (F.sl 3 (Aj [AH x,AH y,AH w])))):Int))))).natAbs):Int) then (↑(Go.Proofs.YtlefbocihikaoaaGreat.R.bitLen (AG (AH (AG (AH y) / AG (AH (↑(AZ 0 (Ad (F.sl 3 (Aj [AH x,AH y,AH w])))):Int))))).natAbs):Int) else (↑(Go.Proofs.YtlefbocihikaoaaGreat.R.bitLen (AG (AH (AG (AH x) / AG (AH (↑(AZ 0 (Ad (F.sl 3 (Aj [AH x,AH y,AH w])))):Int))))).natAbs):Int) else if (↑(Go.Proofs.YtlefbocihikaoaaGreat.R.bitLen (AG (AH (AG (AH w) / AG (AH (↑(AZ 0 (Ad (F.sl 3 (Aj [AH x,AH y,AH w])))):Int))))).natAbs):Int)<if true=true then if (↑(Go.Proofs.YtlefbocihikaoaaGreat.R.bitLen (AG (AH (AG (AH y) / AG (AH (↑(AZ 0 (Ad (F.sl 3 (Aj [AH x,AH y,AH w])))):Int))))).natAbs):Int) > (↑(Go.Proofs.YtlefbocihikaoaaGreat.R.bitLen (AG (AH (AG (AH x) / AG (AH (↑(AZ 0 (Ad (F.sl 3 (Aj [AH x,AH y,AH w])))):Int))))).natAbs):Int) then (↑(Go.Proofs.YtlefbocihikaoaaGreat.R.bitLen (AG (AH (AG (AH y) / AG (AH (↑(AZ 0 (Ad (F.sl 3 (Aj [AH x,AH y,AH w])))):Int))))).natAbs):Int) else (↑(Go.Proofs.YtlefbocihikaoaaGreat.R.bitLen (AG (AH (AG (AH x) / AG (AH (↑(AZ 0 (Ad (F.sl 3 (Aj [AH x,AH y,AH w])))):Int))))).natAbs):Int) else if (↑(Go.Proofs.YtlefbocihikaoaaGreat.R.bitLen (AG (AH (AG (AH y) / AG (AH (↑(AZ 0 (Ad (F.sl 3 (Aj [AH x,AH y,AH w])))):Int))))).natAbs):Int)<(↑(Go.Proofs.YtlefbocihikaoaaGreat.R.bitLen (AG (AH (AG (AH x) / AG (AH (↑(AZ 0 (Ad (F.sl 3 (Aj [AH x,AH y,AH w])))):Int))))).natAbs):Int) then (↑(Go.Proofs.YtlefbocihikaoaaGreat.R.bitLen (AG (AH (AG (AH y) / AG (AH (↑(AZ 0 (Ad (F.sl 3 (Aj [AH x,AH y,AH w])))):Int))))).natAbs):Int) else (↑(Go.Proofs.YtlefbocihikaoaaGreat.R.bitLen (AG (AH (AG (AH x) / AG (AH (↑(AZ 0 (Ad (F.sl 3 (Aj [AH x,AH y,AH w])))):Int))))).natAbs):Int) then (↑(Go.Proofs.YtlefbocihikaoaaGreat.R.bitLen (AG (AH (AG (AH w) / AG (AH (↑(AZ 0 (Ad (F.sl 3 (Aj [AH x,AH y,AH w])))):Int))))).natAbs):Int) else if true=true then if (↑(Go.Proofs.YtlefbocihikaoaaGreat.R.bitLen (AG (AH (AG (AH y) / AG (AH (↑(AZ 0 (Ad (F.sl 3 (Aj [AH x,AH y,AH w])))):Int))))).natAbs):Int) > (↑(Go.Proofs.YtlefbocihikaoaaGreat.R.bitLen (AG (AH (AG (AH x) / AG (AH (↑(AZ 0 (Ad (F.sl 3 (Aj [AH x,AH y,AH w])))):Int))))).natAbs):Int) then (↑(Go.Proofs.YtlefbocihikaoaaGreat.R.bitLen (AG (AH (AG (AH y) / AG (AH (↑(AZ 0 (Ad (F.sl 3 (Aj [AH x,AH y,AH w])))):Int))))).natAbs):Int) else (↑(Go.Proofs.YtlefbocihikaoaaGreat.R.bitLen (AG (AH (AG (AH x) / AG (AH (↑(AZ 0 (Ad (F.sl 3 (Aj [AH x,AH y,AH w])))):Int))))).natAbs):Int) else if (↑(Go.Proofs.YtlefbocihikaoaaGreat.R.bitLen (AG (AH (AG (AH y) / AG (AH (↑(AZ 0 (Ad (F.sl 3 (Aj [AH x,AH y,AH w])))):Int))))).natAbs):Int)<(↑(Go.Proofs.YtlefbocihikaoaaGreat.R.bitLen (AG (AH (AG (AH x) / AG (AH (↑(AZ 0 (Ad (F.sl 3 (Aj [AH x,AH y,AH w])))):Int))))).natAbs):Int) then (↑(Go.Proofs.YtlefbocihikaoaaGreat.R.bitLen (AG (AH (AG (AH y) / AG (AH (↑(AZ 0 (Ad (F.sl 3 (Aj [AH x,AH y,AH w])))):Int))))).natAbs):Int) else (↑(Go.Proofs.YtlefbocihikaoaaGreat.R.bitLen (AG (AH (AG (AH x) / AG (AH (↑(AZ 0 (Ad (F.sl 3 (Aj [AH x,AH y,AH w])))):Int))))).natAbs):Int)) > 80))
 (ret (F.tup [F.agg [F.int .u64 0,F.int .u64 0,F.int .u64 0,F.int .u64 0,F.int .u64 0,F.int .u64 0,F.int .u64 0,F.int .u64 0,F.int .u64 0,F.int .u64 0,F.int .u64 0,F.int .u64 0],F.bool false]))
 (AC (BA 399 (AH (AG (AH x) / AG (AH (↑(AZ 0 (Ad (F.sl 3 (Aj [AH x,AH y,AH w])))):Int)))))
 (AC (BA 399 (AH (AG (AH y) / AG (AH (↑(AZ 0 (Ad (F.sl 3 (Aj [AH x,AH y,AH w])))):Int)))))
 (AC (BA 399 (AH (AG (AH w) / AG (AH (↑(AZ 0 (Ad (F.sl 3 (Aj [AH x,AH y,AH w])))):Int)))))
 (ret (F.tup [F.agg [F.int .u64 (wd3 (AG (AH (AG (AH x) / AG (AH (↑(AZ 0 (Ad (F.sl 3 (Aj [AH x,AH y,AH w])))):Int)))))),F.int .u64 (wd2 (AG (AH (AG (AH x) / AG (AH (↑(AZ 0 (Ad (F.sl 3 (Aj [AH x,AH y,AH w])))):Int)))))),F.int .u64 (wd1 (AG (AH (AG (AH x) / AG (AH (↑(AZ 0 (Ad (F.sl 3 (Aj [AH x,AH y,AH w])))):Int)))))),F.int .u64 (wd0 (AG (AH (AG (AH x) / AG (AH (↑(AZ 0 (Ad (F.sl 3 (Aj [AH x,AH y,AH w])))):Int)))))),F.int .u64 (wd3 (AG (AH (AG (AH y) / AG (AH (↑(AZ 0 (Ad (F.sl 3 (Aj [AH x,AH y,AH w])))):Int)))))),F.int .u64 (wd2 (AG (AH (AG (AH y) / AG (AH (↑(AZ 0 (Ad (F.sl 3 (Aj [AH x,AH y,AH w])))):Int)))))),F.int .u64 (wd1 (AG (AH (AG (AH y) / AG (AH (↑(AZ 0 (Ad (F.sl 3 (Aj [AH x,AH y,AH w])))):Int)))))),F.int .u64 (wd0 (AG (AH (AG (AH y) / AG (AH (↑(AZ 0 (Ad (F.sl 3 (Aj [AH x,AH y,AH w])))):Int)))))),F.int .u64 (wd3 (AG (AH (AG (AH w) / AG (AH (↑(AZ 0 (Ad (F.sl 3 (Aj [AH x,AH y,AH w])))):Int)))))),F.int .u64 (wd2 (AG (AH (AG (AH w) / AG (AH (↑(AZ 0 (Ad (F.sl 3 (Aj [AH x,AH y,AH w])))):Int)))))),F.int .u64 (wd1 (AG (AH (AG (AH w) / AG (AH (↑(AZ 0 (Ad (F.sl 3 (Aj [AH x,AH y,AH w])))):Int)))))),F.int .u64 (wd0 (AG (AH (AG (AH w) / AG (AH (↑(AZ 0 (Ad (F.sl 3 (Aj [AH x,AH y,AH w])))):Int))))))],F.bool true]))
 none)
 none)
 none))
 none)
 none)
 none)
 none)
 none)
 none))
 none))
 none)
def G50 (x:Int) (y:Int) (w:Int):Option (F):=T50 some x y w
theorem t50 (x:Int) (y:Int) (w:Int) (r:F) (h:G50 x y w=some r):AY Tryz.prog Tryz.f50.results.toList [.code (AR Tryz.f50)] (start Tryz.f50.ntmps ([F.agg [F.bool (decide (x<0)),AO (AM 18446744073709551616 x.natAbs),F.bool (decide (y<0)),AO (AM 18446744073709551616 y.natAbs),F.bool (decide (w<0)),AO (AM 18446744073709551616 w.natAbs)]].map .f)) (r):=by
 refine AY.of_run Ap Xg (T:=[]) (n:=200) ?_
 refine gE (Y:=T50 (fun r=>some (.ret (r))) x y w) (by kernel_rfl) ?_
 exact (gS h (fun _ h=>(gS h (fun _ h=>gR (by cases h;rfl)) (fun _ h=>(gS h (fun _ h=>(gS h (fun _ h=>(gS h (fun _ h=>(gS h (fun _ h=>(gS h (fun _ h=>(gS h (fun _ h=>(gS h (fun _ h=>(gS h (fun _ h=>(gS h (fun _ h=>(gS h (fun _ h=>gR (by cases h;rfl)) (fun _ h=>(gS h (fun _ h=>(gS h (fun _ h=>(gS h (fun _ h=>gR (by cases h;rfl)) gN)) gN)) gN)))) gN)) gN)) gN)) gN)) gN)) gN)) gN)) (fun _ h=>(gS h (fun _ h=>(gS h (fun _ h=>(gS h (fun _ h=>(gS h (fun _ h=>(gS h (fun _ h=>(gS h (fun _ h=>(gS h (fun _ h=>gR (by cases h;rfl)) (fun _ h=>(gS h (fun _ h=>(gS h (fun _ h=>(gS h (fun _ h=>gR (by cases h;rfl)) gN)) gN)) gN)))) gN)) gN)) gN)) gN)) gN)) gN)))) gN)))) gN)
def W2 (X:Option F):Prop:=∃ (c0 c1 c2 c3 c4 c5 c6 c7 c8 c9 c10 c11:Int) (b:Bool),X=some (F.tup [.agg [.int .u64 c0,.int .u64 c1,.int .u64 c2,.int .u64 c3,.int .u64 c4,.int .u64 c5,.int .u64 c6,.int .u64 c7,.int .u64 c8,.int .u64 c9,.int .u64 c10,.int .u64 c11],.bool b])
theorem pR {c:Bool} {X Y:Option F} (h1:W2 X) (h2:W2 Y):W2 (AC c X Y):=by
 cases c
 ·exact h2
 ·exact h1
theorem CW {x g:Int} {n:Nat} (h:x.natAbs<18446744073709551616 ^ n):(x / g).natAbs<18446744073709551616 ^ (n+1) :=
 M0 (Nat.lt_of_le_of_lt (Int.natAbs_ediv_le_natAbs x g) h) (by omega)
theorem fI {x y w:Int} (hx:x.natAbs<18446744073709551616 ^ 100) (hy:y.natAbs<18446744073709551616) (hw:w.natAbs<18446744073709551616):W2 (G50 x y w):=by
 have hy1:y.natAbs<18446744073709551616 ^ 1:=by rw [Nat.pow_one];exact hy
 have hw1:w.natAbs<18446744073709551616 ^ 1:=by rw [Nat.pow_one];exact hw
 have e1:Ad (F.sl 3 (Aj [AH x,AH y,AH w]))=[x,y,w]:=by
  show [AG (AH x),AG (AH y),AG (AH w)]=_
  rw [Bj,Bj,Bj]
 have e0:H9 400 (F.sl 3 (Aj [AH x,AH y,AH w]))=true:=by
  simp only [H9,Ci,List.all_eq_true,List.mem_range]
  intro i hi
  match i,hi with
  | 0,_=>exact A2 hx (by omega)
  | 1,_=>exact A2 hy1 (by omega)
  | 2,_=>exact A2 hw1 (by omega)
 have e2:SJ [x,y,w]=true:=Ng.2 ⟨by simp,fun z hz=>by
  simp at hz
  rcases hz with rfl | rfl
  ·exact hy
  ·exact hw⟩
 have z:∀ {c0 c1 c2 c3 c4 c5 c6 c7 c8 c9 c10 c11:Int} {b:Bool},W2 (some (F.tup [.agg [.int .u64 c0,.int .u64 c1,.int .u64 c2,.int .u64 c3,.int .u64 c4,.int .u64 c5,.int .u64 c6,.int .u64 c7,.int .u64 c8,.int .u64 c9,.int .u64 c10,.int .u64 c11],.bool b])):=⟨_,_,_,_,_,_,_,_,_,_,_,_,_,rfl⟩
 unfold G50 T50
 simp only [e0,e1,e2,Bj,A2 hw1 (show 1≤400 by omega),Bool.and_self,AF]
 by_cases h0:w=0
 ·subst h0
  exact z
 ·have hs:(w.sign==0)=false:=by
   rw [MI,beq_eq_false_iff_ne];exact h0
  have hg0:AZ 0 [x,y,w] ≠ 0∧AZ 0 [x,y,w]≤w.natAbs:=by
   have e:AZ 0 [x,y,w]=Nat.gcd (Nat.gcd (Nat.gcd 0 x.natAbs) y.natAbs) w.natAbs:=rfl
   rw [e]
   have h1:=Nat.gcd_pos_of_pos_right (Nat.gcd (Nat.gcd 0 x.natAbs) y.natAbs) (show 0<w.natAbs by omega)
   have h2:=Nat.gcd_le_right (Nat.gcd (Nat.gcd 0 x.natAbs) y.natAbs) (show 0<w.natAbs by omega)
   omega
  generalize AZ 0 [x,y,w]=g at hg0
  have hg1:((g:Nat):Int).natAbs<18446744073709551616 ^ 1:=by rw [Nat.pow_one];omega
  have hm1:(-((g:Nat):Int)).natAbs<18446744073709551616 ^ 1:=by rw [Nat.pow_one];omega
  have o1:∀ x:Int,HN x (g:Int)=true:=fun x=>D4.2 ⟨by omega,.inl (by omega)⟩
  have o2:∀ x:Int,HN x (-(g:Int))=true:=fun x=>D4.2 ⟨by omega,.inl (by omega)⟩
  rw [hs,AJ]
  refine pR ?_ ?_
  ·simp only [A2 hg1 (show 1≤400 by omega),A2 hx (show 100≤399 by omega),A2 hy1 (show 1≤399 by omega),A2 hw1 (show 1≤399 by omega),A2 hm1 (show 1≤399 by omega),o2,A2 (CW (g:=-(g:Int)) hx) (show 100+1≤400 by omega),A2 (CW (g:=-(g:Int)) hy1) (show 1+1≤400 by omega),A2 (CW (g:=-(g:Int)) hw1) (show 1+1≤400 by omega),
    A2 (CW (g:=-(g:Int)) hx) (show 100+1≤399 by omega),A2 (CW (g:=-(g:Int)) hy1) (show 1+1≤399 by omega),A2 (CW (g:=-(g:Int)) hw1) (show 1+1≤399 by omega),Bool.and_self,AF]
   exact pR z z
  ·simp only [A2 hg1 (show 1≤399 by omega),A2 hx (show 100≤399 by omega),A2 hy1 (show 1≤399 by omega),A2 hw1 (show 1≤399 by omega),o1,A2 (CW (g:=(g:Int)) hx) (show 100+1≤400 by omega),A2 (CW (g:=(g:Int)) hy1) (show 1+1≤400 by omega),A2 (CW (g:=(g:Int)) hw1) (show 1+1≤400 by omega),
    A2 (CW (g:=(g:Int)) hx) (show 100+1≤399 by omega),A2 (CW (g:=(g:Int)) hy1) (show 1+1≤399 by omega),A2 (CW (g:=(g:Int)) hw1) (show 1+1≤399 by omega),Bool.and_self,AF]
   exact pR z z
def A7 (x y w:Int):F:=.agg [.bool (decide (x<0)),AO (AM 18446744073709551616 x.natAbs),.bool (decide (y<0)),AO (AM 18446744073709551616 y.natAbs),.bool (decide (w<0)),AO (AM 18446744073709551616 w.natAbs)]
def Ew (n:Nat):F→Bool | .agg [a,b,c,d,e,f]=>BA n (.agg [a,b])&&(BA n (.agg [c,d])&&BA n (.agg [e,f])) | _=>false
def CF:F→Int | .agg [a,b,_,_,_,_]=>AG (.agg [a,b]) | _=>0
def CE:F→Int | .agg [_,_,c,d,_,_]=>AG (.agg [c,d]) | _=>0
def CG:F→Int | .agg [_,_,_,_,e,f]=>AG (.agg [e,f]) | _=>0
theorem YS (x y w:Int):CF (A7 x y w)=x:=Bj x
theorem YR (x y w:Int):CE (A7 x y w)=y:=Bj y
theorem YT (x y w:Int):CG (A7 x y w)=w:=Bj w
theorem LM {n:Nat} {x y w:Int} (hx:x.natAbs<18446744073709551616 ^ n) (hy:y.natAbs<18446744073709551616 ^ n) (hw:w.natAbs<18446744073709551616 ^ n):Ew n (A7 x y w)=true:=by
 have h1:=CA hx
 have h2:=CA hy
 have h3:=CA hw
 unfold AH at h1 h2 h3
 simp only [Ew,A7,h1,h2,h3,Bool.and_self]
theorem eZ {n:Nat} {x:F} (h:Ew n x=true):FLe x (A7 (CF x) (CE x) (CG x)):=by
 unfold Ew at h
 split at h
 ·rename_i a b c d e f
  rw [Bool.and_eq_true,Bool.and_eq_true] at h
  obtain ⟨s,y,e1,hy,f1⟩:=KA h.1
  obtain ⟨t,z,e2,hz,f2⟩:=KA h.2.1
  obtain ⟨r,o,e3,ho,f3⟩:=KA h.2.2
  cases e1;cases e2;cases e3
  have g:A7 (CF (.agg [.bool s,b,.bool t,d,.bool r,f])) (CE (.agg [.bool s,b,.bool t,d,.bool r,f])) (CG (.agg [.bool s,b,.bool t,d,.bool r,f]))=.agg [.bool s,AO (AP b),.bool t,AO (AP d),.bool r,AO (AP f)]:=by
   unfold AH at f1 f2 f3
   injection f1 with f1
   injection f2 with f2
   injection f3 with f3
   simp only [List.cons.injEq,and_true] at f1 f2 f3
   show F.agg [_,_,_,_,_,_]=_
   rw [show CF (.agg [.bool s,b,.bool t,d,.bool r,f])=AG (.agg [.bool s,b]) from rfl,show CE (.agg [.bool s,b,.bool t,d,.bool r,f])=AG (.agg [.bool t,d]) from rfl,show CG (.agg [.bool s,b,.bool t,d,.bool r,f])=AG (.agg [.bool r,f]) from rfl,f1.1,f1.2,f2.1,f2.2,f3.1,f3.2]
  rw [g]
  exact FLe.agg ⟨.refl _,(Bw hy).1,.refl _,(Bw hz).1,.refl _,(Bw ho).1,trivial⟩
 ·cases h
theorem Vf {n:Nat} {x:F} (h:Ew n x=true):(CF x).natAbs<18446744073709551616 ^ n∧(CE x).natAbs<18446744073709551616 ^ n∧(CG x).natAbs<18446744073709551616 ^ n:=by
 unfold Ew at h
 split at h
 ·rw [Bool.and_eq_true,Bool.and_eq_true] at h
  exact ⟨BI h.1,BI h.2.1,BI h.2.2⟩
 ·cases h
def intAt (l:List F) (i:Nat):Int:=match l[i]? with | some (.int _ n)=>n | _=>0
def Bo (i:Nat) (x y w:Int):Int:=match G50 x y w with | some (.tup [.agg l,_])=>intAt l i | _=>0
def MW (x y w:Int):Bool:=match G50 x y w with | some (.tup [_,.bool b])=>b | _=>false
def WT:List F→Bool | [x]=>Ew 1 x | _=>false
def V9:List F→F | [x]=>.tup [.agg [.int .u64 (Bo 0 (CF x) (CE x) (CG x)),.int .u64 (Bo 1 (CF x) (CE x) (CG x)),.int .u64 (Bo 2 (CF x) (CE x) (CG x)),.int .u64 (Bo 3 (CF x) (CE x) (CG x)),.int .u64 (Bo 4 (CF x) (CE x) (CG x)),.int .u64 (Bo 5 (CF x) (CE x) (CG x)),.int .u64 (Bo 6 (CF x) (CE x) (CG x)),.int .u64 (Bo 7 (CF x) (CE x) (CG x)),.int .u64 (Bo 8 (CF x) (CE x) (CG x)),.int .u64 (Bo 9 (CF x) (CE x) (CG x)),.int .u64 (Bo 10 (CF x) (CE x) (CG x)),.int .u64 (Bo 11 (CF x) (CE x) (CG x))],.bool (MW (CF x) (CE x) (CG x))] | _=>.dflt
theorem okPoint:Ai Tryz.prog 50 WT V9 :=
 Ae (c:=AR Tryz.f50) Tryz.func50 (by kernel_rfl) (by kernel_rfl) fun xs hp=>match xs,hp with
 | [x],hp=>by
  obtain ⟨b1,b2,b3⟩:=Vf (n:=1) hp
  obtain ⟨c0,c1,c2,c3,c4,c5,c6,c7,c8,c9,c10,c11,b,e⟩:=fI (x:=CF x) (y:=CE x) (w:=CG x) (M0 b1 (show 1≤100 by omega)) (by rwa [Nat.pow_one] at b2) (by rwa [Nat.pow_one] at b3)
  refine ⟨[A7 (CF x) (CE x) (CG x)],_,⟨eZ hp,trivial⟩,t50 _ _ _ _ e,?_⟩
  have e2:MW (CF x) (CE x) (CG x)=b:=by unfold MW;rw [e]
  show FLe _ (.tup [.agg [.int .u64 (Bo 0 (CF x) (CE x) (CG x)),.int .u64 (Bo 1 (CF x) (CE x) (CG x)),.int .u64 (Bo 2 (CF x) (CE x) (CG x)),.int .u64 (Bo 3 (CF x) (CE x) (CG x)),.int .u64 (Bo 4 (CF x) (CE x) (CG x)),.int .u64 (Bo 5 (CF x) (CE x) (CG x)),.int .u64 (Bo 6 (CF x) (CE x) (CG x)),.int .u64 (Bo 7 (CF x) (CE x) (CG x)),.int .u64 (Bo 8 (CF x) (CE x) (CG x)),.int .u64 (Bo 9 (CF x) (CE x) (CG x)),.int .u64 (Bo 10 (CF x) (CE x) (CG x)),.int .u64 (Bo 11 (CF x) (CE x) (CG x))],.bool (MW (CF x) (CE x) (CG x))])
  simp only [Bo,e2,e]
  exact .refl _
def envH7:Env:=envH6.add 50 (.pure WT V9)
theorem Xf:Ax Tryz.prog envH7:=(Env.add_ok Xg okPoint.sp)
end
noncomputable section
/-! ### function 42 -/
def T42 {ρ:Type} (ret:Kg ρ) :Option ρ :=
 (ret (F.tup [F.int .i64 0,F.agg [F.int .u64 0,F.int .u64 0,F.int .u64 0,F.int .u64 0,F.int .u64 0,F.int .u64 0,F.int .u64 0,F.int .u64 0,F.int .u64 0,F.int .u64 0,F.int .u64 0,F.int .u64 0],F.agg [F.int .u64 0,F.int .u64 0,F.int .u64 0,F.int .u64 0,F.int .u64 0,F.int .u64 0,F.int .u64 0,F.int .u64 0,F.int .u64 0,F.int .u64 0,F.int .u64 0,F.int .u64 0]]))
def G42 :Option (F):=T42 some
theorem t42  (r:F) (h:G42 =some r):AY Tryz.prog Tryz.f42.results.toList [.code (AR Tryz.f42)] (start Tryz.f42.ntmps ([].map .f)) (r):=by
 refine AY.of_run Ap Xf (T:=[]) (n:=200) ?_
 refine gE (Y:=T42 (fun r=>some (.ret (r))) ) (by kernel_rfl) ?_
 exact gR (by cases h;rfl)
def bR:List F→Bool | []=>true | _=>false
def aX:List F→F:=fun _=>.tup [.int .i64 0,.agg [.int .u64 0,.int .u64 0,.int .u64 0,.int .u64 0,.int .u64 0,.int .u64 0,.int .u64 0,.int .u64 0,.int .u64 0,.int .u64 0,.int .u64 0,.int .u64 0],.agg [.int .u64 0,.int .u64 0,.int .u64 0,.int .u64 0,.int .u64 0,.int .u64 0,.int .u64 0,.int .u64 0,.int .u64 0,.int .u64 0,.int .u64 0,.int .u64 0]]
theorem okNone:Ai Tryz.prog 42 bR aX :=
 Bm (c:=AR Tryz.f42) Tryz.func42 (by kernel_rfl) (by kernel_rfl) fun xs hp=>match xs,hp with
 | [],hp=>t42 _ rfl
def pD:Env:=envH7.add 42 (.pure bR aX)
theorem Mv:Ax Tryz.prog pD:=(Env.add_ok Xf okNone.sp)
end
end Go.Proofs.YtlefbocihikaoaaGreat.R
