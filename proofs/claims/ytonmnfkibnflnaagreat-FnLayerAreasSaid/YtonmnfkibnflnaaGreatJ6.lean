/-
 The own walk and what it shows,part 6 of 10.
-/
import Derived.Test.YtonmnfkibnflnaaGreatJ1
import Derived.Test.YtonmnfkibnflnaaGreatJ2
import Derived.Test.YtonmnfkibnflnaaGreatJ3
import Derived.Test.YtonmnfkibnflnaaGreatJ4
import Derived.Test.YtonmnfkibnflnaaGreatJ5
set_option linter.unusedVariables false
set_option linter.unusedSimpArgs false
set_option maxRecDepth 100000
set_option exponentiation.threshold 30000
namespace Go.Proofs.YtonmnfkibnflnaaGreat.R
open Go
noncomputable section
/-! ### function 112 -/
abbrev Kz (ρ:Type):=(F)→Option ρ
def T112 {ρ:Type} (ret:Kz ρ) (x:Int) (y:Int):Option ρ :=
 (AD (Ao 800 (AQ y))
 (AD (Ao 800 (AQ x)&&Ao 800 (Nl [AQ y]))
 (ret (AQ (AW (AQ x)+AW (Nl [AQ y]))))
 none)
 none)
def G112 (x:Int) (y:Int):Option (F):=T112 some x y
theorem t112 (x:Int) (y:Int) (r:F) (h:G112 x y=some r):AX Tryz.prog Tryz.f112.results.toList [.code (AT Tryz.f112)] (start Tryz.f112.ntmps ([AQ x,AQ y].map .f)) (r):=by
 refine AX.of_run Au IT (T:=[]) (n:=200) ?_
 refine gE (Y:=T112 (fun r=>some (.ret (r))) x y) (by kernel_rfl) ?_
 exact (gS h (fun _ h=>(gS h (fun _ h=>gR (by cases h;rfl)) gN)) gN)
theorem pT {x y:Int} (hx:x.natAbs<4294967296 ^ 800) (hy:y.natAbs<4294967296 ^ 800):G112 x y=some (AQ (x-y)):=by
 unfold G112 T112
 have h1:(-y).natAbs<4294967296 ^ 800:=by rw [Int.natAbs_neg];exact hy
 simp only [Nl,Bb,BC hx,BC hy,BC h1,Bool.and_self,AH]
 rfl
def CV:List F→F | [x,y]=>AQ (AW x-AW y) | _=>.dflt
theorem okSubZ:Ak Tryz.prog 112 (Kp 800) CV :=
 Ad (c:=AT Tryz.f112) Tryz.func112 (by kernel_rfl) (by kernel_rfl) fun xs hp=>match xs,hp with
 | [x,y],hp=>by
  obtain ⟨hx,hy⟩:=JT hp
  exact ⟨[AQ (AW x),AQ (AW y)],_,⟨(DY hx).1,(DY hy).1,trivial⟩,t112 _ _ _ (pT (A7 hx) (A7 hy)),.refl _⟩
/-! ### function 94 -/
def kO (s:Bool) (a:List Nat) (t:Bool) (b:List Nat) (m:Nat) (g:Nat→F) (i:Int):St:=⟨Al 2 ((U.hp 0 0) :: (U.hp 1 0) :: (U.hp 2 0) :: (U.hs 3 m 0 m) :: (U.f (F.int .i64 i)) :: Al 83 []),[HO.box [(U.f (F.bool s)),(U.f (AP a))],HO.box [(U.f (F.bool t)),(U.f (AP b))],HO.box [(U.f (F.bool false)),U.nils],HO.arr 1 m g]⟩
def kN (s:Bool) (a:List Nat) (t:Bool) (b:List Nat) (m:Nat) (g:Nat→F) (i:Int) (c:Int) (j:Int):St:=⟨Al 2 ((U.hp 0 0) :: (U.hp 1 0) :: (U.hp 2 0) :: (U.hs 3 m 0 m) :: (U.f (F.int .i64 i)) :: (U.f (F.int .u64 c)) :: (U.f (F.int .i64 j)) :: Al 81 []),[HO.box [(U.f (F.bool s)),(U.f (AP a))],HO.box [(U.f (F.bool t)),(U.f (AP b))],HO.box [(U.f (F.bool false)),U.nils],HO.arr 1 m g]⟩
abbrev KJ61 (ρ:Type):=(Bool)→(List Nat)→(Bool)→(List Nat)→(Nat)→(Nat→F)→(Int)→(Int)→(Int)→Option ρ
abbrev KJ63 (ρ:Type):=(Bool)→(List Nat)→(Bool)→(List Nat)→(Nat)→(Nat→F)→(Int)→Option ρ
def jJ {ρ:Type} (ret:Kz ρ) (c5:KJ63 ρ) (c9:KJ61 ρ) (s:Bool) (a:List Nat) (t:Bool) (b:List Nat) (m:Nat) (g:Nat→F) (i:Int):Option ρ :=
 (AD (decide (i<(↑a.length:Int)))
 (c9 (s) (a) (t) (b) (m) (g) (i) (0) (0))
 (AD (decide (m=m))
 (AD (A5 (F.sl m (B9 0 g))&&BB 2000 (F.sl m (B9 0 g)))
 (ret (AQ (sgn (!s==t) (val 4294967296 (AV (F.sl m (B9 0 g)))))))
 none)
 none))
def jI {ρ:Type} (ret:Kz ρ) (c5:KJ63 ρ) (c9:KJ61 ρ) (s:Bool) (a:List Nat) (t:Bool) (b:List Nat) (m:Nat) (g:Nat→F) (i:Int) (c:Int) (j:Int):Option ρ :=
 (AD (decide (j<(↑b.length:Int)))
 (AD (decide (0≤i))
 (AD (decide (i<(↑a.length:Int)))
 (AD (decide (0≤j))
 (AD (decide (j<(↑b.length:Int)))
 (AD (decide (m=m))
 (AD (decide (0≤IntKind.i64.wrap (i+j)))
 (AD (decide (IntKind.i64.wrap (i+j)<(↑m:Int)))
 (AD (decide (m=m))
 (AD (decide (0+(IntKind.i64.wrap (i+j)).toNat<m))
 (AD (decide ((g (0+(IntKind.i64.wrap (i+j)).toNat)).cells.length=1))
 (AD (okV (Value.int IntKind.u32 0) ((List.drop 0 (g (0+(IntKind.i64.wrap (i+j)).toNat)).cells).headD F.dflt)&&true)
 (AD (decide (m=m))
 (AD (decide (0≤IntKind.i64.wrap (i+j)))
 (AD (decide (IntKind.i64.wrap (i+j)<(↑m:Int)))
 (AD (decide (m=m))
 (AD (decide (0+(IntKind.i64.wrap (i+j)).toNat<m))
 (AD (decide ((g (0+(IntKind.i64.wrap (i+j)).toNat)).cells.length=1))
 (AD ((Cd (g (0+(IntKind.i64.wrap (i+j)).toNat)) || true)&&true)
 (c9 (s) (a) (t) (b) (m) (fun j_1 ↦ if j_1=0+(IntKind.i64.wrap (i+j)).toNat then F.int .u32 (IntKind.u32.wrap (IntKind.u64.wrap (IntKind.u64.wrap (c+IntKind.u64.wrap (IntKind.u64.wrap (↑(a.getD i.toNat 0):Int)*IntKind.u64.wrap (↑(b.getD j.toNat 0):Int)))+IntKind.u64.wrap (Hl ((List.drop 0 (g (0+(IntKind.i64.wrap (i+j)).toNat)).cells).headD F.dflt))))) else g j_1) (i) ((IntKind.u64.wrap (IntKind.u64.wrap (c+IntKind.u64.wrap (IntKind.u64.wrap (↑(a.getD i.toNat 0):Int)*IntKind.u64.wrap (↑(b.getD j.toNat 0):Int)))+IntKind.u64.wrap (Hl ((List.drop 0 (g (0+(IntKind.i64.wrap (i+j)).toNat)).cells).headD F.dflt)))).fdiv (2 ^ min (Int.toNat 32) IntKind.u64.bits)) (IntKind.i64.wrap (j+1)))
 none)
 none)
 none)
 none)
 none)
 none)
 none)
 none)
 none)
 none)
 none)
 none)
 none)
 none)
 none)
 none)
 none)
 none)
 (AD (decide (m=m))
 (AD (decide (0≤IntKind.i64.wrap (i+(↑b.length:Int))))
 (AD (decide (IntKind.i64.wrap (i+(↑b.length:Int))<(↑m:Int)))
 (AD (decide (m=m))
 (AD (decide (0+(IntKind.i64.wrap (i+(↑b.length:Int))).toNat<m))
 (AD (decide ((g (0+(IntKind.i64.wrap (i+(↑b.length:Int))).toNat)).cells.length=1))
 (AD ((Cd (g (0+(IntKind.i64.wrap (i+(↑b.length:Int))).toNat)) || true)&&true)
 (c5 (s) (a) (t) (b) (m) (fun j ↦ if j=0+(IntKind.i64.wrap (i+(↑b.length:Int))).toNat then F.int .u32 (IntKind.u32.wrap c) else g j) (IntKind.i64.wrap (i+1)))
 none)
 none)
 none)
 none)
 none)
 none)
 none))
mutual
def P3:Nat→(Bool)→(List Nat)→(Bool)→(List Nat)→(Nat)→(Nat→F)→(Int)→Option (F)
 | 0,_,_,_,_,_,_,_=>none
 | k+1,s,a,t,b,m,g,i=>jJ some (P3 k) (Sl k) s a t b m g i
def Sl:Nat→(Bool)→(List Nat)→(Bool)→(List Nat)→(Nat)→(Nat→F)→(Int)→(Int)→(Int)→Option (F)
 | 0,_,_,_,_,_,_,_,_,_=>none
 | k+1,s,a,t,b,m,g,i,c,j=>jI some (P3 k) (Sl k) s a t b m g i c j
end
def T94 {ρ:Type} (ret:Kz ρ) (c5:KJ63 ρ) (c9:KJ61 ρ) (x:Int) (y:Int):Option ρ :=
 (AD (((↑(AM 4294967296 x.natAbs).length:Int)==0)==false)
 (AD ((↑(AM 4294967296 y.natAbs).length:Int)==0)
 (ret (F.agg [F.bool false,F.sl 0 fun x ↦ F.bool false]))
 (AD (decide (0≤IntKind.i64.wrap ((↑(AM 4294967296 x.natAbs).length:Int)+(↑(AM 4294967296 y.natAbs).length:Int))))
 (AD (decide (IntKind.i64.wrap ((↑(AM 4294967296 x.natAbs).length:Int)+(↑(AM 4294967296 y.natAbs).length:Int))≤IntKind.i64.wrap ((↑(AM 4294967296 x.natAbs).length:Int)+(↑(AM 4294967296 y.natAbs).length:Int))))
 (AD (decide (IntKind.i64.wrap ((↑(AM 4294967296 x.natAbs).length:Int)+(↑(AM 4294967296 y.natAbs).length:Int))*(((4:Nat):Int)+1)≤(↑Bs:Int)))
 (c5 (decide (x<0)) (AM 4294967296 x.natAbs) (decide (y<0)) (AM 4294967296 y.natAbs) ((IntKind.i64.wrap ((↑(AM 4294967296 x.natAbs).length:Int)+(↑(AM 4294967296 y.natAbs).length:Int))).toNat) (fun x ↦ F.int .u32 0) (0))
 none)
 none)
 none))
 (ret (F.agg [F.bool false,F.sl 0 fun x ↦ F.bool false])))
def G94 (k:Nat) (x:Int) (y:Int):Option (F):=T94 some (P3 k) (Sl k) x y
mutual
theorem t94_5:∀ (k:Nat) (s:Bool) (a:List Nat) (t:Bool) (b:List Nat) (m:Nat) (g:Nat→F) (i:Int) (r:F),P3 k s a t b m g i=some r→AX Tryz.prog Tryz.f94.results.toList (at_ Tryz.f94 5) (kO s a t b m g i) (r)
 | 0,_,_,_,_,_,_,_,_,h=>nomatch h
 | k+1,s,a,t,b,m,g,i,r,h=>by
  refine AX.of_cut Au IT (T:=[(5,[2,3,4,5,6],1000),(9,[2,3,4,5,6,7,8],1000)]) (n:=200) ?_
  refine gE (Y:=jJ (fun r=>some (.ret (r))) (fun s a t b m g i=>some (.cut (at_ Tryz.f94 5) (kO s a t b m g i))) (fun s a t b m g i c j=>some (.cut (at_ Tryz.f94 9) (kN s a t b m g i c j))) s a t b m g i) (by kernel_rfl) ?_
  exact (gS h (fun _ h=>gC (t94_9 k _ _ _ _ _ _ _ _ _ r h)) (fun _ h=>(gS h (fun _ h=>(gS h (fun _ h=>gR (by cases h;rfl)) gN)) gN)))
theorem t94_9:∀ (k:Nat) (s:Bool) (a:List Nat) (t:Bool) (b:List Nat) (m:Nat) (g:Nat→F) (i:Int) (c:Int) (j:Int) (r:F),Sl k s a t b m g i c j=some r→AX Tryz.prog Tryz.f94.results.toList (at_ Tryz.f94 9) (kN s a t b m g i c j) (r)
 | 0,_,_,_,_,_,_,_,_,_,_,h=>nomatch h
 | k+1,s,a,t,b,m,g,i,c,j,r,h=>by
  refine AX.of_cut Au IT (T:=[(5,[2,3,4,5,6],1000),(9,[2,3,4,5,6,7,8],1000)]) (n:=200) ?_
  refine gE (Y:=jI (fun r=>some (.ret (r))) (fun s a t b m g i=>some (.cut (at_ Tryz.f94 5) (kO s a t b m g i))) (fun s a t b m g i c j=>some (.cut (at_ Tryz.f94 9) (kN s a t b m g i c j))) s a t b m g i c j) (by kernel_rfl) ?_
  exact (gS h (fun _ h=>(gS h (fun _ h=>(gS h (fun _ h=>(gS h (fun _ h=>(gS h (fun _ h=>(gS h (fun _ h=>(gS h (fun _ h=>(gS h (fun _ h=>(gS h (fun _ h=>(gS h (fun _ h=>(gS h (fun _ h=>(gS h (fun _ h=>(gS h (fun _ h=>(gS h (fun _ h=>(gS h (fun _ h=>(gS h (fun _ h=>(gS h (fun _ h=>(gS h (fun _ h=>(gS h (fun _ h=>gC (t94_9 k _ _ _ _ _ _ _ _ _ r h)) gN)) gN)) gN)) gN)) gN)) gN)) gN)) gN)) gN)) gN)) gN)) gN)) gN)) gN)) gN)) gN)) gN)) gN)) (fun _ h=>(gS h (fun _ h=>(gS h (fun _ h=>(gS h (fun _ h=>(gS h (fun _ h=>(gS h (fun _ h=>(gS h (fun _ h=>(gS h (fun _ h=>gC (t94_5 k _ _ _ _ _ _ _ r h)) gN)) gN)) gN)) gN)) gN)) gN)) gN)))
end
theorem t94 (k:Nat) (x:Int) (y:Int) (r:F) (h:G94 k x y=some r):AX Tryz.prog Tryz.f94.results.toList [.code (AT Tryz.f94)] (start Tryz.f94.ntmps ([AQ x,AQ y].map .f)) (r):=by
 refine AX.of_run Au IT (T:=[(5,[2,3,4,5,6],1000),(9,[2,3,4,5,6,7,8],1000)]) (n:=200) ?_
 refine gE (Y:=T94 (fun r=>some (.ret (r))) (fun s a t b m g i=>some (.cut (at_ Tryz.f94 5) (kO s a t b m g i))) (fun s a t b m g i c j=>some (.cut (at_ Tryz.f94 9) (kN s a t b m g i c j))) x y) (by kernel_rfl) ?_
 exact (gS h (fun _ h=>(gS h (fun _ h=>gR (by cases h;rfl)) (fun _ h=>(gS h (fun _ h=>(gS h (fun _ h=>(gS h (fun _ h=>gC (t94_5 k _ _ _ _ _ _ _ r h)) gN)) gN)) gN)))) (fun _ h=>gR (by cases h;rfl)))
theorem dB {x y o c:Nat} (hx:x<4294967296) (hy:y<4294967296) (ho:o<4294967296) (hc:c<4294967296) :
  F.int .u32 (IntKind.u32.wrap (IntKind.u64.wrap (IntKind.u64.wrap ((c:Int)+IntKind.u64.wrap (IntKind.u64.wrap (x:Int)*IntKind.u64.wrap (y:Int)))+IntKind.u64.wrap (o:Int))))=DF ((x*y+o+c) % 4294967296) ∧
  (IntKind.u64.wrap (IntKind.u64.wrap ((c:Int)+IntKind.u64.wrap (IntKind.u64.wrap (x:Int)*IntKind.u64.wrap (y:Int)))+IntKind.u64.wrap (o:Int))).fdiv (2 ^ min (Int.toNat 32) IntKind.u64.bits)=(((x*y+o+c) / 4294967296:Nat):Int)∧(x*y+o+c) / 4294967296<4294967296:=by
 have h:=ZA (B:=4294967296) (by omega) hx hy ho hc
 have hb:x*y+o+c<18446744073709551616:=by
  rw [Nat.div_lt_iff_lt_mul (by omega)] at h
  exact h
 have e:IntKind.u64.wrap (IntKind.u64.wrap ((c:Int)+IntKind.u64.wrap (IntKind.u64.wrap (x:Int)*IntKind.u64.wrap (y:Int)))+IntKind.u64.wrap (o:Int))=((x*y+o+c:Nat):Int):=by
  rw [Cg (show x<18446744073709551616 by omega),Cg (show y<18446744073709551616 by omega),Cg (show o<18446744073709551616 by omega),← Int.natCast_mul]
  clear h
  generalize x*y=p at *
  simp only [Dw]
  omega
 rw [e,K8]
 refine ⟨congrArg (F.int .u32) ?_,rfl,h⟩
 rw [H7]
 omega
theorem Vp {s t:Bool} {a b:List Nat} {m i:Nat} (oa:okD 4294967296 a) (ob:okD 4294967296 b) (hm:m=a.length+b.length) (hi:i<a.length) (hl:m≤1900) :
  ∀ (r j c k:Nat) (o:List Nat) (g:Nat→F),r+j=b.length→o.length=m→okD 4294967296 o→c<4294967296→(∀ q,i+j≤q→(j=0 ∨ i+b.length≤q)→(i+b.length≤q→o.getD q 0=0)) →
   (∀ q,q<m→g q=DF (o.getD q 0))→r<k →
   ∃ o' g',Sl (k+1) s a t b m g i c j=P3 (k-r) s a t b m g' ((i+1:Nat):Int)∧o'.length=m∧okD 4294967296 o'∧(∀ q,i+1+b.length≤q→o'.getD q 0=0) ∧
    (∀ q,q<m→g' q=DF (o'.getD q 0))∧val 4294967296 o'+4294967296 ^ i*a.getD i 0*val 4294967296 (b.take j)=val 4294967296 o+4294967296 ^ (i+j)*c+4294967296 ^ i*a.getD i 0*val 4294967296 b
 | r,j,c,0,o,g,_,_,_,_,_,_,hk=>by omega
 | 0,j,c,k+1,o,g,hr,ho,oo,hc,hz,hg,hk=>by
  obtain rfl:j=b.length:=by omega
  have hp:i+b.length<m:=by omega
  have ei:IntKind.i64.wrap ((i:Int)+(b.length:Int))=((i+b.length:Nat):Int):=by rw [As (by omega) (by omega)];omega
  have e1:IntKind.i64.wrap ((i:Int)+1)=((i+1:Nat):Int):=by rw [As (by omega) (by omega)];omega
  have e2:F.int .u32 (IntKind.u32.wrap (c:Int))=DF c:=congrArg (F.int .u32) (by rw [H7];omega)
  refine ⟨o.set (i+b.length) c,_,?_,by simp [ho],Nv oo hc,?_,M6 ho hp hg,?_⟩
  ·rw [Sl]
   unfold jI
   rw [decide_eq_false (show ¬ (b.length:Int)<b.length by omega),AJ,ei,e1,Int.toNat_natCast,decide_eq_true (show (0:Int)≤((i+b.length:Nat):Int) by omega),decide_eq_true (show ((i+b.length:Nat):Int)<(m:Int) by omega),Gd,decide_eq_true (show 0+(i+b.length)<m by omega),hg (0+(i+b.length)) (by omega),decide_eq_true (Oc _),EW,e2]
   rfl
  ·intro q hq
   rw [OA (by omega)]
   exact hz q (by omega) (.inr (by omega)) (by omega)
  ·have h1:=NT 4294967296 o (i+b.length) c (by omega)
   rw [hz (i+b.length) (by omega) (.inr (by omega)) (by omega),Nat.mul_zero,Nat.add_zero] at h1
   rw [h1,List.take_length]
 | r+1,j,c,k+1,o,g,hr,ho,oo,hc,hz,hg,hk=>by
  have hj:j<b.length:=by omega
  have hp:i+j<m:=by omega
  have hx:=Dk oa hi
  have hy:=Dk ob hj
  have hov:=Dk oo (show i+j<o.length by omega)
  obtain ⟨c1,c2,c6⟩:=dB hx hy hov hc
  have ei:IntKind.i64.wrap ((i:Int)+(j:Int))=((i+j:Nat):Int):=by rw [As (by omega) (by omega)];omega
  have e1:IntKind.i64.wrap ((j:Int)+1)=((j+1:Nat):Int):=by rw [As (by omega) (by omega)];omega
  obtain ⟨o',g',h1,h2,h3,h4,h5,h6⟩:=Vp (s:=s) (t:=t) oa ob hm hi hl r (j+1) ((a.getD i 0*b.getD j 0+o.getD (i+j) 0+c) / 4294967296) k (o.set (i+j) ((a.getD i 0*b.getD j 0+o.getD (i+j) 0+c) % 4294967296)) _ (by omega) (by simp [ho]) (Nv oo (Nat.mod_lt _ (by omega))) c6
   (fun q hq _ hq2=>by rw [OA (by omega)];exact hz q (by omega) (.inr hq2) hq2) (M6 ho hp hg) (by omega)
  refine ⟨o',g',?_,h2,h3,h4,h5,?_⟩
  ·rw [show k+1-(r+1)=k-r by omega,← h1]
   conv=>lhs;rw [Sl]
   unfold jI
   rw [decide_eq_true (show (j:Int)<b.length by omega),decide_eq_true (show (0:Int)≤(j:Int) by omega),decide_eq_true (show (0:Int)≤(i:Int) by omega),decide_eq_true (show (i:Int)<a.length by omega),ei,e1,Int.toNat_natCast,Int.toNat_natCast,Int.toNat_natCast,decide_eq_true (show (0:Int)≤((i+j:Nat):Int) by omega),decide_eq_true (show ((i+j:Nat):Int)<(m:Int) by omega),Gd,decide_eq_true (show 0+(i+j)<m by omega),hg (0+(i+j)) (by omega),decide_eq_true (Oc _),aN,iN,VK,EW,Nat.zero_add,c1,c2]
   rfl
  ·have hs:=Xn (B:=4294967296) (o:=o) (p:=i+j) (c:=c) (x:=a.getD i 0) (y:=b.getD j 0) (by omega)
   have ht:=HH (B:=4294967296) (l:=b) hj
   rw [ht,Nat.mul_add] at h6
   have e2:4294967296 ^ (i+j)*(a.getD i 0*b.getD j 0)=4294967296 ^ i*a.getD i 0*(4294967296 ^ j*b.getD j 0):=by
    rw [Nat.pow_add,Nat.mul_assoc,Nat.mul_assoc]
    congr 1
    rw [Nat.mul_left_comm]
   rw [show i+(j+1)=i+j+1 by omega] at h6
   omega
theorem Vo {s t:Bool} {a b:List Nat} {m:Nat} (oa:okD 4294967296 a) (ob:okD 4294967296 b) (hm:m=a.length+b.length) (hl:m≤1900) :
  ∀ (r i k:Nat) (o:List Nat) (g:Nat→F),r+i=a.length→o.length=m→okD 4294967296 o→(∀ q,i+b.length≤q→o.getD q 0=0)→(∀ q,q<m→g q=DF (o.getD q 0))→val 4294967296 o=val 4294967296 (a.take i)*val 4294967296 b →
   r*(b.length+3)<k→P3 k s a t b m g i=some (AQ (sgn (!(s==t)) (val 4294967296 a*val 4294967296 b)))
 | r,i,0,o,g,_,_,_,_,_,_,hk=>by omega
 | 0,i,k+1,o,g,hr,ho,oo,hz,hg,hv,hk=>by
  obtain rfl:i=a.length:=by omega
  rw [List.take_length] at hv
  rw [P3]
  unfold jJ
  rw [decide_eq_false (show ¬ (a.length:Int)<a.length by omega),AJ,show B9 0 g=g from rfl,Et ho hg,Ew ho hg oo,show BB 2000 (.sl m g)=true from Nat.ble_eq_true_of_le (by omega),hv,Gd]
  rfl
 | r+1,i,k+1,o,g,hr,ho,oo,hz,hg,hv,hk=>by
  have hi:i<a.length:=by omega
  rw [Nat.add_mul,Nat.one_mul] at hk
  obtain ⟨k',rfl⟩:∃ k',k=k'+1:=⟨k-1,by omega⟩
  obtain ⟨o',g',h1,h2,h3,h4,h5,h6⟩:=Vp (s:=s) (t:=t) oa ob hm hi hl b.length 0 0 k' o g (by omega) ho oo (by omega) (fun q _ _ hq=>hz q hq) hg (by omega)
  have hv':val 4294967296 o'=val 4294967296 (a.take (i+1))*val 4294967296 b:=by
   rw [HH hi,Nat.add_mul,← hv]
   simp only [List.take_zero,val,Nat.mul_zero,Nat.add_zero] at h6
   exact h6
  rw [P3]
  unfold jJ
  rw [decide_eq_true (show (i:Int)<a.length by omega),AH]
  exact h1.trans (Vo (s:=s) (t:=t) oa ob hm hl r (i+1) (k'-b.length) o' g' (by omega) h2 h3 (fun q hq=>h4 q hq) h5 hv' (by omega))
theorem sP {x y:Int} (hx:x.natAbs<4294967296 ^ 900) (hy:y.natAbs<4294967296 ^ 900):∃ r,G94 2000000 x y=some r∧FLe r (AQ (x*y)):=by
 have lx:=DR hx
 have ly:=DR hy
 clear hx hy
 have z:FLe (F.agg [.bool false,.sl 0 fun _=>F.bool false]) (AQ 0):=by
  unfold AQ
  rw [show AM 4294967296 (Int.natAbs 0)=[] from BU _]
  exact FLe.agg ⟨.refl _,FLe.sl fun j hj=>by omega,trivial⟩
 unfold G94 T94
 by_cases hx0:x=0
 ·subst hx0
  rw [show AM 4294967296 (Int.natAbs 0)=[] from BU _,Int.zero_mul]
  exact ⟨_,rfl,z⟩
 have px:=EJ (n:=x.natAbs).2 (by omega)
 rw [show (((AM 4294967296 x.natAbs).length:Int)==0)=false by simp only [beq_eq_false_iff_ne,ne_eq];omega,show (false==false)=true from rfl,AH]
 by_cases hy0:y=0
 ·subst hy0
  rw [show AM 4294967296 (Int.natAbs 0)=[] from BU _,Int.mul_zero]
  exact ⟨_,rfl,z⟩
 have py:=EJ (n:=y.natAbs).2 (by omega)
 have ew:IntKind.i64.wrap (((AM 4294967296 x.natAbs).length:Int)+((AM 4294967296 y.natAbs).length:Int))=(((AM 4294967296 x.natAbs).length+(AM 4294967296 y.natAbs).length:Nat):Int):=by
  rw [As (by omega) (by omega)];omega
 rw [ew,show (((AM 4294967296 y.natAbs).length:Int)==0)=false by simp only [beq_eq_false_iff_ne,ne_eq];omega,AJ]
 rw [decide_eq_true (show (0:Int)≤(((AM 4294967296 x.natAbs).length+(AM 4294967296 y.natAbs).length:Nat):Int) by omega),decide_eq_true (Int.le_refl _),decide_eq_true (Dp (show (AM 4294967296 x.natAbs).length+(AM 4294967296 y.natAbs).length≤3000 by omega)),Int.toNat_natCast]
 simp only [AH]
 have fuel:(AM 4294967296 x.natAbs).length*((AM 4294967296 y.natAbs).length+3)<2000000:=Nat.lt_of_le_of_lt (Nat.mul_le_mul lx (show (AM 4294967296 y.natAbs).length+3≤903 by omega)) (by decide)
 have h:=Vo (s:=decide (x<0)) (t:=decide (y<0)) (a:=AM 4294967296 x.natAbs) (b:=AM 4294967296 y.natAbs) (BG (by omega) _) (BG (by omega) _) rfl (by omega) (AM 4294967296 x.natAbs).length 0 2000000 (List.replicate ((AM 4294967296 x.natAbs).length+(AM 4294967296 y.natAbs).length) 0) (fun _=>F.int .u32 0) rfl (by simp)
  (fun w hw=>by have:=(List.mem_replicate.1 hw).2;omega) (fun q hq=>by simp [List.getD,List.getElem?_replicate];split <;> rfl) (fun q hq=>by simp [List.getD,List.getElem?_replicate,DF,hq]) (by rw [L4];simp [val]) fuel
 rw [BV,BV,fW] at h
 exact ⟨_,h,.refl _⟩
def Ap:List F→F | [x,y]=>AQ (AW x*AW y) | _=>.dflt
theorem okMulZ:Ak Tryz.prog 94 (Kp 900) Ap :=
 Ad (c:=AT Tryz.f94) Tryz.func94 (by kernel_rfl) (by kernel_rfl) fun xs hp=>match xs,hp with
 | [x,y],hp=>by
  obtain ⟨hx,hy⟩:=JT hp
  obtain ⟨r,e,hr⟩:=sP (A7 hx) (A7 hy)
  exact ⟨[AQ (AW x),AQ (AW y)],_,⟨(DY hx).1,(DY hy).1,trivial⟩,t94 2000000 _ _ _ e,hr⟩
/-! ### function 114 -/
def fH (b:List Nat) (m:Nat) (g:Nat→F) (e:List Nat) (i:Int):St:=⟨Al 1 ((U.f (AP b)) :: Al 5 ((U.hs 0 m 0 m) :: (U.f (AP e)) :: (U.f (F.int .i64 i)) :: Al 49 [])),[HO.arr 1 m g]⟩
def XY {ρ:Type} (ret:Kz ρ) (c7:(List Nat)→(Nat)→(Nat→F)→(List Nat)→(Int)→Option ρ) (b:List Nat) (m:Nat) (g:Nat→F) (e:List Nat) (i:Int):Option ρ :=
 (AD (decide (i ≥ 0))
 (AD (A5 (AP b)&&Rn (AV (AP b)).length i)
 (AD (C3 800 (AP e)&&C3 800 (AP (AM 4294967296 (val 4294967296 (AV (AP b))*2 ^ i.toNat))))
 (AD (decide (((↑(val 4294967296 (AV (AP e))):Int)-(↑(val 4294967296 (AV (AP (AM 4294967296 (val 4294967296 (AV (AP b))*2 ^ i.toNat))))):Int)).sign ≥ 0))
 (AD (A5 (AP e)&&BB 1900 (AP e)&&(A5 (AP (AM 4294967296 (val 4294967296 (AV (AP b))*2 ^ i.toNat)))&&BB 1900 (AP (AM 4294967296 (val 4294967296 (AV (AP b))*2 ^ i.toNat)))))
 (AD (A5 (Eb [AP e,AP (AM 4294967296 (val 4294967296 (AV (AP b))*2 ^ i.toNat))])&&BB 2000 (Eb [AP e,AP (AM 4294967296 (val 4294967296 (AV (AP b))*2 ^ i.toNat))]))
 (AD (decide (m=m))
 (AD (decide (0≤IntKind.i64.wrap (i.tdiv 32)))
 (AD (decide (IntKind.i64.wrap (i.tdiv 32)<(↑m:Int)))
 (AD (decide (m=m))
 (AD (decide (0+(IntKind.i64.wrap (i.tdiv 32)).toNat<m))
 (AD (decide ((g (0+(IntKind.i64.wrap (i.tdiv 32)).toNat)).cells.length=1))
 (AD (okV (Value.int IntKind.u32 0) ((List.drop 0 (g (0+(IntKind.i64.wrap (i.tdiv 32)).toNat)).cells).headD F.dflt)&&true)
 (AD (decide (0≤IntKind.u64.wrap (i.tmod 32)))
 (AD (decide (m=m))
 (AD (decide (0≤IntKind.i64.wrap (i.tdiv 32)))
 (AD (decide (IntKind.i64.wrap (i.tdiv 32)<(↑m:Int)))
 (AD (decide (m=m))
 (AD (decide (0+(IntKind.i64.wrap (i.tdiv 32)).toNat<m))
 (AD (decide ((g (0+(IntKind.i64.wrap (i.tdiv 32)).toNat)).cells.length=1))
 (AD ((Cd (g (0+(IntKind.i64.wrap (i.tdiv 32)).toNat)) || true)&&true)
 (c7 (b) (m) (fun j ↦ if j=0+(IntKind.i64.wrap (i.tdiv 32)).toNat then F.int .u32 (B8 BinOp.or IntKind.u32 (Hl ((List.drop 0 (g (0+(IntKind.i64.wrap (i.tdiv 32)).toNat)).cells).headD F.dflt)) (IntKind.u32.wrap (1*2 ^ min (IntKind.u64.wrap (i.tmod 32)).toNat IntKind.u32.bits))) else g j) (AM 4294967296 (sgn false (val 4294967296 (AV (Eb [AP e,AP (AM 4294967296 (val 4294967296 (AV (AP b))*2 ^ i.toNat))])))).natAbs) (IntKind.i64.wrap (i-1)))
 none)
 none)
 none)
 none)
 none)
 none)
 none)
 none)
 none)
 none)
 none)
 none)
 none)
 none)
 none)
 none)
 none)
 (c7 (b) (m) (g) (e) (IntKind.i64.wrap (i-1))))
 none)
 none)
 (AD (decide (m=m))
 (AD (A5 (F.sl m (B9 0 g))&&BB 2000 (F.sl m (B9 0 g)))
 (ret (F.tup [AP (AM 4294967296 (sgn false (val 4294967296 (AV (F.sl m (B9 0 g))))).natAbs),AP e]))
 none)
 none))
def Pa:Nat→(List Nat)→(Nat)→(Nat→F)→(List Nat)→(Int)→Option (F)
 | 0,_,_,_,_,_=>none
 | k+1,b,m,g,e,i=>XY some (Pa k) b m g e i
def T114 {ρ:Type} (ret:Kz ρ) (c7:(List Nat)→(Nat)→(Nat→F)→(List Nat)→(Int)→Option ρ) (a:List Nat) (b:List Nat):Option ρ :=
 (AD (C3 800 (AP a))
 (AD (C3 800 (AP b))
 (AD (decide (IntKind.i64.wrap ((↑(Go.Proofs.YtonmnfkibnflnaaGreat.R.AZ (val 4294967296 (AV (AP a)))):Int)-(↑(Go.Proofs.YtonmnfkibnflnaaGreat.R.AZ (val 4294967296 (AV (AP b)))):Int))<0))
 (ret (F.tup [F.sl 0 fun x ↦ F.bool false,AP a]))
 (AD (decide (0≤IntKind.i64.wrap (IntKind.i64.wrap ((IntKind.i64.wrap ((↑(Go.Proofs.YtonmnfkibnflnaaGreat.R.AZ (val 4294967296 (AV (AP a)))):Int)-(↑(Go.Proofs.YtonmnfkibnflnaaGreat.R.AZ (val 4294967296 (AV (AP b)))):Int))).tdiv 32)+1)))
 (AD (decide (IntKind.i64.wrap (IntKind.i64.wrap ((IntKind.i64.wrap ((↑(Go.Proofs.YtonmnfkibnflnaaGreat.R.AZ (val 4294967296 (AV (AP a)))):Int)-(↑(Go.Proofs.YtonmnfkibnflnaaGreat.R.AZ (val 4294967296 (AV (AP b)))):Int))).tdiv 32)+1)≤IntKind.i64.wrap (IntKind.i64.wrap ((IntKind.i64.wrap ((↑(Go.Proofs.YtonmnfkibnflnaaGreat.R.AZ (val 4294967296 (AV (AP a)))):Int)-(↑(Go.Proofs.YtonmnfkibnflnaaGreat.R.AZ (val 4294967296 (AV (AP b)))):Int))).tdiv 32)+1)))
 (AD (decide (IntKind.i64.wrap (IntKind.i64.wrap ((IntKind.i64.wrap ((↑(Go.Proofs.YtonmnfkibnflnaaGreat.R.AZ (val 4294967296 (AV (AP a)))):Int)-(↑(Go.Proofs.YtonmnfkibnflnaaGreat.R.AZ (val 4294967296 (AV (AP b)))):Int))).tdiv 32)+1)*(((4:Nat):Int)+1)≤(↑Bs:Int)))
 (c7 (b) ((IntKind.i64.wrap (IntKind.i64.wrap ((IntKind.i64.wrap ((↑(Go.Proofs.YtonmnfkibnflnaaGreat.R.AZ (val 4294967296 (AV (AP a)))):Int)-(↑(Go.Proofs.YtonmnfkibnflnaaGreat.R.AZ (val 4294967296 (AV (AP b)))):Int))).tdiv 32)+1)).toNat) (fun x ↦ F.int .u32 0) (a) (IntKind.i64.wrap ((↑(Go.Proofs.YtonmnfkibnflnaaGreat.R.AZ (val 4294967296 (AV (AP a)))):Int)-(↑(Go.Proofs.YtonmnfkibnflnaaGreat.R.AZ (val 4294967296 (AV (AP b)))):Int))))
 none)
 none)
 none))
 none)
 none)
def G114 (k:Nat) (a:List Nat) (b:List Nat):Option (F):=T114 some (Pa k) a b
theorem bU:∀ (k:Nat) (b:List Nat) (m:Nat) (g:Nat→F) (e:List Nat) (i:Int) (r:F),Pa k b m g e i=some r→AX Tryz.prog Tryz.f114.results.toList (at_ Tryz.f114 7) (fH b m g e i) (r)
 | 0,_,_,_,_,_,_,h=>nomatch h
 | k+1,b,m,g,e,i,r,h=>by
  refine AX.of_cut Au IT (T:=[(7,[1,7,8,9],1000)]) (n:=200) ?_
  refine gE (Y:=XY (fun r=>some (.ret (r))) (fun b m g e i=>some (.cut (at_ Tryz.f114 7) (fH b m g e i))) b m g e i) (by kernel_rfl) ?_
  exact (gS h (fun _ h=>(gS h (fun _ h=>(gS h (fun _ h=>(gS h (fun _ h=>(gS h (fun _ h=>(gS h (fun _ h=>(gS h (fun _ h=>(gS h (fun _ h=>(gS h (fun _ h=>(gS h (fun _ h=>(gS h (fun _ h=>(gS h (fun _ h=>(gS h (fun _ h=>(gS h (fun _ h=>(gS h (fun _ h=>(gS h (fun _ h=>(gS h (fun _ h=>(gS h (fun _ h=>(gS h (fun _ h=>(gS h (fun _ h=>(gS h (fun _ h=>gC (bU k _ _ _ _ _ r h)) gN)) gN)) gN)) gN)) gN)) gN)) gN)) gN)) gN)) gN)) gN)) gN)) gN)) gN)) gN)) gN)) gN)) (fun _ h=>gC (bU k _ _ _ _ _ r h)))) gN)) gN)) (fun _ h=>(gS h (fun _ h=>(gS h (fun _ h=>gR (by cases h;rfl)) gN)) gN)))
theorem t114 (k:Nat) (a:List Nat) (b:List Nat) (r:F) (h:G114 k a b=some r):AX Tryz.prog Tryz.f114.results.toList [.code (AT Tryz.f114)] (start Tryz.f114.ntmps ([AP a,AP b].map .f)) (r):=by
 refine AX.of_run Au IT (T:=[(7,[1,7,8,9],1000)]) (n:=200) ?_
 refine gE (Y:=T114 (fun r=>some (.ret (r))) (fun b m g e i=>some (.cut (at_ Tryz.f114 7) (fH b m g e i))) a b) (by kernel_rfl) ?_
 exact (gS h (fun _ h=>(gS h (fun _ h=>(gS h (fun _ h=>gR (by cases h;rfl)) (fun _ h=>(gS h (fun _ h=>(gS h (fun _ h=>(gS h (fun _ h=>gC (bU k _ _ _ _ _ r h)) gN)) gN)) gN)))) gN)) gN)
theorem or32 {a b:Nat} (ha:a<4294967296) (hb:b<4294967296) (h:a ||| b<4294967296):B8 .or .u32 (a:Int) (b:Int)=((a ||| b:Nat):Int):=by
 have e:∀ n:Nat,BitVec.ofInt 32 (n:Int)=BitVec.ofNat 32 n:=fun n=>by
  apply BitVec.eq_of_toNat_eq
  rw [BitVec.toNat_ofInt,BitVec.toNat_ofNat]
  omega
 rw [show B8 .or .u32 (a:Int) (b:Int)=IntKind.u32.wrap ((BitVec.ofInt 32 (a:Int) ||| BitVec.ofInt 32 (b:Int)).toNat:Int) from rfl,e,e,BitVec.toNat_or,BitVec.toNat_ofNat,BitVec.toNat_ofNat,Nat.mod_eq_of_lt (show a<2 ^ 32 from ha),Nat.mod_eq_of_lt (show b<2 ^ 32 from hb),H7]
 omega
theorem HF {x n m:Nat} (h:x<4294967296 ^ n) (hn:n≤m):x<4294967296 ^ m:=Nat.lt_of_lt_of_le h (Nat.pow_le_pow_right (by omega) hn)
theorem PI {a b N:Nat} (hb:0<b) (ha:a<4294967296 ^ 700) (hbN:b*2 ^ N<4294967296 ^ 700) (hN:N≤30000) (hlb:(AM 4294967296 b).length≤700) :
  ∀ (n k rest:Nat) (o:List Nat) (g:Nat→F),n≤N+1→n<k→DivInv a b n rest (val 4294967296 o)→o.length=N / 32+1→okD 4294967296 o→(∀ j,j<N / 32+1→g j=DF (o.getD j 0)) →
   Pa k (AM 4294967296 b) (N / 32+1) g (AM 4294967296 rest) ((n:Int)-1)=some (.tup [AP (AM 4294967296 (a / b)),AP (AM 4294967296 (a % b))])
 | _,0,_,_,_,_,hk,_,_,_,_=>by omega
 | 0,k+1,rest,o,g,hn,hk,hI,ho,oo,hg=>by
  obtain ⟨q1,q2⟩:=hI.done
  have sg:∀ n:Nat,(sgn false n).natAbs=n:=D5 false
  rw [Pa]
  unfold XY
  rw [decide_eq_false (show ¬ ((0:Nat):Int)-1 ≥ 0 by omega),AJ,Gd,AH,show B9 0 g=g from rfl,Ew ho hg oo,Et ho hg,show BB 2000 (F.sl (N / 32+1) g)=true by simp only [BB,Nat.ble_eq];omega,sg,q1,q2]
  rfl
 | n+1,k+1,rest,o,g,hn,hk,hI,ho,oo,hg=>by
  have hra:rest≤a:=by have:=hI.eq;omega
  have hrest:rest<4294967296 ^ 700:=by omega
  have hs:b*2 ^ n<4294967296 ^ 700:=Nat.lt_of_le_of_lt (Nat.mul_le_mul_left _ (Nat.pow_le_pow_right (by omega) (by omega))) hbN
  have t1:=Cl (HF hrest (show 700≤800 by omega))
  have t2:=Cl (HF hs (show 700≤800 by omega))
  have l1:BB 1900 (AP (AM 4294967296 rest))=true:=Dy hrest (by omega)
  have l2:BB 1900 (AP (AM 4294967296 (b*2 ^ n)))=true:=Dy hs (by omega)
  have lr:=DR hrest
  have hl:Rn (AM 4294967296 b).length (n:Int)=true:=by
   simp only [Rn,Bool.and_eq_true,decide_eq_true_eq,Nat.ble_eq,Int.toNat_natCast]
   omega
  have d1:=DD (LK (B:=4294967296) (by omega) (AM 4294967296 rest) (AM 4294967296 (b*2 ^ n)) 0)
  have d2:BB 2000 (AP (Hb 4294967296 (AM 4294967296 rest) (AM 4294967296 (b*2 ^ n)) 0))=true:=by rw [HJ,Nat.ble_eq,N3];omega
  have sg:∀ n:Nat,(sgn false n).natAbs=n:=D5 false
  have ei:((n+1:Nat):Int)-1=(n:Int):=by omega
  have ew:IntKind.i64.wrap ((n:Int)-1)=(n:Int)-1:=by rw [As (by omega) (by omega)]
  have e1:IntKind.i64.wrap ((n:Int).tdiv 32)=((n / 32:Nat):Int):=by
   rw [show (n:Int).tdiv 32=((n / 32:Nat):Int) from rfl,As (by omega) (by omega)]
  have e2:IntKind.u64.wrap ((n:Int).tmod 32)=((n % 32:Nat):Int):=by
   rw [show (n:Int).tmod 32=((n % 32:Nat):Int) from rfl,Cg (by omega)]
  have hm32:n % 32<32:=Nat.mod_lt _ (by omega)
  have e3:min ((n % 32:Nat):Int).toNat IntKind.u32.bits=n % 32:=by rw [Int.toNat_natCast];exact Nat.min_eq_left (by show n % 32≤32;omega)
  have p32:2 ^ (n % 32)≤2 ^ 31:=Nat.pow_le_pow_right (by omega) (by omega)
  have e4:IntKind.u32.wrap (1*2 ^ (n % 32))=((2 ^ (n % 32):Nat):Int):=by
   have p33:2 ^ (n % 32)<4294967296:=Nat.lt_of_le_of_lt p32 (by decide)
   rw [Int.one_mul,Yo,H7,show (4294967296:Int)=((4294967296:Nat):Int) from rfl,← Int.natCast_emod,Nat.mod_eq_of_lt p33]
  clear hrest hs
  rw [Pa]
  unfold XY
  rw [ei]
  simp only [Eb,De,Dm,BV,Int.toNat_natCast (n:=n),Ex,t1,t2,l1,l2,hl,d1,d2,Bool.and_self,AH,decide_eq_true (show (n:Int) ≥ 0 by omega)]
  by_cases hc:b*2 ^ n≤rest
  ·have hI':=hI.take hc
   obtain ⟨b1,b2⟩:=bit_set oo (show n / 32<o.length by omega) hI.dvd
   have hq:=Dk oo (show n / 32<o.length by omega)
   have hlong:(AM 4294967296 (b*2 ^ n)).length≤(AM 4294967296 rest).length:=by
    rcases Nat.lt_or_ge (AM 4294967296 rest).length (AM 4294967296 (b*2 ^ n)).length with h1 | h1
    ·have:=D2 (B:=4294967296) (by omega) (BG (by omega) rest) (CS (by omega) (b*2 ^ n)) h1
     rw [BV,BV] at this
     omega
    ·exact h1
   have hv:val 4294967296 (Hb 4294967296 (AM 4294967296 rest) (AM 4294967296 (b*2 ^ n)) 0)=rest-b*2 ^ n:=by
    have:=K0 (B:=4294967296) (by omega) (AM 4294967296 rest) (AM 4294967296 (b*2 ^ n)) 0 (BG (by omega) _) (BG (by omega) _) (by omega) hlong (by rw [BV,BV];omega)
    rw [BV,BV] at this
    omega
   rw [← b2] at hI'
   have ih:=PI (a:=a) hb (by assumption) (by assumption) hN hlb n k (rest-b*2 ^ n) (o.set (n / 32) (o.getD (n / 32) 0 ||| 2 ^ (n % 32))) (fun j=>if j=0+n / 32 then F.int .u32 ((o.getD (n / 32) 0 ||| 2 ^ (n % 32):Nat):Int) else g j) (by omega) (by omega) hI' (by rw [List.length_set];exact ho) (Nv oo b1) (M6 ho (by omega) hg)
   rw [decide_eq_true (show ((rest:Int)-((b*2 ^ n:Nat):Int)).sign ≥ 0 from Int.sign_nonneg_iff.2 (by omega)),AH,hv,sg,e1,e2,e3,e4,ew,Int.toNat_natCast,Nat.zero_add,hg (n / 32) (by omega),aN,iN,VK,or32 hq (by omega) b1,EW,decide_eq_true (Oc _)]
   rw [decide_eq_true (show (0:Int)≤((n / 32:Nat):Int) by omega),decide_eq_true (show ((n / 32:Nat):Int)<((N / 32+1:Nat):Int) by omega),decide_eq_true (show n / 32<N / 32+1 by omega),decide_eq_true (show (0:Int)≤((n % 32:Nat):Int) by omega)]
   simp only [AH,decide_true]
   rw [Nat.zero_add] at ih
   exact ih
  ·have hI':=hI.skip (by omega)
   rw [decide_eq_false (show ¬ ((rest:Int)-((b*2 ^ n:Nat):Int)).sign ≥ 0 from fun h=>by have:=Int.sign_nonneg_iff.1 h;omega),AJ,ew]
   exact PI (a:=a) hb (by assumption) (by assumption) hN hlb n k rest o g (by omega) (by omega) hI' ho oo hg
theorem eW {n:Nat} (h:0<n):2 ^ (AZ n-1)≤n∧0<AZ n:=by
 have h0:0<AZ n:=by
  rcases Nat.eq_zero_or_pos (AZ n) with h1 | h1
  ·have:=(CW (n:=n) (j:=0)).1 (by omega)
   simp at this
   omega
  ·exact h1
 refine ⟨?_,h0⟩
 rcases Nat.lt_or_ge n (2 ^ (AZ n-1)) with h1 | h1
 ·have:=CW.2 h1
  omega
 ·exact h1
theorem vQ {a b:Nat} (hb:0<b) (ha:a<4294967296 ^ 699) (hbb:b<4294967296 ^ 699):∃ r1 r2,G114 40000 (AM 4294967296 a) (AM 4294967296 b)=some (.tup [r1,r2])∧FLe r1 (AP (AM 4294967296 (a / b)))∧FLe r2 (AP (AM 4294967296 (a % b))):=by
 have lb:=DR hbb
 have t1:=Cl (HF ha (show 699≤800 by omega))
 have t2:=Cl (HF hbb (show 699≤800 by omega))
 have ba:AZ a≤32*699:=CW.2 (by rw [← Xg];exact ha)
 have bbl:AZ b≤32*699:=CW.2 (by rw [← Xg];exact hbb)
 have ha7:=HF ha (show 699≤700 by omega)
 have hb7:4294967296 ^ 699*2 ^ 32≤4294967296 ^ 700:=by rw [show 4294967296 ^ 700=4294967296 ^ 699*4294967296 from Nat.pow_succ ..];exact Nat.mul_le_mul_left _ (by decide)
 obtain ⟨g1,g2⟩:=eW hb
 have ua:a<2 ^ AZ a:=CW.1 (Nat.le_refl _)
 have ub:b<2 ^ AZ b:=CW.1 (Nat.le_refl _)
 have p22:(2:Nat) ^ (32*699)<4294967296 ^ 700:=by rw [← Xg];exact Nat.pow_lt_pow_right (by omega) (by omega)
 unfold G114 T114
 simp only [t1,t2,De,BV,AH]
 clear t1 t2 ha hbb hb7
 have ew:IntKind.i64.wrap ((AZ a:Int)-AZ b)=(AZ a:Int)-AZ b:=As (by omega) (by omega)
 rw [ew]
 by_cases hlt:AZ a<AZ b
 ·rw [decide_eq_true (show (AZ a:Int)-AZ b<0 by omega),AH]
  have hab:a<b:=Nat.lt_of_lt_of_le ua (Nat.le_trans (Nat.pow_le_pow_right (by omega) (by omega)) g1)
  refine ⟨_,_,rfl,?_,?_⟩
  ·rw [Nat.div_eq_of_lt hab,BU]
   exact FLe.sl fun j hj=>by omega
  ·rw [Nat.mod_eq_of_lt hab];exact .refl _
 ·obtain ⟨N,hN⟩:∃ N,AZ a=AZ b+N:=⟨AZ a-AZ b,by omega⟩
  have eN:(AZ a:Int)-AZ b=(N:Int):=by omega
  have e1:IntKind.i64.wrap ((N:Int).tdiv 32)=((N / 32:Nat):Int):=by
   rw [show (N:Int).tdiv 32=((N / 32:Nat):Int) from rfl,As (by omega) (by omega)]
  have e2:IntKind.i64.wrap (((N / 32:Nat):Int)+1)=((N / 32+1:Nat):Int):=by rw [As (by omega) (by omega)];omega
  rw [decide_eq_false (show ¬ (AZ a:Int)-AZ b<0 by omega),AJ,eN,e1,e2,decide_eq_true (show (0:Int)≤((N / 32+1:Nat):Int) by omega),decide_eq_true (Int.le_refl _),decide_eq_true (Dp (show N / 32+1≤3000 by omega)),Int.toNat_natCast]
  simp only [AH]
  have hstart:a<b*2 ^ (N+1):=by
   refine Nat.lt_of_lt_of_le ua ?_
   rw [show AZ a=AZ b-1+(N+1) by omega,Nat.pow_add]
   exact Nat.mul_le_mul_right _ g1
  have hbN:b*2 ^ N<4294967296 ^ 700:=by
   refine Nat.lt_of_lt_of_le (Nat.mul_lt_mul_of_pos_right ub (Nat.two_pow_pos N)) ?_
   rw [← Nat.pow_add,← hN]
   exact Nat.le_of_lt (Nat.lt_of_le_of_lt (Nat.pow_le_pow_right (by omega) ba) p22)
  have hv0:val 4294967296 (List.replicate (N / 32+1) 0)=0:=L4 _ _
  have h:=PI hb ha7 hbN (by omega) (by omega) (N+1) 40000 a (List.replicate (N / 32+1) 0) (fun _=>F.int .u32 0) (Nat.le_refl _) (by omega) (by rw [hv0];exact DivInv.start hstart) (by simp) (fun w hw=>by have:=(List.mem_replicate.1 hw).2;omega) (fun j hj=>by simp only [List.getD,List.getElem?_replicate,if_pos hj];rfl)
  rw [show ((N+1:Nat):Int)-1=(N:Int) by omega] at h
  exact ⟨_,_,h,.refl _,.refl _⟩
def M5 (b:Nat):Bool:=!(Nat.beq b 0)
theorem HA {b:Nat}:M5 b=true ↔ 0<b:=by
 unfold M5
 cases hb:Nat.beq b 0 with
 | true=>have:=Nat.eq_of_beq_eq_true hb;simp;omega
 | false=>simp;exact Nat.pos_of_ne_zero fun e=>by subst e;cases hb
def We:List F→Bool | [x,y]=>C3 699 x&&C3 699 y&&M5 (val 4294967296 (AV y)) | _=>false
def gV:List F→F | [x,y]=>.tup [AP (AM 4294967296 (val 4294967296 (AV x) / val 4294967296 (AV y))),AP (AM 4294967296 (val 4294967296 (AV x) % val 4294967296 (AV y)))] | _=>.dflt
theorem okDivA:Ak Tryz.prog 114 We gV :=
 Ad (c:=AT Tryz.f114) Tryz.func114 (by kernel_rfl) (by kernel_rfl) fun xs hp=>match xs,hp with
 | [x,y],hp=>by
  simp only [We,Bool.and_eq_true] at hp
  obtain ⟨⟨hx,hy⟩,hd⟩:=hp
  obtain ⟨x1,x2,x3⟩:=HT hx
  obtain ⟨y1,y2,y3⟩:=HT hy
  obtain ⟨r1,r2,e,f1,f2⟩:=vQ (HA.1 hd) x2 y2
  rw [x3,y3] at e
  exact ⟨[AP (AV x),AP (AV y)],_,⟨(Bq x1).1,(Bq y1).1,trivial⟩,t114 40000 _ _ _ e,FLe.tup ⟨f1,f2,trivial⟩⟩
def envS4:Env:=((envS3.add 112 (.pure (Kp 800) CV)).add 94 (.pure (Kp 900) Ap)).add 114 (.pure We gV)
theorem La:Az Tryz.prog envS4:=(Env.add_ok (Env.add_ok (Env.add_ok IT okSubZ.sp) okMulZ.sp) okDivA.sp)
end
noncomputable section
/-! ### function 82 -/
def T82 {ρ:Type} (ret:(Int)→Option ρ) (x:Int) (y:Int):Option ρ :=
 (AD (Aq 400 (AF x)&&Aq 400 (AF y))
 (AD (Aq 400 (CL [AF x,AF y]))
 (ret ((AG (CL [AF x,AF y])).sign))
 none)
 none)
def G82 (x:Int) (y:Int):Option (Int):=T82 some x y
theorem t82 (x:Int) (y:Int) (r:Int) (h:G82 x y=some r):AX Tryz.prog Tryz.f82.results.toList [.code (AT Tryz.f82)] (start Tryz.f82.ntmps ([AF x,AF y].map .f)) (F.int .i64 r):=by
 refine AX.of_run Au R4 (T:=[]) (n:=200) ?_
 refine gE (Y:=T82 (fun r=>some (.ret (F.int .i64 r))) x y) (by kernel_rfl) ?_
 exact (gS h (fun _ h=>(gS h (fun _ h=>gR (by cases h;rfl)) gN)) gN)
theorem TV {x y:Int} {n:Nat} (hx:x.natAbs<18446744073709551616 ^ n) (hy:y.natAbs<18446744073709551616 ^ n):(x-y).natAbs<18446744073709551616 ^ (n+1):=by
 rw [Nat.pow_succ]
 generalize 18446744073709551616 ^ n=t at *
 omega
theorem cmp_law {x y:Int} (hx:x.natAbs<18446744073709551616 ^ 399) (hy:y.natAbs<18446744073709551616 ^ 399):G82 x y=some (x-y).sign:=by
 have p:18446744073709551616 ^ 399≤18446744073709551616 ^ 400:=Nat.pow_le_pow_right (by omega) (by omega)
 have hs:(x-y).natAbs<18446744073709551616 ^ 400:=TV hx hy
 unfold G82 T82
 simp only [B6 (Nat.lt_of_lt_of_le hx p),B6 (Nat.lt_of_lt_of_le hy p),B6 hs,B4,CL,Bool.and_self,AH]
def gZ:List F→F | [x,y]=>.int .i64 (AG x-AG y).sign | _=>.dflt
theorem okCmpN:Ak Tryz.prog 82 (Me 399) gZ :=
 Ad (c:=AT Tryz.f82) Tryz.func82 (by kernel_rfl) (by kernel_rfl) fun xs hp=>match xs,hp with
 | [x,y],hp=>by
  obtain ⟨hx,hy⟩:=MI hp
  exact ⟨[AF (AG x),AF (AG y)],_,⟨(D8 hx).1,(D8 hy).1,trivial⟩,t82 _ _ _ (cmp_law (BA hx) (BA hy)),.refl _⟩
def jB:Env:=jC.add 82 (.pure (Me 399) gZ)
theorem eF:Az Tryz.prog jB:=(Env.add_ok R4 okCmpN.sp)
end
noncomputable section
theorem CO {x y:Int} {n m:Nat} (hx:x.natAbs<18446744073709551616 ^ n) (hy:y.natAbs<18446744073709551616 ^ m):(x*y).natAbs<18446744073709551616 ^ (n+m):=by
 rw [Int.natAbs_mul,Nat.pow_add]
 exact Nat.mul_lt_mul_of_lt_of_le hx (Nat.le_of_lt hy) (Nat.pow_pos (by omega))
theorem Jp {x:Int} {n m:Nat} (h:x.natAbs<18446744073709551616 ^ n) (hn:n≤m):x.natAbs<18446744073709551616 ^ m:=Nat.lt_of_lt_of_le h (Nat.pow_le_pow_right (by omega) hn)
def Cm (u d:Int):Int:=(Nat.gcd u.natAbs d.natAbs:Nat)
theorem ZY {u d:Int} (h:0<d):0<Cm u d∧Cm u d≤d:=by
 have h1:=Nat.gcd_pos_of_pos_right u.natAbs (show 0<d.natAbs by omega)
 have h2:=Nat.gcd_le_right u.natAbs (show 0<d.natAbs by omega)
 unfold Cm
 omega
theorem mulb {a b:Int} (ha:-2000000≤a∧a≤2000000) (hb:-2000000≤b∧b≤2000000):-4000000000000≤a*b∧a*b≤4000000000000:=by
 have h:(a*b).natAbs≤2000000*2000000:=by rw [Int.natAbs_mul];exact Nat.mul_le_mul (by omega) (by omega)
 omega
theorem dotW {a b c d:Int} (ha:-2000000≤a∧a≤2000000) (hb:-2000000≤b∧b≤2000000) (hc:-2000000≤c∧c≤2000000) (hd:-2000000≤d∧d≤2000000) :
  IntKind.i64.wrap (IntKind.i64.wrap (a*b)+IntKind.i64.wrap (c*d))=a*b+c*d∧-8000000000000≤a*b+c*d∧a*b+c*d≤8000000000000:=by
 obtain ⟨h1,h2⟩:=mulb ha hb
 obtain ⟨h3,h4⟩:=mulb hc hd
 rw [As (x:=a*b) (by omega) (by omega),As (x:=c*d) (by omega) (by omega),As (by omega) (by omega)]
 omega
def BD (x y:Int):Prop:=-1000000≤x∧x≤1000000∧-1000000≤y∧y≤1000000
def AK (x0 y0 x1 y1 x2 y2:Int):Int:=(x1-x0)*(y2-y0)-(y1-y0)*(x2-x0)
theorem Ds {x0 y0 x1 y1 x2 y2:Int} (h0:BD x0 y0) (h1:BD x1 y1) (h2:BD x2 y2) :
  AE x0 y0 x1 y1 x2 y2=AK x0 y0 x1 y1 x2 y2∧-8000000000000≤AK x0 y0 x1 y1 x2 y2∧AK x0 y0 x1 y1 x2 y2≤8000000000000:=by
 unfold BD at h0 h1 h2
 unfold AE AK
 rw [As (x:=x1-x0) (by omega) (by omega),As (x:=y2-y0) (by omega) (by omega),As (x:=y1-y0) (by omega) (by omega),As (x:=x2-x0) (by omega) (by omega)]
 obtain ⟨h1,h2⟩:=mulb (a:=x1-x0) (b:=y2-y0) (by omega) (by omega)
 obtain ⟨h3,h4⟩:=mulb (a:=y1-y0) (b:=x2-x0) (by omega) (by omega)
 rw [As (x:=(x1-x0)*(y2-y0)) (by omega) (by omega),As (x:=(y1-y0)*(x2-x0)) (by omega) (by omega),As (by omega) (by omega)]
 omega
def uS:Env:=jB
theorem nB:Az Tryz.prog uS:=eF
end
noncomputable section
theorem B0 {x:Int} {n m:Nat} (h:x.natAbs<4294967296 ^ n) (hn:n≤m):x.natAbs<4294967296 ^ m:=Nat.lt_of_lt_of_le h (Nat.pow_le_pow_right (by omega) hn)
theorem Ic {x y:Int} {n:Nat} (hx:x.natAbs<4294967296 ^ n) (hy:y.natAbs<4294967296 ^ n):(x-y).natAbs<4294967296 ^ (n+1):=by
 rw [Nat.pow_succ]
 generalize 4294967296 ^ n=t at *
 omega
theorem CI {x y:Int} {n m:Nat} (hx:x.natAbs<4294967296 ^ n) (hy:y.natAbs<4294967296 ^ m):(x*y).natAbs<4294967296 ^ (n+m):=by
 rw [Int.natAbs_mul,Nat.pow_add]
 exact Nat.mul_lt_mul_of_lt_of_le hx (Nat.le_of_lt hy) (Nat.pow_pos (by omega))
/-! ### function 109 -/
def T109 {ρ:Type} (ret:(Int)→Option ρ) (x:Int) (y:Int):Option ρ :=
 (AD (Ao 800 (AQ x)&&Ao 800 (AQ y))
 (AD (Ao 900 (CV [AQ x,AQ y]))
 (ret ((AW (CV [AQ x,AQ y])).sign))
 none)
 none)
def G109 (x:Int) (y:Int):Option (Int):=T109 some x y
theorem t109 (x:Int) (y:Int) (r:Int) (h:G109 x y=some r):AX Tryz.prog Tryz.f109.results.toList [.code (AT Tryz.f109)] (start Tryz.f109.ntmps ([AQ x,AQ y].map .f)) (F.int .i64 r):=by
 refine AX.of_run Au La (T:=[]) (n:=200) ?_
 refine gE (Y:=T109 (fun r=>some (.ret (F.int .i64 r))) x y) (by kernel_rfl) ?_
 exact (gS h (fun _ h=>(gS h (fun _ h=>gR (by cases h;rfl)) gN)) gN)
theorem vU {x y:Int} (hx:x.natAbs<4294967296 ^ 800) (hy:y.natAbs<4294967296 ^ 800):G109 x y=some (x-y).sign:=by
 have hs:(x-y).natAbs<4294967296 ^ 900:=B0 (Ic hx hy) (by omega)
 unfold G109 T109
 simp only [CV,Bb,BC hx,BC hy,BC hs,Bool.and_self,AH]
def gW:List F→F | [x,y]=>.int .i64 (AW x-AW y).sign | _=>.dflt
theorem okCmpZ:Ak Tryz.prog 109 (Kp 800) gW :=
 Ad (c:=AT Tryz.f109) Tryz.func109 (by kernel_rfl) (by kernel_rfl) fun xs hp=>match xs,hp with
 | [x,y],hp=>by
  obtain ⟨hx,hy⟩:=JT hp
  exact ⟨[AQ (AW x),AQ (AW y)],_,⟨(DY hx).1,(DY hy).1,trivial⟩,t109 _ _ _ (vU (A7 hx) (A7 hy)),.refl _⟩
/-! ### function 110 -/
def T110 {ρ:Type} (ret:Kz ρ) (x:Int) (y:Int):Option ρ :=
 (AD (C3 699 (AP (AM 4294967296 x.natAbs))&&C3 699 (AP (AM 4294967296 y.natAbs))&&M5 (val 4294967296 (AV (AP (AM 4294967296 y.natAbs)))))
 (AD (A5 (AP (AM 4294967296 (val 4294967296 (AV (AP (AM 4294967296 x.natAbs))) / val 4294967296 (AV (AP (AM 4294967296 y.natAbs))))))&&BB 2000 (AP (AM 4294967296 (val 4294967296 (AV (AP (AM 4294967296 x.natAbs))) / val 4294967296 (AV (AP (AM 4294967296 y.natAbs)))))))
 (AD (A5 (AP (AM 4294967296 (val 4294967296 (AV (AP (AM 4294967296 x.natAbs))) % val 4294967296 (AV (AP (AM 4294967296 y.natAbs))))))&&BB 2000 (AP (AM 4294967296 (val 4294967296 (AV (AP (AM 4294967296 x.natAbs))) % val 4294967296 (AV (AP (AM 4294967296 y.natAbs)))))))
 (AD (decide (sgn (decide (x<0)) (val 4294967296 (AV (AP (AM 4294967296 (val 4294967296 (AV (AP (AM 4294967296 x.natAbs))) % val 4294967296 (AV (AP (AM 4294967296 y.natAbs))))))))<0))
 (AD (decide (y<0))
 (AD (Ao 800 (AQ (sgn (!decide (x<0)==decide (y<0)) (val 4294967296 (AV (AP (AM 4294967296 (val 4294967296 (AV (AP (AM 4294967296 x.natAbs))) / val 4294967296 (AV (AP (AM 4294967296 y.natAbs))))))))))&&true)
 (AD (Ao 800 (AQ (sgn (decide (x<0)) (val 4294967296 (AV (AP (AM 4294967296 (val 4294967296 (AV (AP (AM 4294967296 x.natAbs))) % val 4294967296 (AV (AP (AM 4294967296 y.natAbs))))))))))&&Ao 800 (AQ y))
 (ret (F.tup [AQ (AW (AQ (sgn (!decide (x<0)==decide (y<0)) (val 4294967296 (AV (AP (AM 4294967296 (val 4294967296 (AV (AP (AM 4294967296 x.natAbs))) / val 4294967296 (AV (AP (AM 4294967296 y.natAbs))))))))))+AW (A2 [F.int .i64 1])),AQ (AW (AQ (sgn (decide (x<0)) (val 4294967296 (AV (AP (AM 4294967296 (val 4294967296 (AV (AP (AM 4294967296 x.natAbs))) % val 4294967296 (AV (AP (AM 4294967296 y.natAbs))))))))))-AW (AQ y))]))
 none)
 none)
 (AD (Ao 800 (AQ (sgn (!decide (x<0)==decide (y<0)) (val 4294967296 (AV (AP (AM 4294967296 (val 4294967296 (AV (AP (AM 4294967296 x.natAbs))) / val 4294967296 (AV (AP (AM 4294967296 y.natAbs))))))))))&&true)
 (AD (Ao 800 (AQ (sgn (decide (x<0)) (val 4294967296 (AV (AP (AM 4294967296 (val 4294967296 (AV (AP (AM 4294967296 x.natAbs))) % val 4294967296 (AV (AP (AM 4294967296 y.natAbs))))))))))&&Ao 800 (AQ y))
 (ret (F.tup [AQ (AW (AQ (sgn (!decide (x<0)==decide (y<0)) (val 4294967296 (AV (AP (AM 4294967296 (val 4294967296 (AV (AP (AM 4294967296 x.natAbs))) / val 4294967296 (AV (AP (AM 4294967296 y.natAbs))))))))))-AW (A2 [F.int .i64 1])),AQ (AW (AQ (sgn (decide (x<0)) (val 4294967296 (AV (AP (AM 4294967296 (val 4294967296 (AV (AP (AM 4294967296 x.natAbs))) % val 4294967296 (AV (AP (AM 4294967296 y.natAbs))))))))))+AW (AQ y))]))
 none)
 none))
 (ret (F.tup [AQ (sgn (!decide (x<0)==decide (y<0)) (val 4294967296 (AV (AP (AM 4294967296 (val 4294967296 (AV (AP (AM 4294967296 x.natAbs))) / val 4294967296 (AV (AP (AM 4294967296 y.natAbs))))))))),AQ (sgn (decide (x<0)) (val 4294967296 (AV (AP (AM 4294967296 (val 4294967296 (AV (AP (AM 4294967296 x.natAbs))) % val 4294967296 (AV (AP (AM 4294967296 y.natAbs)))))))))])))
 none)
 none)
 none)
def G110 (x:Int) (y:Int):Option (F):=T110 some x y
theorem t110 (x:Int) (y:Int) (r:F) (h:G110 x y=some r):AX Tryz.prog Tryz.f110.results.toList [.code (AT Tryz.f110)] (start Tryz.f110.ntmps ([AQ x,AQ y].map .f)) (r):=by
 refine AX.of_run Au La (T:=[]) (n:=200) ?_
 refine gE (Y:=T110 (fun r=>some (.ret (r))) x y) (by kernel_rfl) ?_
 exact (gS h (fun _ h=>(gS h (fun _ h=>(gS h (fun _ h=>(gS h (fun _ h=>(gS h (fun _ h=>(gS h (fun _ h=>(gS h (fun _ h=>gR (by cases h;rfl)) gN)) gN)) (fun _ h=>(gS h (fun _ h=>(gS h (fun _ h=>gR (by cases h;rfl)) gN)) gN)))) (fun _ h=>gR (by cases h;rfl)))) gN)) gN)) gN)
theorem vO {x y:Int} (hy:y ≠ 0) (hx:x.natAbs<4294967296 ^ 699) (hyb:y.natAbs<4294967296 ^ 699):∃ a b,G110 x y=some (.tup [AQ a,AQ b])∧a=x / y∧b=x % y:=by
 have q1:x.natAbs / y.natAbs<4294967296 ^ 699:=Nat.lt_of_le_of_lt (Nat.div_le_self _ _) hx
 have q2:x.natAbs % y.natAbs<4294967296 ^ 699:=Nat.lt_of_le_of_lt (Nat.mod_le _ _) hx
 have q1':(x.tdiv y).natAbs<4294967296 ^ 800:=by rw [Int.natAbs_tdiv];exact HF q1 (by omega)
 have q2':(x.tmod y).natAbs<4294967296 ^ 800:=by rw [Int.natAbs_tmod];exact HF q2 (by omega)
 have d:M5 y.natAbs=true:=HA.2 (by omega)
 unfold G110 T110
 simp only [De,BV,Cl hx,Cl hyb,d,Ex,Dy q1 (show 699≤2000 by omega),Dy q2 (show 699≤2000 by omega),Bool.and_self,Bool.and_true,AH,fY x y hy,fX,BC (B0 hyb (show 699≤800 by omega)),BC q1',BC q2',A2,Bb]
 obtain ⟨f1,f2,f3⟩:=Yv (x:=x) hy
 by_cases hr:x.tmod y<0
 ·rw [decide_eq_true hr,AH]
  by_cases hn:y<0
  ·obtain ⟨g1,g2⟩:=f1 hr hn
   rw [decide_eq_true hn,AH]
   exact ⟨_,_,rfl,g1,by rw [← g2];omega⟩
  ·obtain ⟨g1,g2⟩:=f2 hr hn
   rw [decide_eq_false hn,AJ]
   exact ⟨_,_,rfl,g1,by rw [← g2];omega⟩
 ·obtain ⟨g1,g2⟩:=f3 hr
  rw [decide_eq_false hr,AJ]
  exact ⟨_,_,rfl,g1,g2⟩
def KH (y:Int):Bool:=M5 y.natAbs
def Wc:List F→Bool | [x,y]=>Ao 699 x&&Ao 699 y&&KH (AW y) | _=>false
def gT:List F→F | [x,y]=>.tup [AQ (AW x / AW y),AQ (AW x % AW y)] | _=>.dflt
theorem okDivZ:Ak Tryz.prog 110 Wc gT :=
 Ad (c:=AT Tryz.f110) Tryz.func110 (by kernel_rfl) (by kernel_rfl) fun xs hp=>match xs,hp with
 | [x,y],hp=>by
  simp only [Wc,Bool.and_eq_true] at hp
  obtain ⟨⟨hx,hy⟩,hd⟩:=hp
  have h0:=HA.1 hd
  obtain ⟨a,b,e,rfl,rfl⟩:=vO (x:=AW x) (y:=AW y) (by omega) (A7 hx) (A7 hy)
  exact ⟨[AQ (AW x),AQ (AW y)],_,⟨(DY hx).1,(DY hy).1,trivial⟩,t110 _ _ _ e,.refl _⟩
/-! ### function 108 -/
def fI (x:List Nat) (y:List Nat):St:=⟨Al 4 ((U.hp 0 0) :: (U.f (AP x)) :: (U.f (AP y)) :: Al 19 []),[HO.box [(U.f (F.bool false)),U.nils]]⟩
def fE {ρ:Type} (ret:Kz ρ) (c3:(List Nat)→(List Nat)→Option ρ) (x:List Nat) (y:List Nat):Option ρ :=
 (AD (decide ((↑y.length:Int) > 0))
 (AD (C3 699 (AP x)&&C3 699 (AP y)&&M5 (val 4294967296 (AV (AP y))))
 (c3 (y) (AM 4294967296 (val 4294967296 (AV (AP x)) % val 4294967296 (AV (AP y)))))
 none)
 (AD (A5 (AP x)&&BB 2000 (AP x))
 (ret (AQ (sgn false (val 4294967296 (AV (AP x))))))
 none))
def Sr:Nat→(List Nat)→(List Nat)→Option (F)
 | 0,_,_=>none
 | k+1,x,y=>fE some (Sr k) x y
def T108 {ρ:Type} (ret:Kz ρ) (c3:(List Nat)→(List Nat)→Option ρ) (x:Int) (y:Int):Option ρ :=
 (c3 (AM 4294967296 x.natAbs) (AM 4294967296 y.natAbs))
def G108 (k:Nat) (x:Int) (y:Int):Option (F):=T108 some (Sr k) x y
theorem pQ:∀ (k:Nat) (x:List Nat) (y:List Nat) (r:F),Sr k x y=some r→AX Tryz.prog Tryz.f108.results.toList (at_ Tryz.f108 3) (fI x y) (r)
 | 0,_,_,_,h=>nomatch h
 | k+1,x,y,r,h=>by
  refine AX.of_cut Au La (T:=[(3,[4,5,6],1000)]) (n:=200) ?_
  refine gE (Y:=fE (fun r=>some (.ret (r))) (fun x y=>some (.cut (at_ Tryz.f108 3) (fI x y))) x y) (by kernel_rfl) ?_
  exact (gS h (fun _ h=>(gS h (fun _ h=>gC (pQ k _ _ r h)) gN)) (fun _ h=>(gS h (fun _ h=>gR (by cases h;rfl)) gN)))
theorem t108 (k:Nat) (x:Int) (y:Int) (r:F) (h:G108 k x y=some r):AX Tryz.prog Tryz.f108.results.toList [.code (AT Tryz.f108)] (start Tryz.f108.ntmps ([AQ x,AQ y].map .f)) (r):=by
 refine AX.of_run Au La (T:=[(3,[4,5,6],1000)]) (n:=200) ?_
 refine gE (Y:=T108 (fun r=>some (.ret (r))) (fun x y=>some (.cut (at_ Tryz.f108 3) (fI x y))) x y) (by kernel_rfl) ?_
 exact gC (pQ k _ _ r h)
theorem mR:∀ (y x k:Nat),y<4294967296 ^ 699→x<4294967296 ^ 699→y+1≤k→Sr k (AM 4294967296 x) (AM 4294967296 y)=some (AQ ((Nat.gcd x y:Nat):Int)):=by
 intro y
 induction y using Nat.strongRecOn with
 | _ y ih =>
  intro x k hy hx hk
  obtain ⟨k,rfl⟩:∃ j,k=j+1:=⟨k-1,by omega⟩
  rw [Sr]
  unfold fE
  by_cases h0:y=0
  ·subst h0
   rw [BU,show decide (((([]:List Nat).length:Nat):Int) > 0)=false from rfl,AJ,Ex,Dy hx (show 699≤2000 by omega),De,BV,Nat.gcd_zero_right]
   rfl
  ·have hm:x % y<y:=Nat.mod_lt _ (by omega)
   rw [decide_eq_true (EJ.2 h0),AH,Cl hx,Cl hy]
   simp only [De,BV,HA.2 (show 0<y by omega),Bool.and_self,AH]
   rw [ih (x % y) hm y k (Nat.lt_trans hm hy) hy (by omega),← ZV]
def CD:List F→F | [x,y]=>AQ (Cm (AW x) (AW y)) | _=>.dflt
theorem okGcdZ:Ak Tryz.prog 108 (Kp 699) CD :=
 Ad (c:=AT Tryz.f108) Tryz.func108 (by kernel_rfl) (by kernel_rfl) fun xs hp=>match xs,hp with
 | [x,y],hp=>by
  obtain ⟨hx,hy⟩:=JT hp
  exact ⟨[AQ (AW x),AQ (AW y)],_,⟨(DY hx).1,(DY hy).1,trivial⟩,t108 ((AW y).natAbs+1) _ _ _ (mR _ _ _ (A7 hy) (A7 hx) (Nat.le_refl _)),.refl _⟩
def envS5:Env:=((envS4.add 109 (.pure (Kp 800) gW)).add 110 (.pure Wc gT)).add 108 (.pure (Kp 699) CD)
theorem uP:Az Tryz.prog envS5:=(Env.add_ok (Env.add_ok (Env.add_ok La okCmpZ.sp) okDivZ.sp) okGcdZ.sp)
end
noncomputable section
def envS6:Env:=envS5
theorem uO:Az Tryz.prog envS6:=uP
end
noncomputable section
structure NearOk (s:Int × Int × Int):Prop where
 idx:0≤s.1
 up0:0≤s.2.1
 up:s.2.1.natAbs<18446744073709551616 ^ 2
 down:0<s.2.2∧s.2.2≤8000000000000
def uR:Env:=uS
theorem nA:Az Tryz.prog uR:=nB
end
noncomputable section
def envS7:Env:=envS6
theorem uN:Az Tryz.prog envS7:=uO
end
noncomputable section
def envS8:Env:=envS7
theorem uM:Az Tryz.prog envS8:=uN
end
noncomputable section
def uQ:Env:=uR
theorem mZ:Az Tryz.prog uQ:=nA
end
noncomputable section
def uL:Env:=envS8.or uQ
theorem Ji:Az Tryz.prog uL:=(Env.or_ok uM mZ)
end
noncomputable section
def bH {α:Type} (enc:α→F) (d:α) (z:F) (l:List α) (i:Nat) (g:Nat→F):Prop:=∀ j,(j<i→g j=enc (l.getD j d))∧(i≤j→g j=z)
theorem bH.zero {α:Type} {enc:α→F} {d:α} {z:F} {l:List α}:bH enc d z l 0 (fun _=>z):=fun j=>⟨fun h=>by omega,fun _=>rfl⟩
theorem bH.set {α:Type} {enc:α→F} {d:α} {z:F} {l:List α} {i:Nat} {g:Nat→F} (h:bH enc d z l i g):bH enc d z l (i+1) (fun j=>if j=i then enc (l.getD i d) else g j):=fun j=>by
 by_cases e:j=i
 ·subst e;exact ⟨fun _=>by simp,fun h=>by omega⟩
 ·simp only [if_neg e];exact ⟨fun hj=>(h j).1 (by omega),fun hj=>(h j).2 (by omega)⟩
def envZ1:Env:=uL
theorem uG:Az Tryz.prog envZ1:=Ji
end
noncomputable section
def envZ2:Env:=envZ1
theorem uF:Az Tryz.prog envZ2:=uG
end
noncomputable section
def envZ3:Env:=envZ2
theorem uE:Az Tryz.prog envZ3:=uF
end
def BP (x0 y0 x1 y1:Int):Prop:=x0<x1 ∨ (x0=x1∧y0<y1)
def C8 (x0 y0 x1 y1:Int):Prop:=x0<x1 ∨ (x0=x1∧y0≤y1)
theorem col_vec {p q f g e h:Int} (hD:p ≠ 0 ∨ q ≠ 0) (ha:p*g=q*f) (hb:p*h=q*e):h*f=e*g:=by
 by_cases hp:p=0
 ·subst hp
  have hq:q ≠ 0:=by rcases hD with h | h;exact absurd rfl h;exact h
  have hf:f=0:=by
   have:q*f=0:=by rw [← ha,Int.zero_mul]
   rcases Int.mul_eq_zero.1 this with h | h
   ·exact absurd h hq
   ·exact h
  have he:e=0:=by
   have:q*e=0:=by rw [← hb,Int.zero_mul]
   rcases Int.mul_eq_zero.1 this with h | h
   ·exact absurd h hq
   ·exact h
  rw [hf,he,Int.mul_zero,Int.zero_mul]
 ·have:p*(h*f)=p*(e*g):=by grind
  exact Int.eq_of_mul_eq_mul_left hp this
theorem MV {x0 y0 x1 y1 u0 v0 u1 v1:Int} (hs:BP x0 y0 x1 y1) (ha:AK x0 y0 x1 y1 u0 v0=0) (hb:AK x0 y0 x1 y1 u1 v1=0):AK u0 v0 u1 v1 x0 y0=0∧AK u0 v0 u1 v1 x1 y1=0:=by
 unfold AK at *
 have hD:x1-x0 ≠ 0 ∨ y1-y0 ≠ 0:=by unfold BP at hs;omega
 have h1:(x1-x0)*(v0-y0)=(y1-y0)*(u0-x0):=by omega
 have h2:(x1-x0)*(v1-v0)=(y1-y0)*(u1-u0):=by grind
 have h3:=col_vec hD h1 h2
 constructor <;> grind
theorem QO {s0 s1 t0 t1 a b c d:Int} (ha:0≤a) (hb:0≤b) (hc:0≤c) (hd:0≤d) (hw:a+b=c+d) (h0:0<a+b) (he:t0*a+t1*b=s0*c+s1*d):¬ (s0<t0∧s0<t1∧s1<t0∧s1<t1):=by
 rintro ⟨h1,h2,h3,h4⟩
 have m:∃ m,s0≤m∧s1≤m∧m<t0∧m<t1:=by
  rcases Int.le_total s0 s1 with h | h
  ·exact ⟨s1,h,Int.le_refl _,h3,h4⟩
  ·exact ⟨s0,Int.le_refl _,h,h1,h2⟩
 obtain ⟨m,k1,k2,k3,k4⟩:=m
 have e1:(m+1)*a≤t0*a:=Int.mul_le_mul_of_nonneg_right (by omega) ha
 have e2:(m+1)*b≤t1*b:=Int.mul_le_mul_of_nonneg_right (by omega) hb
 have e3:s0*c≤m*c:=Int.mul_le_mul_of_nonneg_right k1 hc
 have e4:s1*d≤m*d:=Int.mul_le_mul_of_nonneg_right k2 hd
 have e5:(m+1)*a+(m+1)*b=(m+1)*(a+b):=by grind
 have e6:m*c+m*d=m*(a+b):=by rw [hw];grind
 have e7:(m+1)*(a+b)=m*(a+b)+(a+b):=by grind
 omega
def apart (a b:Int):Prop:=(a≤0∧0≤b) ∨ (0≤a∧b≤0)
theorem sep {s0 s1 t0 t1 a b c d:Int} (h1:apart a b) (h2:apart c d) (hn:¬ (a=0∧b=0)) (hw:a-b=d-c) (he:t1*a-t0*b=s0*d-s1*c) :
  ¬ (s0<t0∧s0<t1∧s1<t0∧s1<t1)∧¬ (t0<s0∧t0<s1∧t1<s0∧t1<s1):=by
 unfold apart at h1 h2
 rcases Int.lt_trichotomy (a-b) 0 with h | h | h
 ·have p1:0≤-a:=by omega
  have p2:0≤b:=by omega
  have p3:0≤c:=by omega
  have p4:0≤-d:=by omega
  exact ⟨QO (a:=b) (b:=-a) (c:=-d) (d:=c) p2 p1 p4 p3 (by omega) (by omega) (by rw [Int.mul_neg,Int.mul_neg];omega),
   fun ⟨k1,k2,k3,k4⟩=>QO (s0:=t0) (s1:=t1) (t0:=s0) (t1:=s1) (a:=-d) (b:=c) (c:=b) (d:=-a) p4 p3 p2 p1 (by omega) (by omega) (by rw [Int.mul_neg,Int.mul_neg];omega) ⟨k1,k2,k3,k4⟩⟩
 ·omega
 ·have p1:0≤a:=by omega
  have p2:0≤-b:=by omega
  have p3:0≤-c:=by omega
  have p4:0≤d:=by omega
  exact ⟨QO (a:=-b) (b:=a) (c:=d) (d:=-c) p2 p1 p4 p3 (by omega) (by omega) (by rw [Int.mul_neg,Int.mul_neg];omega),
   fun ⟨k1,k2,k3,k4⟩=>QO (s0:=t0) (s1:=t1) (t0:=s0) (t1:=s1) (a:=d) (b:=-c) (c:=-b) (d:=a) p4 p3 p2 p1 (by omega) (by omega) (by rw [Int.mul_neg,Int.mul_neg];omega) ⟨k1,k2,k3,k4⟩⟩
theorem between {p q f g:Int} (h:p*g=q*f) (h1:0<f ∨ (0=f∧0≤g)) (h2:f<p ∨ (f=p∧g≤q)):(0≤g∧g≤q) ∨ (q≤g∧g≤0):=by
 by_cases hp:p=0
 ·subst hp;omega
 ·have hp0:0<p:=by omega
  rcases Int.le_total 0 q with hq | hq
  ·left
   have a1:0≤q*f:=Int.mul_nonneg hq (by omega)
   have a2:q*f≤q*p:=Int.mul_le_mul_of_nonneg_left (by omega) hq
   constructor
   ·rcases Int.lt_or_le g 0 with hg | hg
    ·have:=Int.mul_neg_of_pos_of_neg hp0 hg;omega
    ·exact hg
   ·have:p*g≤p*q:=by rw [h,Int.mul_comm p q];exact a2
    exact Int.le_of_mul_le_mul_left this hp0
  ·right
   have a1:q*f≤0:=Int.mul_nonpos_of_nonpos_of_nonneg hq (by omega)
   have a2:q*p≤q*f:=Int.mul_le_mul_of_nonpos_left hq (by omega)
   constructor
   ·have:p*q≤p*g:=by rw [h,Int.mul_comm p q];exact a2
    exact Int.le_of_mul_le_mul_left this hp0
   ·rcases Int.lt_or_le 0 g with hg | hg
    ·have:=Int.mul_pos hp0 hg;omega
    ·exact hg
def Cr (x0 y0 x1 y1 u0 v0 u1 v1:Int):Prop :=
 (AK x0 y0 x1 y1 u0 v0=0∧AK x0 y0 x1 y1 u1 v1=0∧C8 u0 v0 x1 y1∧C8 x0 y0 u1 v1) ∨
 (¬ (AK x0 y0 x1 y1 u0 v0=0∧AK x0 y0 x1 y1 u1 v1=0)∧apart (AK x0 y0 x1 y1 u0 v0) (AK x0 y0 x1 y1 u1 v1)∧apart (AK u0 v0 u1 v1 x0 y0) (AK u0 v0 u1 v1 x1 y1))
theorem Rb {x0 y0 x1 y1 u0 v0 u1 v1:Int} (hs:BP x0 y0 x1 y1) (ht:BP u0 v0 u1 v1) (h:Cr x0 y0 x1 y1 u0 v0 u1 v1):Cr u0 v0 u1 v1 x0 y0 x1 y1:=by
 rcases h with ⟨h1,h2,h3,h4⟩ | ⟨h1,h2,h3⟩
 ·obtain ⟨k1,k2⟩:=MV hs h1 h2
  exact .inl ⟨k1,k2,h4,h3⟩
 ·exact .inr ⟨fun ⟨k1,k2⟩=>h1 (MV ht k1 k2),h3,h2⟩
theorem Y3 {x0 y0 x1 y1 p q:Int} (h:AK x0 y0 x1 y1 p q=0) (h1:C8 x0 y0 p q) (h2:C8 p q x1 y1):(y0≤q∧q≤y1) ∨ (y1≤q∧q≤y0):=by
 unfold AK at h
 unfold C8 at h1 h2
 have:=between (p:=x1-x0) (q:=y1-y0) (f:=p-x0) (g:=q-y0) (by omega) (by omega) (by omega)
 omega
theorem mF {x0 y0 x1 y1 u0 v0 u1 v1:Int} (hs:BP x0 y0 x1 y1) (ht:BP u0 v0 u1 v1) (h:Cr x0 y0 x1 y1 u0 v0 u1 v1) :
  (u0≤x1∧x0≤u1)∧¬ (y0<v0∧y0<v1∧y1<v0∧y1<v1)∧¬ (v0<y0∧v0<y1∧v1<y0∧v1<y1):=by
 rcases h with ⟨h1,h2,h3,h4⟩ | ⟨h1,h2,h3⟩
 ·obtain ⟨k1,k2⟩:=MV hs h1 h2
  have hx:u0≤x1∧x0≤u1:=by unfold C8 at h3 h4;omega
  refine ⟨hx,?_⟩
    -- the greater of the two beginnings lies on both
  by_cases hl:C8 x0 y0 u0 v0
  ·have:=Y3 h1 hl h3
   omega
  ·have hl':C8 u0 v0 x0 y0:=by unfold C8 at hl ⊢;omega
   have:=Y3 k1 hl' h4
   omega
 ·have hw:AK x0 y0 x1 y1 u0 v0-AK x0 y0 x1 y1 u1 v1=AK u0 v0 u1 v1 x1 y1-AK u0 v0 u1 v1 x0 y0:=by unfold AK;grind
  have ex:u1*AK x0 y0 x1 y1 u0 v0-u0*AK x0 y0 x1 y1 u1 v1=x0*AK u0 v0 u1 v1 x1 y1-x1*AK u0 v0 u1 v1 x0 y0:=by unfold AK;grind
  have ey:v1*AK x0 y0 x1 y1 u0 v0-v0*AK x0 y0 x1 y1 u1 v1=y0*AK u0 v0 u1 v1 x1 y1-y1*AK u0 v0 u1 v1 x0 y0:=by unfold AK;grind
  have sx:=sep h2 h3 h1 hw ex
  have sy:=sep h2 h3 h1 hw ey
  refine ⟨?_,sy⟩
  unfold BP at hs ht
  omega
def RT (x0 y0 x1 y1 p q:Int):Prop:=AK x0 y0 x1 y1 p q=0∧C8 x0 y0 p q∧C8 p q x1 y1
theorem aX {c d f g k:Int} (hf:0≤f) (hg:0≤g) (hp:0<f+g) (hc:(f+g)*c=f*k) (hd:(f+g)*d = -(g*k)):apart c d:=by
 unfold apart
 have sgn:∀ {z w:Int},(f+g)*z=w→(0≤w→0≤z)∧(w≤0→z≤0):=by
  intro z w h
  constructor
  ·intro hw
   rcases Int.lt_or_le z 0 with hz | hz
   ·have:=Int.mul_neg_of_pos_of_neg hp hz;omega
   ·exact hz
  ·intro hw
   rcases Int.lt_or_le 0 z with hz | hz
   ·have:=Int.mul_pos hp hz;omega
   ·exact hz
 rcases Int.le_total 0 k with hk | hk
 ·have a1:=Int.mul_nonneg hf hk
  have a2:=Int.mul_nonneg hg hk
  right
  exact ⟨(sgn hc).1 a1,(sgn hd).2 (by omega)⟩
 ·have a1:=Int.mul_nonpos_of_nonneg_of_nonpos hf hk
  have a2:=Int.mul_nonpos_of_nonneg_of_nonpos hg hk
  left
  exact ⟨(sgn hc).2 a1,(sgn hd).1 (by omega)⟩
theorem Y5 {x0 y0 x1 y1 p q e h:Int} (hs:BP x0 y0 x1 y1) (ho:RT x0 y0 x1 y1 p q):apart (e*(y0-q)-h*(x0-p)) (e*(y1-q)-h*(x1-p)):=by
 obtain ⟨h1,h2,h3⟩:=ho
 unfold AK at h1
 unfold C8 at h2 h3
 unfold BP at hs
 by_cases hx:x0=x1
 ·have e1:p=x0:=by omega
  subst e1;subst hx
  exact aX (f:=q-y0) (g:=y1-q) (k:=-(e*(y1-y0))) (by omega) (by omega) (by omega) (by grind) (by grind)
 ·exact aX (f:=p-x0) (g:=x1-p) (k:=h*(x1-x0)-e*(y1-y0)) (by omega) (by omega) (by omega) (by grind) (by grind)
theorem Y4 {x0 y0 x1 y1 u0 v0 u1 v1:Int} (hs:BP x0 y0 x1 y1) (ht:BP u0 v0 u1 v1) (h:RT x0 y0 x1 y1 u0 v0 ∨ RT x0 y0 x1 y1 u1 v1):Cr x0 y0 x1 y1 u0 v0 u1 v1:=by
 by_cases hc:AK x0 y0 x1 y1 u0 v0=0∧AK x0 y0 x1 y1 u1 v1=0
 ·left
  refine ⟨hc.1,hc.2,?_⟩
  unfold BP at hs ht
  unfold RT C8 at h
  unfold C8
  omega
 ·right
  refine ⟨hc,?_,?_⟩
  ·unfold apart
   rcases h with h | h
   ·have:=h.1;omega
   ·have:=h.1;omega
  ·rcases h with h | h
   ·have:=Y5 (e:=u1-u0) (h:=v1-v0) hs h
    exact this
   ·have:=Y5 (e:=u1-u0) (h:=v1-v0) hs h
    have e1:AK u0 v0 u1 v1 x0 y0=(u1-u0)*(y0-v1)-(v1-v0)*(x0-u1):=by unfold AK;grind
    have e2:AK u0 v0 u1 v1 x1 y1=(u1-u0)*(y1-v1)-(v1-v0)*(x1-u1):=by unfold AK;grind
    rw [e1,e2]
    exact this
noncomputable section
def BF (n:Nat):F→Bool | .agg [a,b,c,d,e,f]=>Ao n (.agg [a,b])&&(Ao n (.agg [c,d])&&Ao n (.agg [e,f])) | _=>false
def Bz:F→Int | .agg [a,b,_,_,_,_]=>AW (.agg [a,b]) | _=>0
def Bo:F→Int | .agg [_,_,a,b,_,_]=>AW (.agg [a,b]) | _=>0
def BZ:F→Int | .agg [_,_,_,_,a,b]=>AW (.agg [a,b]) | _=>0
theorem Hw (x y w:Int):Bz (Ai x y w)=x:=Bb x
theorem Hv (x y w:Int):Bo (Ai x y w)=y:=Bb y
theorem Hx (x y w:Int):BZ (Ai x y w)=w:=Bb w
theorem G2 {n:Nat} {x y w:Int} (hx:x.natAbs<4294967296 ^ n) (hy:y.natAbs<4294967296 ^ n) (hw:w.natAbs<4294967296 ^ n):BF n (Ai x y w)=true:=by
 have h1:=BC hx
 have h2:=BC hy
 have h3:=BC hw
 unfold AQ at h1 h2 h3
 simp only [BF,Ai,h1,h2,h3,Bool.and_self]
theorem DK {n:Nat} {x:F} (h:BF n x=true):FLe x (Ai (Bz x) (Bo x) (BZ x))∧FLe (Ai (Bz x) (Bo x) (BZ x)) x:=by
 unfold BF at h
 split at h
 ·rename_i a b c d e f
  rw [Bool.and_eq_true,Bool.and_eq_true] at h
  obtain ⟨s,y,e1,hy,f1⟩:=N4 h.1
  obtain ⟨t,z,e2,hz,f2⟩:=N4 h.2.1
  obtain ⟨r,o,e3,ho,f3⟩:=N4 h.2.2
  cases e1;cases e2;cases e3
  have g:Ai (Bz (.agg [.bool s,b,.bool t,d,.bool r,f])) (Bo (.agg [.bool s,b,.bool t,d,.bool r,f])) (BZ (.agg [.bool s,b,.bool t,d,.bool r,f]))=.agg [.bool s,AP (AV b),.bool t,AP (AV d),.bool r,AP (AV f)]:=by
   unfold AQ at f1 f2 f3
   injection f1 with f1
   injection f2 with f2
   injection f3 with f3
   simp only [List.cons.injEq,and_true] at f1 f2 f3
   show F.agg [_,_,_,_,_,_]=_
   rw [show Bz (.agg [.bool s,b,.bool t,d,.bool r,f])=AW (.agg [.bool s,b]) from rfl,show Bo (.agg [.bool s,b,.bool t,d,.bool r,f])=AW (.agg [.bool t,d]) from rfl,show BZ (.agg [.bool s,b,.bool t,d,.bool r,f])=AW (.agg [.bool r,f]) from rfl,f1.1,f1.2,f2.1,f2.2,f3.1,f3.2]
  rw [g]
  exact ⟨FLe.agg ⟨.refl _,(Bq hy).1,.refl _,(Bq hz).1,.refl _,(Bq ho).1,trivial⟩,FLe.agg ⟨.refl _,(Bq hy).2,.refl _,(Bq hz).2,.refl _,(Bq ho).2,trivial⟩⟩
 ·cases h
theorem DQ {n:Nat} {x:F} (h:BF n x=true):(Bz x).natAbs<4294967296 ^ n∧(Bo x).natAbs<4294967296 ^ n∧(BZ x).natAbs<4294967296 ^ n:=by
 unfold BF at h
 split at h
 ·rw [Bool.and_eq_true,Bool.and_eq_true] at h
  exact ⟨A7 h.1,A7 h.2.1,A7 h.2.2⟩
 ·cases h
/-! ### function 57 -/
def T57 {ρ:Type} (ret:Kz ρ) (x:Int) (y:Int):Option ρ :=
 (AD (Ae x)
 (AD (Ae y)
 (ret (Ai x y 1))
 none)
 none)
def G57 (x:Int) (y:Int):Option (F):=T57 some x y
theorem t57 (x:Int) (y:Int) (r:F) (h:G57 x y=some r):AX Tryz.prog Tryz.f57.results.toList [.code (AT Tryz.f57)] (start Tryz.f57.ntmps ([F.agg [F.int .i64 x,F.int .i64 y]].map .f)) (r):=by
 refine AX.of_run Au Ji (T:=[]) (n:=200) ?_
 refine gE (Y:=T57 (fun r=>some (.ret (r))) x y) (by kernel_rfl) ?_
 exact (gS h (fun _ h=>(gS h (fun _ h=>gR (by cases h;rfl)) gN)) gN)
def Bu:List F→F | [.agg [.int .i64 a,.int .i64 b]]=>Ai a b 1 | _=>.dflt
/-! ### function 115 -/
def T115 {ρ:Type} (ret:(Int)→Option ρ) (x:Int) (y:Int) (w:Int) (u:Int) (v:Int) (t:Int):Option ρ :=
 (AD (Ao 900 (AQ x)&&Ao 900 (AQ t))
 (AD (Ao 900 (AQ u)&&Ao 900 (AQ w))
 (AD (Ao 800 (Ap [AQ x,AQ t])&&Ao 800 (Ap [AQ u,AQ w]))
 (ret ((AW (Ap [AQ x,AQ t])-AW (Ap [AQ u,AQ w])).sign))
 none)
 none)
 none)
def G115 (x:Int) (y:Int) (w:Int) (u:Int) (v:Int) (t:Int):Option (Int):=T115 some x y w u v t
theorem t115 (x:Int) (y:Int) (w:Int) (u:Int) (v:Int) (t:Int) (r:Int) (h:G115 x y w u v t=some r):AX Tryz.prog Tryz.f115.results.toList [.code (AT Tryz.f115)] (start Tryz.f115.ntmps ([Ai x y w,Ai u v t].map .f)) (F.int .i64 r):=by
 refine AX.of_run Au Ji (T:=[]) (n:=200) ?_
 refine gE (Y:=T115 (fun r=>some (.ret (F.int .i64 r))) x y w u v t) (by kernel_rfl) ?_
 exact (gS h (fun _ h=>(gS h (fun _ h=>(gS h (fun _ h=>gR (by cases h;rfl)) gN)) gN)) gN)
/-! ### function 97 -/
def T97 {ρ:Type} (ret:(Int)→Option ρ) (x:Int) (y:Int) (w:Int) (u:Int) (v:Int) (t:Int):Option ρ :=
 (AD (Ao 900 (AQ y)&&Ao 900 (AQ t))
 (AD (Ao 900 (AQ v)&&Ao 900 (AQ w))
 (AD (Ao 800 (Ap [AQ y,AQ t])&&Ao 800 (Ap [AQ v,AQ w]))
 (ret ((AW (Ap [AQ y,AQ t])-AW (Ap [AQ v,AQ w])).sign))
 none)
 none)
 none)
def G97 (x:Int) (y:Int) (w:Int) (u:Int) (v:Int) (t:Int):Option (Int):=T97 some x y w u v t
theorem t97 (x:Int) (y:Int) (w:Int) (u:Int) (v:Int) (t:Int) (r:Int) (h:G97 x y w u v t=some r):AX Tryz.prog Tryz.f97.results.toList [.code (AT Tryz.f97)] (start Tryz.f97.ntmps ([Ai x y w,Ai u v t].map .f)) (F.int .i64 r):=by
 refine AX.of_run Au Ji (T:=[]) (n:=200) ?_
 refine gE (Y:=T97 (fun r=>some (.ret (F.int .i64 r))) x y w u v t) (by kernel_rfl) ?_
 exact (gS h (fun _ h=>(gS h (fun _ h=>(gS h (fun _ h=>gR (by cases h;rfl)) gN)) gN)) gN)
/-! ### function 98 -/
def T98 {ρ:Type} (ret:(Int)→Option ρ) (x:Int) (y:Int) (w:Int) (u:Int) (v:Int) (t:Int) (p:Int) (q:Int) (z:Int):Option ρ :=
 (AD (Ao 900 (AQ v)&&Ao 900 (AQ z))
 (AD (Ao 900 (AQ t)&&Ao 900 (AQ q))
 (AD (Ao 800 (Ap [AQ v,AQ z])&&Ao 800 (Ap [AQ t,AQ q]))
 (AD (Ao 900 (AQ x)&&Ao 900 (CV [Ap [AQ v,AQ z],Ap [AQ t,AQ q]]))
 (AD (Ao 900 (AQ u)&&Ao 900 (AQ z))
 (AD (Ao 900 (AQ t)&&Ao 900 (AQ p))
 (AD (Ao 800 (Ap [AQ u,AQ z])&&Ao 800 (Ap [AQ t,AQ p]))
 (AD (Ao 900 (AQ y)&&Ao 900 (CV [Ap [AQ u,AQ z],Ap [AQ t,AQ p]]))
 (AD (Ao 900 (AQ u)&&Ao 900 (AQ q))
 (AD (Ao 900 (AQ v)&&Ao 900 (AQ p))
 (AD (Ao 800 (Ap [AQ u,AQ q])&&Ao 800 (Ap [AQ v,AQ p]))
 (AD (Ao 900 (AQ w)&&Ao 900 (CV [Ap [AQ u,AQ q],Ap [AQ v,AQ p]]))
 (AD (Ao 800 (AQ (AW (AQ x)*AW (CV [Ap [AQ v,AQ z],Ap [AQ t,AQ q]])))&&Ao 800 (AQ (AW (AQ y)*AW (CV [Ap [AQ u,AQ z],Ap [AQ t,AQ p]]))))
 (AD (Ao 800 (CV [AQ (AW (AQ x)*AW (CV [Ap [AQ v,AQ z],Ap [AQ t,AQ q]])),AQ (AW (AQ y)*AW (CV [Ap [AQ u,AQ z],Ap [AQ t,AQ p]]))])&&Ao 800 (AQ (AW (AQ w)*AW (CV [Ap [AQ u,AQ q],Ap [AQ v,AQ p]]))))
 (AD (Ao 900 (No [CV [AQ (AW (AQ x)*AW (CV [Ap [AQ v,AQ z],Ap [AQ t,AQ q]])),AQ (AW (AQ y)*AW (CV [Ap [AQ u,AQ z],Ap [AQ t,AQ p]]))],AQ (AW (AQ w)*AW (CV [Ap [AQ u,AQ q],Ap [AQ v,AQ p]]))]))
 (ret ((AW (No [CV [AQ (AW (AQ x)*AW (CV [Ap [AQ v,AQ z],Ap [AQ t,AQ q]])),AQ (AW (AQ y)*AW (CV [Ap [AQ u,AQ z],Ap [AQ t,AQ p]]))],AQ (AW (AQ w)*AW (CV [Ap [AQ u,AQ q],Ap [AQ v,AQ p]]))])).sign))
 none)
 none)
 none)
 none)
 none)
 none)
 none)
 none)
 none)
 none)
 none)
 none)
 none)
 none)
 none)
def G98 (x:Int) (y:Int) (w:Int) (u:Int) (v:Int) (t:Int) (p:Int) (q:Int) (z:Int):Option (Int):=T98 some x y w u v t p q z
theorem t98 (x:Int) (y:Int) (w:Int) (u:Int) (v:Int) (t:Int) (p:Int) (q:Int) (z:Int) (r:Int) (h:G98 x y w u v t p q z=some r):AX Tryz.prog Tryz.f98.results.toList [.code (AT Tryz.f98)] (start Tryz.f98.ntmps ([Ai x y w,Ai u v t,Ai p q z].map .f)) (F.int .i64 r):=by
 refine AX.of_run Au Ji (T:=[]) (n:=200) ?_
 refine gE (Y:=T98 (fun r=>some (.ret (F.int .i64 r))) x y w u v t p q z) (by kernel_rfl) ?_
 exact (gS h (fun _ h=>(gS h (fun _ h=>(gS h (fun _ h=>(gS h (fun _ h=>(gS h (fun _ h=>(gS h (fun _ h=>(gS h (fun _ h=>(gS h (fun _ h=>(gS h (fun _ h=>(gS h (fun _ h=>(gS h (fun _ h=>(gS h (fun _ h=>(gS h (fun _ h=>(gS h (fun _ h=>(gS h (fun _ h=>gR (by cases h;rfl)) gN)) gN)) gN)) gN)) gN)) gN)) gN)) gN)) gN)) gN)) gN)) gN)) gN)) gN)) gN)
theorem SU {x y:Int} {n:Nat} (hx:x.natAbs<4294967296 ^ n) (hy:y.natAbs<4294967296 ^ n):(x+y).natAbs<4294967296 ^ (n+1):=by
 rw [Nat.pow_succ]
 generalize 4294967296 ^ n=m at *
 omega
theorem J6 (x y:Int):Ap [AQ x,AQ y]=AQ (x*y):=by
 show AQ (AW (AQ x)*AW (AQ y))=_
 rw [Bb,Bb]
theorem cD (x y:Int):CV [AQ x,AQ y]=AQ (x-y):=by
 show AQ (AW (AQ x)-AW (AQ y))=_
 rw [Bb,Bb]
theorem cF (x y:Int):No [AQ x,AQ y]=AQ (x+y):=by
 show AQ (AW (AQ x)+AW (AQ y))=_
 rw [Bb,Bb]
theorem dL {x y:Int} (hx:Ae x=true) (hy:Ae y=true):G57 x y=some (Ai x y 1):=by
 unfold G57 T57
 rw [hx,hy];rfl
def cM:List F→Bool | [.agg [.int .i64 a,.int .i64 b]]=>Ae a&&Ae b | _=>false
theorem okSpot3:Ak Tryz.prog 57 cM Bu :=
 B2 (c:=AT Tryz.f57) Tryz.func57 (by kernel_rfl) (by kernel_rfl) fun xs hp=>match xs,hp with
 | [.agg [.int .i64 a,.int .i64 b]],hp=>by
  simp only [cM,Bool.and_eq_true] at hp
  exact t57 a b _ (dL hp.1 hp.2)
theorem dO {x y w u v t:Int} (hx:x.natAbs<4294967296 ^ 100) (hw:w.natAbs<4294967296 ^ 100) (hu:u.natAbs<4294967296 ^ 100) (ht:t.natAbs<4294967296 ^ 100):G115 x y w u v t=some (x*t-u*w).sign:=by
 unfold G115 T115
 have up:∀ {x:Int},x.natAbs<4294967296 ^ 100→Ao 900 (AQ x)=true:=fun h=>BC (B0 h (by omega))
 have h1:Ao 800 (AQ (x*t))=true:=BC (B0 (CI hx ht) (by omega))
 have h2:Ao 800 (AQ (u*w))=true:=BC (B0 (CI hu hw) (by omega))
 simp only [up hx,up hw,up hu,up ht,J6,Bb,h1,h2,Bool.and_self,AH]
theorem dN {x y w u v t:Int} (hx:y.natAbs<4294967296 ^ 100) (hw:w.natAbs<4294967296 ^ 100) (hu:v.natAbs<4294967296 ^ 100) (ht:t.natAbs<4294967296 ^ 100):G97 x y w u v t=some (y*t-v*w).sign:=by
 unfold G97 T97
 have up:∀ {x:Int},x.natAbs<4294967296 ^ 100→Ao 900 (AQ x)=true:=fun h=>BC (B0 h (by omega))
 have h1:Ao 800 (AQ (y*t))=true:=BC (B0 (CI hx ht) (by omega))
 have h2:Ao 800 (AQ (v*w))=true:=BC (B0 (CI hu hw) (by omega))
 simp only [up hx,up hw,up hu,up ht,J6,Bb,h1,h2,Bool.and_self,AH]
def GU:List F→Bool | [x,y]=>BF 100 x&&BF 100 y | _=>false
def YW:List F→F | [x,y]=>.int .i64 (Bz x*BZ y-Bz y*BZ x).sign | _=>.dflt
def YV:List F→F | [x,y]=>.int .i64 (Bo x*BZ y-Bo y*BZ x).sign | _=>.dflt
theorem okCmpX3:Ak Tryz.prog 115 GU YW :=
 Ad (c:=AT Tryz.f115) Tryz.func115 (by kernel_rfl) (by kernel_rfl) fun xs hp=>match xs,hp with
 | [x,y],hp=>by
  simp only [GU,Bool.and_eq_true] at hp
  obtain ⟨h1,h2,h3⟩:=DQ hp.1
  obtain ⟨k1,k2,k3⟩:=DQ hp.2
  exact ⟨[Ai (Bz x) (Bo x) (BZ x),Ai (Bz y) (Bo y) (BZ y)],_,⟨(DK hp.1).1,(DK hp.2).1,trivial⟩,t115 _ _ _ _ _ _ _ (dO h1 h3 k1 k3),.refl _⟩
theorem okCmpY3:Ak Tryz.prog 97 GU YV :=
 Ad (c:=AT Tryz.f97) Tryz.func97 (by kernel_rfl) (by kernel_rfl) fun xs hp=>match xs,hp with
 | [x,y],hp=>by
  simp only [GU,Bool.and_eq_true] at hp
  obtain ⟨h1,h2,h3⟩:=DQ hp.1
  obtain ⟨k1,k2,k3⟩:=DQ hp.2
  exact ⟨[Ai (Bz x) (Bo x) (BZ x),Ai (Bz y) (Bo y) (BZ y)],_,⟨(DK hp.1).1,(DK hp.2).1,trivial⟩,t97 _ _ _ _ _ _ _ (dN h2 h3 k2 k3),.refl _⟩
def E7 (x y w u v t p q z:Int):Int:=x*(v*z-t*q)-y*(u*z-t*p)+w*(u*q-v*p)
theorem Wo {x y w u v t p q z:Int} (hx:x.natAbs<4294967296 ^ 100) (hy:y.natAbs<4294967296 ^ 100) (hw:w.natAbs<4294967296 ^ 100) (hu:u.natAbs<4294967296 ^ 100) (hv:v.natAbs<4294967296 ^ 100) (ht:t.natAbs<4294967296 ^ 100) (hp:p.natAbs<4294967296 ^ 100) (hq:q.natAbs<4294967296 ^ 100) (hz:z.natAbs<4294967296 ^ 100) :
  G98 x y w u v t p q z=some (E7 x y w u v t p q z).sign:=by
 unfold G98 T98
 have up:∀ {x:Int} {n:Nat},n≤800→x.natAbs<4294967296 ^ n→Ao 900 (AQ x)=true:=fun hn h=>BC (B0 h (by omega))
 have up8:∀ {x:Int} {n:Nat},n≤800→x.natAbs<4294967296 ^ n→Ao 800 (AQ x)=true:=fun hn h=>BC (B0 h hn)
 have m1:=CI hv hz
 have m2:=CI ht hq
 have m3:=CI hu hz
 have m4:=CI ht hp
 have m5:=CI hu hq
 have m6:=CI hv hp
 have s1:=Ic m1 m2
 have s2:=Ic m3 m4
 have s3:=Ic m5 m6
 have a1:=CI hx s1
 have a2:=CI hy s2
 have a3:=CI hw s3
 have d1:=Ic a1 a2
 have a3':=B0 a3 (show 100+(100+100+1)≤100+(100+100+1)+1 by omega)
 have d2:=SU d1 a3'
 simp only [J6,cD,cF,Bb]
 simp only [up (by omega) hx,up (by omega) hy,up (by omega) hw,up (by omega) hu,up (by omega) hv,up (by omega) ht,up (by omega) hp,up (by omega) hq,up (by omega) hz,
  up8 (by omega) m1,up8 (by omega) m2,up8 (by omega) m3,up8 (by omega) m4,up8 (by omega) m5,up8 (by omega) m6,up (by omega) s1,up (by omega) s2,up (by omega) s3,up8 (by omega) a1,up8 (by omega) a2,up8 (by omega) a3,up8 (by omega) d1,up (by omega) d2,Bool.and_self,AH]
 rfl
def D7:List F→Bool | [x,y,z]=>BF 100 x&&BF 100 y&&BF 100 z | _=>false
def Q7:List F→F | [x,y,z]=>.int .i64 (E7 (Bz x) (Bo x) (BZ x) (Bz y) (Bo y) (BZ y) (Bz z) (Bo z) (BZ z)).sign | _=>.dflt
theorem lV:Ak Tryz.prog 98 D7 Q7 :=
 Ad (c:=AT Tryz.f98) Tryz.func98 (by kernel_rfl) (by kernel_rfl) fun xs hp=>match xs,hp with
 | [x,y,z],hp=>by
  simp only [D7,Bool.and_eq_true] at hp
  obtain ⟨h1,h2,h3⟩:=DQ hp.1.1
  obtain ⟨k1,k2,k3⟩:=DQ hp.1.2
  obtain ⟨m1,m2,m3⟩:=DQ hp.2
  exact ⟨[Ai (Bz x) (Bo x) (BZ x),Ai (Bz y) (Bo y) (BZ y),Ai (Bz z) (Bo z) (BZ z)],_,⟨(DK hp.1.1).1,(DK hp.1.2).1,(DK hp.2).1,trivial⟩,t98 _ _ _ _ _ _ _ _ _ _ (Wo h1 h2 h3 k1 k2 k3 m1 m2 m3),.refl _⟩
def envH1:Env:=(((uL.add 57 (.pure cM Bu)).add 115 (.pure GU YW)).add 97 (.pure GU YV)).add 98 (.pure D7 Q7)
theorem SA:Az Tryz.prog envH1:=(Env.add_ok (Env.add_ok (Env.add_ok (Env.add_ok Ji okSpot3.sp) okCmpX3.sp) okCmpY3.sp) lV.sp)
end
noncomputable section
/-! ### function 111 -/
def T111 {ρ:Type} (ret:(Int)→Option ρ) (x:Int) (y:Int) (w:Int) (u:Int) (v:Int) (t:Int):Option ρ :=
 (AD (BF 100 (Ai x y w)&&BF 100 (Ai u v t))
 (AD ((Bz (Ai x y w)*BZ (Ai u v t)-Bz (Ai u v t)*BZ (Ai x y w)).sign != 0)
 (ret ((Bz (Ai x y w)*BZ (Ai u v t)-Bz (Ai u v t)*BZ (Ai x y w)).sign))
 (AD (BF 100 (Ai x y w)&&BF 100 (Ai u v t))
 (ret ((Bo (Ai x y w)*BZ (Ai u v t)-Bo (Ai u v t)*BZ (Ai x y w)).sign))
 none))
 none)
def G111 (x:Int) (y:Int) (w:Int) (u:Int) (v:Int) (t:Int):Option (Int):=T111 some x y w u v t
theorem t111 (x:Int) (y:Int) (w:Int) (u:Int) (v:Int) (t:Int) (r:Int) (h:G111 x y w u v t=some r):AX Tryz.prog Tryz.f111.results.toList [.code (AT Tryz.f111)] (start Tryz.f111.ntmps ([Ai x y w,Ai u v t].map .f)) (F.int .i64 r):=by
 refine AX.of_run Au SA (T:=[]) (n:=200) ?_
 refine gE (Y:=T111 (fun r=>some (.ret (F.int .i64 r))) x y w u v t) (by kernel_rfl) ?_
 exact (gS h (fun _ h=>(gS h (fun _ h=>gR (by cases h;rfl)) (fun _ h=>(gS h (fun _ h=>gR (by cases h;rfl)) gN)))) gN)
def CZ (x y w u v t:Int):Int:=bif (x*t-u*w).sign != 0 then (x*t-u*w).sign else (y*t-v*w).sign
theorem mL {x y w u v t:Int} (h1:BF 100 (Ai x y w)=true) (h2:BF 100 (Ai u v t)=true):G111 x y w u v t=some (CZ x y w u v t):=by
 unfold G111 T111 CZ
 simp only [h1,h2,Hw,Hv,Hx,Bool.and_self,AH]
 cases (x*t-u*w).sign != 0 <;> rfl
def YX:List F→F | [x,y]=>.int .i64 (CZ (Bz x) (Bo x) (BZ x) (Bz y) (Bo y) (BZ y)) | _=>.dflt
theorem Jb {n:Nat} {x:F} (h:BF n x=true):BF n (Ai (Bz x) (Bo x) (BZ x))=true:=by
 obtain ⟨h1,h2,h3⟩:=DQ h
 exact G2 h1 h2 h3
theorem okCmp3p:Ak Tryz.prog 111 GU YX :=
 Ad (c:=AT Tryz.f111) Tryz.func111 (by kernel_rfl) (by kernel_rfl) fun xs hp=>match xs,hp with
 | [x,y],hp=>by
  simp only [GU,Bool.and_eq_true] at hp
  exact ⟨[Ai (Bz x) (Bo x) (BZ x),Ai (Bz y) (Bo y) (BZ y)],_,⟨(DK hp.1).1,(DK hp.2).1,trivial⟩,t111 _ _ _ _ _ _ _ (mL (Jb hp.1) (Jb hp.2)),.refl _⟩
/-! ### function 95 -/
def T95 {ρ:Type} (ret:Kz ρ) (x:Int) (y:Int) (w:Int):Option ρ :=
 (AD (decide (w<0))
 (AD (Ao 800 (AQ x))
 (AD (Ao 800 (AQ y))
 (AD (Ao 800 (AQ w))
 (AD (Ao 699 (AQ (-AW (AQ x)))&&Ao 699 (AQ (-AW (AQ y))))
 (AD (Ao 699 (CD [AQ (-AW (AQ x)),AQ (-AW (AQ y))])&&Ao 699 (AQ (-AW (AQ w))))
 (AD (Ao 800 (AQ (Cm (AW (CD [AQ (-AW (AQ x)),AQ (-AW (AQ y))])) (AW (AQ (-AW (AQ w))))))&&true)
 (AD ((AW (AQ (Cm (AW (CD [AQ (-AW (AQ x)),AQ (-AW (AQ y))])) (AW (AQ (-AW (AQ w))))))-AW (A2 [F.int .i64 1])).sign != 0)
 (AD (Ao 699 (AQ (-AW (AQ x)))&&Ao 699 (AQ (Cm (AW (CD [AQ (-AW (AQ x)),AQ (-AW (AQ y))])) (AW (AQ (-AW (AQ w))))))&&KH (AW (AQ (Cm (AW (CD [AQ (-AW (AQ x)),AQ (-AW (AQ y))])) (AW (AQ (-AW (AQ w))))))))
 (AD (Ao 699 (AQ (-AW (AQ y)))&&Ao 699 (AQ (Cm (AW (CD [AQ (-AW (AQ x)),AQ (-AW (AQ y))])) (AW (AQ (-AW (AQ w))))))&&KH (AW (AQ (Cm (AW (CD [AQ (-AW (AQ x)),AQ (-AW (AQ y))])) (AW (AQ (-AW (AQ w))))))))
 (AD (Ao 699 (AQ (-AW (AQ w)))&&Ao 699 (AQ (Cm (AW (CD [AQ (-AW (AQ x)),AQ (-AW (AQ y))])) (AW (AQ (-AW (AQ w))))))&&KH (AW (AQ (Cm (AW (CD [AQ (-AW (AQ x)),AQ (-AW (AQ y))])) (AW (AQ (-AW (AQ w))))))))
 (ret (Ai (AW (AQ (-AW (AQ x))) / AW (AQ (Cm (AW (CD [AQ (-AW (AQ x)),AQ (-AW (AQ y))])) (AW (AQ (-AW (AQ w))))))) (AW (AQ (-AW (AQ y))) / AW (AQ (Cm (AW (CD [AQ (-AW (AQ x)),AQ (-AW (AQ y))])) (AW (AQ (-AW (AQ w))))))) (AW (AQ (-AW (AQ w))) / AW (AQ (Cm (AW (CD [AQ (-AW (AQ x)),AQ (-AW (AQ y))])) (AW (AQ (-AW (AQ w)))))))))
 none)
 none)
 none)
 (ret (Ai (-AW (AQ x)) (-AW (AQ y)) (-AW (AQ w)))))
 none)
 none)
 none)
 none)
 none)
 none)
 (AD (Ao 699 (AQ x)&&Ao 699 (AQ y))
 (AD (Ao 699 (CD [AQ x,AQ y])&&Ao 699 (AQ w))
 (AD (Ao 800 (AQ (Cm (AW (CD [AQ x,AQ y])) (AW (AQ w))))&&true)
 (AD ((AW (AQ (Cm (AW (CD [AQ x,AQ y])) (AW (AQ w))))-AW (A2 [F.int .i64 1])).sign != 0)
 (AD (Ao 699 (AQ x)&&Ao 699 (AQ (Cm (AW (CD [AQ x,AQ y])) (AW (AQ w))))&&KH (AW (AQ (Cm (AW (CD [AQ x,AQ y])) (AW (AQ w))))))
 (AD (Ao 699 (AQ y)&&Ao 699 (AQ (Cm (AW (CD [AQ x,AQ y])) (AW (AQ w))))&&KH (AW (AQ (Cm (AW (CD [AQ x,AQ y])) (AW (AQ w))))))
 (AD (Ao 699 (AQ w)&&Ao 699 (AQ (Cm (AW (CD [AQ x,AQ y])) (AW (AQ w))))&&KH (AW (AQ (Cm (AW (CD [AQ x,AQ y])) (AW (AQ w))))))
 (ret (Ai (AW (AQ x) / AW (AQ (Cm (AW (CD [AQ x,AQ y])) (AW (AQ w))))) (AW (AQ y) / AW (AQ (Cm (AW (CD [AQ x,AQ y])) (AW (AQ w))))) (AW (AQ w) / AW (AQ (Cm (AW (CD [AQ x,AQ y])) (AW (AQ w)))))))
 none)
 none)
 none)
 (ret (Ai x y w)))
 none)
 none)
 none))
def G95 (x:Int) (y:Int) (w:Int):Option (F):=T95 some x y w
theorem t95 (x:Int) (y:Int) (w:Int) (r:F) (h:G95 x y w=some r):AX Tryz.prog Tryz.f95.results.toList [.code (AT Tryz.f95)] (start Tryz.f95.ntmps ([AQ x,AQ y,AQ w].map .f)) (r):=by
 refine AX.of_run Au SA (T:=[]) (n:=200) ?_
 refine gE (Y:=T95 (fun r=>some (.ret (r))) x y w) (by kernel_rfl) ?_
 exact (gS h (fun _ h=>(gS h (fun _ h=>(gS h (fun _ h=>(gS h (fun _ h=>(gS h (fun _ h=>(gS h (fun _ h=>(gS h (fun _ h=>(gS h (fun _ h=>(gS h (fun _ h=>(gS h (fun _ h=>(gS h (fun _ h=>gR (by cases h;rfl)) gN)) gN)) gN)) (fun _ h=>gR (by cases h;rfl)))) gN)) gN)) gN)) gN)) gN)) gN)) (fun _ h=>(gS h (fun _ h=>(gS h (fun _ h=>(gS h (fun _ h=>(gS h (fun _ h=>(gS h (fun _ h=>(gS h (fun _ h=>(gS h (fun _ h=>gR (by cases h;rfl)) gN)) gN)) gN)) (fun _ h=>gR (by cases h;rfl)))) gN)) gN)) gN)))
theorem Rx {x y:Int} {m:Nat} (hx:x.natAbs<m) (hy:y.natAbs<m):(Cm x y).natAbs<m:=by
 unfold Cm
 rw [Int.natAbs_natCast]
 by_cases h:y.natAbs=0
 ·rw [h,Nat.gcd_zero_right];exact hx
 ·exact Nat.lt_of_le_of_lt (Nat.gcd_le_right x.natAbs (by omega)) hy
def g3 (x y w:Int):Int:=Cm (Cm x y) w
def sR (x y w:Int):Int:=if w<0 then -x / g3 (-x) (-y) (-w) else x / g3 x y w
def sQ (x y w:Int):Int:=if w<0 then -y / g3 (-x) (-y) (-w) else y / g3 x y w
def sS (x y w:Int):Int:=if w<0 then -w / g3 (-x) (-y) (-w) else w / g3 x y w
theorem cE (x y:Int):CD [AQ x,AQ y]=AQ (Cm x y):=by
 show AQ (Cm (AW (AQ x)) (AW (AQ y)))=_
 rw [Bb,Bb]
theorem dM {x y w:Int} (hw0:w ≠ 0) (hx:x.natAbs<4294967296 ^ 600) (hy:y.natAbs<4294967296 ^ 600) (hw:w.natAbs<4294967296 ^ 600) :
  G95 x y w=some (Ai (sR x y w) (sQ x y w) (sS x y w)):=by
 unfold sR sQ sS
 have key:∀ {g:Int},¬ (g-1).sign ≠ 0→∀ z:Int,z / g=z:=fun {g} h z=>by
  have h1:=Int.sign_eq_zero_iff_zero.1 (Classical.byContradiction h)
  obtain rfl:g=1:=by omega
  exact Int.ediv_one z
 unfold G95 T95
 simp only [cE,Bb]
 by_cases hn:w<0
 ·have gxy:=Rx (x:=-x) (y:=-y) (by rw [Int.natAbs_neg];exact hx) (by rw [Int.natAbs_neg];exact hy)
  obtain ⟨g1,g2⟩:=ZY (u:=Cm (-x) (-y)) (show 0 < -w by omega)
  have hg:(Cm (Cm (-x) (-y)) (-w)).natAbs<4294967296 ^ 600:=by omega
  have dz:KH (Cm (Cm (-x) (-y)) (-w))=true:=HA.2 (by omega)
  have nx:(-x).natAbs<4294967296 ^ 600:=by rw [Int.natAbs_neg];exact hx
  have ny:(-y).natAbs<4294967296 ^ 600:=by rw [Int.natAbs_neg];exact hy
  have nw:(-w).natAbs<4294967296 ^ 600:=by rw [Int.natAbs_neg];exact hw
  have i7:∀ {z:Int},z.natAbs<4294967296 ^ 600→Ao 699 (AQ z)=true:=fun h=>BC (B0 h (by omega))
  have i8:∀ {z:Int},z.natAbs<4294967296 ^ 600→Ao 800 (AQ z)=true:=fun h=>BC (B0 h (by omega))
  rw [decide_eq_true hn,if_pos hn,if_pos hn,if_pos hn]
  simp only [i8 hx,i8 hy,i8 hw,i7 nx,i7 ny,i7 nw,i7 gxy,i7 hg,i8 hg,dz,A2,Bb,Bool.and_self,AH]
  unfold g3
  by_cases h:(Cm (Cm (-x) (-y)) (-w)-1).sign ≠ 0
  ·rw [show ((Cm (Cm (-x) (-y)) (-w)-1).sign != 0)=true by simpa using h,AH]
  ·rw [show ((Cm (Cm (-x) (-y)) (-w)-1).sign != 0)=false by simpa using h,AJ,key h,key h,key h]
 ·have gxy:=Rx hx hy
  obtain ⟨g1,g2⟩:=ZY (u:=Cm x y) (show 0<w by omega)
  have hg:(Cm (Cm x y) w).natAbs<4294967296 ^ 600:=by omega
  have dz:KH (Cm (Cm x y) w)=true:=HA.2 (by omega)
  have i7:∀ {z:Int},z.natAbs<4294967296 ^ 600→Ao 699 (AQ z)=true:=fun h=>BC (B0 h (by omega))
  have i8:∀ {z:Int},z.natAbs<4294967296 ^ 600→Ao 800 (AQ z)=true:=fun h=>BC (B0 h (by omega))
  rw [decide_eq_false hn,if_neg hn,if_neg hn,if_neg hn]
  simp only [i8 hx,i8 hy,i8 hw,i7 hx,i7 hy,i7 hw,i7 gxy,i7 hg,i8 hg,dz,A2,Bb,Bool.and_self,AH,AJ]
  unfold g3
  by_cases h:(Cm (Cm x y) w-1).sign ≠ 0
  ·rw [show ((Cm (Cm x y) w-1).sign != 0)=true by simpa using h,AH]
  ·rw [show ((Cm (Cm x y) w-1).sign != 0)=false by simpa using h,AJ,key h,key h,key h]
def O8 (w:Int):Bool:=!(w==0)
def Oy:List F→Bool | [x,y,w]=>Ao 600 x&&Ao 600 y&&Ao 600 w&&O8 (AW w) | _=>false
def Tm:List F→F | [x,y,w]=>Ai (sR (AW x) (AW y) (AW w)) (sQ (AW x) (AW y) (AW w)) (sS (AW x) (AW y) (AW w)) | _=>.dflt
theorem rV:Ak Tryz.prog 95 Oy Tm :=
 Ad (c:=AT Tryz.f95) Tryz.func95 (by kernel_rfl) (by kernel_rfl) fun xs hp=>match xs,hp with
 | [x,y,w],hp=>by
  simp only [Oy,O8,Bool.and_eq_true,Bool.not_eq_true',beq_eq_false_iff_ne,ne_eq] at hp
  obtain ⟨⟨⟨h1,h2⟩,h3⟩,h4⟩:=hp
  exact ⟨[AQ (AW x),AQ (AW y),AQ (AW w)],_,⟨(DY h1).1,(DY h2).1,(DY h3).1,trivial⟩,t95 _ _ _ _ (dM h4 (A7 h1) (A7 h2) (A7 h3)),.refl _⟩
def envH2:Env:=(envH1.add 111 (.pure GU YX)).add 95 (.pure Oy Tm)
theorem Zx:Az Tryz.prog envH2:=(Env.add_ok (Env.add_ok SA okCmp3p.sp) rV.sp)
end
noncomputable section
/-! ### function 96 -/
def T96 {ρ:Type} (ret:(Bool)→Option ρ) (x:Int) (y:Int) (w:Int) (u:Int) (v:Int) (t:Int) (p:Int) (q:Int) (z:Int):Option ρ :=
 (AD (BF 100 (Ai x y w)&&BF 100 (Ai u v t))
 (AD (decide (CZ (Bz (Ai x y w)) (Bo (Ai x y w)) (BZ (Ai x y w)) (Bz (Ai u v t)) (Bo (Ai u v t)) (BZ (Ai u v t)) > 0))
 (AD (BF 100 (Ai u v t)&&BF 100 (Ai p q z))
 (AD (decide (CZ (Bz (Ai u v t)) (Bo (Ai u v t)) (BZ (Ai u v t)) (Bz (Ai p q z)) (Bo (Ai p q z)) (BZ (Ai p q z))≤0)==true)
 (AD (BF 100 (Ai p q z)&&BF 100 (Ai x y w))
 (AD (decide (CZ (Bz (Ai p q z)) (Bo (Ai p q z)) (BZ (Ai p q z)) (Bz (Ai x y w)) (Bo (Ai x y w)) (BZ (Ai x y w))≤0)==true)
 (AD (BF 100 (Ai u v t)&&BF 100 (Ai x y w)&&BF 100 (Ai p q z))
 (ret ((E7 (Bz (Ai u v t)) (Bo (Ai u v t)) (BZ (Ai u v t)) (Bz (Ai x y w)) (Bo (Ai x y w)) (BZ (Ai x y w)) (Bz (Ai p q z)) (Bo (Ai p q z)) (BZ (Ai p q z))).sign==0))
 none)
 (ret (false)))
 none)
 (ret (false)))
 none)
 (AD (BF 100 (Ai x y w)&&BF 100 (Ai p q z))
 (AD (decide (CZ (Bz (Ai x y w)) (Bo (Ai x y w)) (BZ (Ai x y w)) (Bz (Ai p q z)) (Bo (Ai p q z)) (BZ (Ai p q z))≤0)==true)
 (AD (BF 100 (Ai p q z)&&BF 100 (Ai u v t))
 (AD (decide (CZ (Bz (Ai p q z)) (Bo (Ai p q z)) (BZ (Ai p q z)) (Bz (Ai u v t)) (Bo (Ai u v t)) (BZ (Ai u v t))≤0)==true)
 (AD (BF 100 (Ai x y w)&&BF 100 (Ai u v t)&&BF 100 (Ai p q z))
 (ret ((E7 (Bz (Ai x y w)) (Bo (Ai x y w)) (BZ (Ai x y w)) (Bz (Ai u v t)) (Bo (Ai u v t)) (BZ (Ai u v t)) (Bz (Ai p q z)) (Bo (Ai p q z)) (BZ (Ai p q z))).sign==0))
 none)
 (ret (false)))
 none)
 (ret (false)))
 none))
 none)
def G96 (x:Int) (y:Int) (w:Int) (u:Int) (v:Int) (t:Int) (p:Int) (q:Int) (z:Int):Option (Bool):=T96 some x y w u v t p q z
theorem t96 (x:Int) (y:Int) (w:Int) (u:Int) (v:Int) (t:Int) (p:Int) (q:Int) (z:Int) (r:Bool) (h:G96 x y w u v t p q z=some r):AX Tryz.prog Tryz.f96.results.toList [.code (AT Tryz.f96)] (start Tryz.f96.ntmps ([Ai x y w,Ai u v t,Ai p q z].map .f)) (F.bool r):=by
 refine AX.of_run Au Zx (T:=[]) (n:=200) ?_
 refine gE (Y:=T96 (fun r=>some (.ret (F.bool r))) x y w u v t p q z) (by kernel_rfl) ?_
 exact (gS h (fun _ h=>(gS h (fun _ h=>(gS h (fun _ h=>(gS h (fun _ h=>(gS h (fun _ h=>(gS h (fun _ h=>(gS h (fun _ h=>gR (by cases h;rfl)) gN)) (fun _ h=>gR (by cases h;rfl)))) gN)) (fun _ h=>gR (by cases h;rfl)))) gN)) (fun _ h=>(gS h (fun _ h=>(gS h (fun _ h=>(gS h (fun _ h=>(gS h (fun _ h=>(gS h (fun _ h=>gR (by cases h;rfl)) gN)) (fun _ h=>gR (by cases h;rfl)))) gN)) (fun _ h=>gR (by cases h;rfl)))) gN)))) gN)
def on3V (x y w u v t p q z:Int):Bool:=decide (CZ x y w p q z≤0)&&(decide (CZ p q z u v t≤0)&&((E7 x y w u v t p q z).sign==0))
def QJ (x y w u v t p q z:Int):Bool:=bif decide (CZ x y w u v t > 0) then on3V u v t x y w p q z else on3V x y w u v t p q z
theorem aT {x y w u v t p q z:Int} (h1:BF 100 (Ai x y w)=true) (h2:BF 100 (Ai u v t)=true) (h3:BF 100 (Ai p q z)=true):G96 x y w u v t p q z=some (QJ x y w u v t p q z):=by
 unfold G96 T96 QJ on3V
 simp only [h1,h2,h3,Hw,Hv,Hx,Bool.and_self,AH]
 cases decide (CZ x y w u v t > 0)
 ·cases decide (CZ x y w p q z≤0) <;> cases decide (CZ p q z u v t≤0) <;> rfl
 ·cases decide (CZ u v t p q z≤0) <;> cases decide (CZ p q z x y w≤0) <;> rfl
def Q9:List F→F | [x,y,z]=>.bool (QJ (Bz x) (Bo x) (BZ x) (Bz y) (Bo y) (BZ y) (Bz z) (Bo z) (BZ z)) | _=>.dflt
theorem lW:Ak Tryz.prog 96 D7 Q9 :=
 Ad (c:=AT Tryz.f96) Tryz.func96 (by kernel_rfl) (by kernel_rfl) fun xs hp=>match xs,hp with
 | [x,y,z],hp=>by
  simp only [D7,Bool.and_eq_true] at hp
  exact ⟨[Ai (Bz x) (Bo x) (BZ x),Ai (Bz y) (Bo y) (BZ y),Ai (Bz z) (Bo z) (BZ z)],_,⟨(DK hp.1.1).1,(DK hp.1.2).1,(DK hp.2).1,trivial⟩,t96 _ _ _ _ _ _ _ _ _ _ (aT (Jb hp.1.1) (Jb hp.1.2) (Jb hp.2)),.refl _⟩
def envH3:Env:=envH2.add 96 (.pure D7 Q9)
theorem Zw:Az Tryz.prog envH3:=(Env.add_ok Zx lW.sp)
end
noncomputable section
/-! ### function 76 -/
def T76 {ρ:Type} (ret:(Bool)→Option ρ) (s:Sg) (x:Int) (y:Int) (w:Int):Option ρ :=
 (AD (Ae s.x0&&Ae s.y0)
 (AD (Ae s.x1&&Ae s.y1)
 (AD (BF 100 (Bu [F.agg [F.int .i64 s.x0,F.int .i64 s.y0]])&&BF 100 (Bu [F.agg [F.int .i64 s.x1,F.int .i64 s.y1]])&&BF 100 (Ai x y w))
 (ret (QJ (Bz (Bu [F.agg [F.int .i64 s.x0,F.int .i64 s.y0]])) (Bo (Bu [F.agg [F.int .i64 s.x0,F.int .i64 s.y0]])) (BZ (Bu [F.agg [F.int .i64 s.x0,F.int .i64 s.y0]])) (Bz (Bu [F.agg [F.int .i64 s.x1,F.int .i64 s.y1]])) (Bo (Bu [F.agg [F.int .i64 s.x1,F.int .i64 s.y1]])) (BZ (Bu [F.agg [F.int .i64 s.x1,F.int .i64 s.y1]])) (Bz (Ai x y w)) (Bo (Ai x y w)) (BZ (Ai x y w))))
 none)
 none)
 none)
def G76 (s:Sg) (x:Int) (y:Int) (w:Int):Option (Bool):=T76 some s x y w
theorem t76 (s:Sg) (x:Int) (y:Int) (w:Int) (r:Bool) (h:G76 s x y w=some r):AX Tryz.prog Tryz.f76.results.toList [.code (AT Tryz.f76)] (start Tryz.f76.ntmps ([sgF s,Ai x y w].map .f)) (F.bool r):=by
 refine AX.of_run Au Zw (T:=[]) (n:=200) ?_
 refine gE (Y:=T76 (fun r=>some (.ret (F.bool r))) s x y w) (by kernel_rfl) ?_
 exact (gS h (fun _ h=>(gS h (fun _ h=>(gS h (fun _ h=>gR (by cases h;rfl)) gN)) gN)) gN)
theorem Ja {x y w:Int} (hx:Ae x=true) (hy:Ae y=true) (hw:Ae w=true):BF 100 (Ai x y w)=true:=by
 have b:∀ {z:Int},Ae z=true→z.natAbs<4294967296 ^ 100:=fun h=>B0 (n:=2) (by have:=Bd.1 h;omega) (by omega)
 exact G2 (b hx) (b hy) (b hw)
theorem tD {s:Sg} {x y w:Int} (h0:Ae s.x0=true) (h1:Ae s.y0=true) (h2:Ae s.x1=true) (h3:Ae s.y1=true) (hp:BF 100 (Ai x y w)=true):G76 s x y w=some (QJ s.x0 s.y0 1 s.x1 s.y1 1 x y w):=by
 have r:∀ a b:Int,Bu [F.agg [F.int .i64 a,F.int .i64 b]]=Ai a b 1:=fun _ _=>rfl
 have one:Ae 1=true:=by decide
 unfold G76 T76
 simp only [r,h0,h1,h2,h3,hp,Ja h0 h1 one,Ja h2 h3 one,Hw,Hv,Hx,Bool.and_self,AH]
def rD:List F→Bool | [.agg [.int .i64 a,.int .i64 b,.int .i64 c,.int .i64 d],p]=>Ae a&&Ae b&&(Ae c&&Ae d)&&BF 100 p | _=>false
def resOn:List F→F | [.agg [.int .i64 a,.int .i64 b,.int .i64 c,.int .i64 d],p]=>.bool (QJ a b 1 c d 1 (Bz p) (Bo p) (BZ p)) | _=>.dflt
theorem okOn:Ak Tryz.prog 76 rD resOn :=
 Ad (c:=AT Tryz.f76) Tryz.func76 (by kernel_rfl) (by kernel_rfl) fun xs hp=>match xs,hp with
 | [.agg [.int .i64 a,.int .i64 b,.int .i64 c,.int .i64 d],p],hp=>by
  simp only [rD,Bool.and_eq_true] at hp
  obtain ⟨⟨⟨h0,h1⟩,h2,h3⟩,h4⟩:=hp
  exact ⟨[sgF ⟨a,b,c,d⟩,Ai (Bz p) (Bo p) (BZ p)],_,⟨.refl _,(DK h4).1,trivial⟩,t76 _ _ _ _ _ (tD (s:=⟨a,b,c,d⟩) h0 h1 h2 h3 (Jb h4)),.refl _⟩
def vE:Env:=envH3.add 76 (.pure rD resOn)
theorem Vc:Az Tryz.prog vE:=(Env.add_ok Zw okOn.sp)
end
theorem Lp (x y u v:Int):(CZ x y 1 u v 1≤0 ↔ C8 x y u v)∧(CZ x y 1 u v 1 > 0 ↔ BP u v x y):=by
 unfold CZ C8 BP
 rw [Int.mul_one,Int.mul_one,Int.mul_one,Int.mul_one]
 rcases Int.lt_trichotomy (x-u) 0 with h | h | h
 ·rw [Int.sign_eq_neg_one_of_neg h,show ((-1:Int) != 0)=true from rfl,cond_true]
  omega
 ·rw [h,show ((Int.sign 0) != 0)=false from rfl,cond_false]
  rcases Int.lt_trichotomy (y-v) 0 with k | k | k
  ·rw [Int.sign_eq_neg_one_of_neg k];omega
  ·rw [k,show Int.sign 0=0 from rfl];omega
  ·rw [Int.sign_eq_one_of_pos k];omega
 ·rw [Int.sign_eq_one_of_pos h,show ((1:Int) != 0)=true from rfl,cond_true]
  omega
theorem cR (x y u v p q:Int):E7 x y 1 u v 1 p q 1=AK x y u v p q:=by
 unfold E7 AK
 grind
theorem btw_on {x0 y0 x1 y1 p q:Int} (hs:BP x0 y0 x1 y1):QJ x0 y0 1 x1 y1 1 p q 1=true ↔ RT x0 y0 x1 y1 p q:=by
 have h0:¬ CZ x0 y0 1 x1 y1 1 > 0:=by
  rw [(Lp x0 y0 x1 y1).2]
  unfold BP at *
  omega
 unfold QJ on3V RT
 rw [decide_eq_false h0,cond_false,cR,Bool.and_eq_true,Bool.and_eq_true,decide_eq_true_eq,decide_eq_true_eq,(Lp _ _ _ _).1,(Lp _ _ _ _).1,beq_iff_eq,Int.sign_eq_zero_iff_zero]
 exact ⟨fun ⟨a,b,c⟩=>⟨c,a,b⟩,fun ⟨c,a,b⟩=>⟨a,b,c⟩⟩
noncomputable section
set_option maxHeartbeats 1000000
/-! ### function 74 -/
def T74 {ρ:Type} (ret:Kz ρ) (x0:Int) (y0:Int) (x1:Int) (y1:Int) (u0:Int) (v0:Int) (u1:Int) (v1:Int):Option ρ :=
 (AD ((IB x0 y0 x1 y1 u0 v0==0)==true)
 (AD (IB x0 y0 x1 y1 u1 v1==0)
 (AD (DX x0 y0 u0 v0)
 (AD (DX u1 v1 x1 y1)
 (AD (DX u1 v1 u0 v0)
 (ret (F.tup [F.int .i64 0,F.agg [F.bool false,F.sl 0 fun x ↦ F.bool false,F.bool false,F.sl 0 fun x ↦ F.bool false,F.bool false,F.sl 0 fun x ↦ F.bool false],F.agg [F.bool false,F.sl 0 fun x ↦ F.bool false,F.bool false,F.sl 0 fun x ↦ F.bool false,F.bool false,F.sl 0 fun x ↦ F.bool false]]))
 (AD (u0==u1&&(v0==v1&&true))
 (AD (Ae u0&&Ae v0)
 (ret (F.tup [F.int .i64 1,Ai u0 v0 1,F.agg [F.bool false,F.sl 0 fun x ↦ F.bool false,F.bool false,F.sl 0 fun x ↦ F.bool false,F.bool false,F.sl 0 fun x ↦ F.bool false]]))
 none)
 (AD (Ae u0&&Ae v0)
 (AD (Ae u1&&Ae v1)
 (ret (F.tup [F.int .i64 2,Ai u0 v0 1,Ai u1 v1 1]))
 none)
 none)))
 (AD (DX x1 y1 u0 v0)
 (ret (F.tup [F.int .i64 0,F.agg [F.bool false,F.sl 0 fun x ↦ F.bool false,F.bool false,F.sl 0 fun x ↦ F.bool false,F.bool false,F.sl 0 fun x ↦ F.bool false],F.agg [F.bool false,F.sl 0 fun x ↦ F.bool false,F.bool false,F.sl 0 fun x ↦ F.bool false,F.bool false,F.sl 0 fun x ↦ F.bool false]]))
 (AD (u0==x1&&(v0==y1&&true))
 (AD (Ae u0&&Ae v0)
 (ret (F.tup [F.int .i64 1,Ai u0 v0 1,F.agg [F.bool false,F.sl 0 fun x ↦ F.bool false,F.bool false,F.sl 0 fun x ↦ F.bool false,F.bool false,F.sl 0 fun x ↦ F.bool false]]))
 none)
 (AD (Ae u0&&Ae v0)
 (AD (Ae x1&&Ae y1)
 (ret (F.tup [F.int .i64 2,Ai u0 v0 1,Ai x1 y1 1]))
 none)
 none))))
 (AD (DX u1 v1 x1 y1)
 (AD (DX u1 v1 x0 y0)
 (ret (F.tup [F.int .i64 0,F.agg [F.bool false,F.sl 0 fun x ↦ F.bool false,F.bool false,F.sl 0 fun x ↦ F.bool false,F.bool false,F.sl 0 fun x ↦ F.bool false],F.agg [F.bool false,F.sl 0 fun x ↦ F.bool false,F.bool false,F.sl 0 fun x ↦ F.bool false,F.bool false,F.sl 0 fun x ↦ F.bool false]]))
 (AD (x0==u1&&(y0==v1&&true))
 (AD (Ae x0&&Ae y0)
 (ret (F.tup [F.int .i64 1,Ai x0 y0 1,F.agg [F.bool false,F.sl 0 fun x ↦ F.bool false,F.bool false,F.sl 0 fun x ↦ F.bool false,F.bool false,F.sl 0 fun x ↦ F.bool false]]))
 none)
 (AD (Ae x0&&Ae y0)
 (AD (Ae u1&&Ae v1)
 (ret (F.tup [F.int .i64 2,Ai x0 y0 1,Ai u1 v1 1]))
 none)
 none)))
 (AD (DX x1 y1 x0 y0)
 (ret (F.tup [F.int .i64 0,F.agg [F.bool false,F.sl 0 fun x ↦ F.bool false,F.bool false,F.sl 0 fun x ↦ F.bool false,F.bool false,F.sl 0 fun x ↦ F.bool false],F.agg [F.bool false,F.sl 0 fun x ↦ F.bool false,F.bool false,F.sl 0 fun x ↦ F.bool false,F.bool false,F.sl 0 fun x ↦ F.bool false]]))
 (AD (x0==x1&&(y0==y1&&true))
 (AD (Ae x0&&Ae y0)
 (ret (F.tup [F.int .i64 1,Ai x0 y0 1,F.agg [F.bool false,F.sl 0 fun x ↦ F.bool false,F.bool false,F.sl 0 fun x ↦ F.bool false,F.bool false,F.sl 0 fun x ↦ F.bool false]]))
 none)
 (AD (Ae x0&&Ae y0)
 (AD (Ae x1&&Ae y1)
 (ret (F.tup [F.int .i64 2,Ai x0 y0 1,Ai x1 y1 1]))
 none)
 none)))))
 (AD (decide (IntKind.i64.wrap (IB x0 y0 x1 y1 u0 v0*IB x0 y0 x1 y1 u1 v1) > 0)==false)
 (AD (decide (IntKind.i64.wrap (IB u0 v0 u1 v1 x0 y0*IB u0 v0 u1 v1 x1 y1) > 0))
 (ret (F.tup [F.int .i64 0,F.agg [F.bool false,F.sl 0 fun x ↦ F.bool false,F.bool false,F.sl 0 fun x ↦ F.bool false,F.bool false,F.sl 0 fun x ↦ F.bool false],F.agg [F.bool false,F.sl 0 fun x ↦ F.bool false,F.bool false,F.sl 0 fun x ↦ F.bool false,F.bool false,F.sl 0 fun x ↦ F.bool false]]))
 (AD (Ae (IntKind.i64.wrap (IntKind.i64.wrap (IntKind.i64.wrap (x1-x0)*IntKind.i64.wrap (v1-v0))-IntKind.i64.wrap (IntKind.i64.wrap (y1-y0)*IntKind.i64.wrap (u1-u0)))))
 (AD (Ae (IntKind.i64.wrap (IntKind.i64.wrap (IntKind.i64.wrap (u0-x0)*IntKind.i64.wrap (v1-v0))-IntKind.i64.wrap (IntKind.i64.wrap (v0-y0)*IntKind.i64.wrap (u1-u0)))))
 (AD (Ae x0)
 (AD (Ao 900 (A2 [F.int .i64 x0])&&Ao 900 (AQ (IntKind.i64.wrap (IntKind.i64.wrap (IntKind.i64.wrap (x1-x0)*IntKind.i64.wrap (v1-v0))-IntKind.i64.wrap (IntKind.i64.wrap (y1-y0)*IntKind.i64.wrap (u1-u0))))))
 (AD (Ae (IntKind.i64.wrap (x1-x0)))
 (AD (Ao 900 (A2 [F.int .i64 (IntKind.i64.wrap (x1-x0))])&&Ao 900 (AQ (IntKind.i64.wrap (IntKind.i64.wrap (IntKind.i64.wrap (u0-x0)*IntKind.i64.wrap (v1-v0))-IntKind.i64.wrap (IntKind.i64.wrap (v0-y0)*IntKind.i64.wrap (u1-u0))))))
 (AD (Ao 800 (Ap [A2 [F.int .i64 x0],AQ (IntKind.i64.wrap (IntKind.i64.wrap (IntKind.i64.wrap (x1-x0)*IntKind.i64.wrap (v1-v0))-IntKind.i64.wrap (IntKind.i64.wrap (y1-y0)*IntKind.i64.wrap (u1-u0))))])&&Ao 800 (Ap [A2 [F.int .i64 (IntKind.i64.wrap (x1-x0))],AQ (IntKind.i64.wrap (IntKind.i64.wrap (IntKind.i64.wrap (u0-x0)*IntKind.i64.wrap (v1-v0))-IntKind.i64.wrap (IntKind.i64.wrap (v0-y0)*IntKind.i64.wrap (u1-u0))))]))
 (AD (Ae y0)
 (AD (Ao 900 (A2 [F.int .i64 y0])&&Ao 900 (AQ (IntKind.i64.wrap (IntKind.i64.wrap (IntKind.i64.wrap (x1-x0)*IntKind.i64.wrap (v1-v0))-IntKind.i64.wrap (IntKind.i64.wrap (y1-y0)*IntKind.i64.wrap (u1-u0))))))
 (AD (Ae (IntKind.i64.wrap (y1-y0)))
 (AD (Ao 900 (A2 [F.int .i64 (IntKind.i64.wrap (y1-y0))])&&Ao 900 (AQ (IntKind.i64.wrap (IntKind.i64.wrap (IntKind.i64.wrap (u0-x0)*IntKind.i64.wrap (v1-v0))-IntKind.i64.wrap (IntKind.i64.wrap (v0-y0)*IntKind.i64.wrap (u1-u0))))))
 (AD (Ao 800 (Ap [A2 [F.int .i64 y0],AQ (IntKind.i64.wrap (IntKind.i64.wrap (IntKind.i64.wrap (x1-x0)*IntKind.i64.wrap (v1-v0))-IntKind.i64.wrap (IntKind.i64.wrap (y1-y0)*IntKind.i64.wrap (u1-u0))))])&&Ao 800 (Ap [A2 [F.int .i64 (IntKind.i64.wrap (y1-y0))],AQ (IntKind.i64.wrap (IntKind.i64.wrap (IntKind.i64.wrap (u0-x0)*IntKind.i64.wrap (v1-v0))-IntKind.i64.wrap (IntKind.i64.wrap (v0-y0)*IntKind.i64.wrap (u1-u0))))]))
 (AD (Ao 600 (AQ (AW (Ap [A2 [F.int .i64 x0],AQ (IntKind.i64.wrap (IntKind.i64.wrap (IntKind.i64.wrap (x1-x0)*IntKind.i64.wrap (v1-v0))-IntKind.i64.wrap (IntKind.i64.wrap (y1-y0)*IntKind.i64.wrap (u1-u0))))])+AW (Ap [A2 [F.int .i64 (IntKind.i64.wrap (x1-x0))],AQ (IntKind.i64.wrap (IntKind.i64.wrap (IntKind.i64.wrap (u0-x0)*IntKind.i64.wrap (v1-v0))-IntKind.i64.wrap (IntKind.i64.wrap (v0-y0)*IntKind.i64.wrap (u1-u0))))])))&&Ao 600 (AQ (AW (Ap [A2 [F.int .i64 y0],AQ (IntKind.i64.wrap (IntKind.i64.wrap (IntKind.i64.wrap (x1-x0)*IntKind.i64.wrap (v1-v0))-IntKind.i64.wrap (IntKind.i64.wrap (y1-y0)*IntKind.i64.wrap (u1-u0))))])+AW (Ap [A2 [F.int .i64 (IntKind.i64.wrap (y1-y0))],AQ (IntKind.i64.wrap (IntKind.i64.wrap (IntKind.i64.wrap (u0-x0)*IntKind.i64.wrap (v1-v0))-IntKind.i64.wrap (IntKind.i64.wrap (v0-y0)*IntKind.i64.wrap (u1-u0))))])))&&Ao 600 (AQ (IntKind.i64.wrap (IntKind.i64.wrap (IntKind.i64.wrap (x1-x0)*IntKind.i64.wrap (v1-v0))-IntKind.i64.wrap (IntKind.i64.wrap (y1-y0)*IntKind.i64.wrap (u1-u0)))))&&O8 (AW (AQ (IntKind.i64.wrap (IntKind.i64.wrap (IntKind.i64.wrap (x1-x0)*IntKind.i64.wrap (v1-v0))-IntKind.i64.wrap (IntKind.i64.wrap (y1-y0)*IntKind.i64.wrap (u1-u0)))))))
 (ret (F.tup [F.int .i64 1,Ai (sR (AW (AQ (AW (Ap [A2 [F.int .i64 x0],AQ (IntKind.i64.wrap (IntKind.i64.wrap (IntKind.i64.wrap (x1-x0)*IntKind.i64.wrap (v1-v0))-IntKind.i64.wrap (IntKind.i64.wrap (y1-y0)*IntKind.i64.wrap (u1-u0))))])+AW (Ap [A2 [F.int .i64 (IntKind.i64.wrap (x1-x0))],AQ (IntKind.i64.wrap (IntKind.i64.wrap (IntKind.i64.wrap (u0-x0)*IntKind.i64.wrap (v1-v0))-IntKind.i64.wrap (IntKind.i64.wrap (v0-y0)*IntKind.i64.wrap (u1-u0))))])))) (AW (AQ (AW (Ap [A2 [F.int .i64 y0],AQ (IntKind.i64.wrap (IntKind.i64.wrap (IntKind.i64.wrap (x1-x0)*IntKind.i64.wrap (v1-v0))-IntKind.i64.wrap (IntKind.i64.wrap (y1-y0)*IntKind.i64.wrap (u1-u0))))])+AW (Ap [A2 [F.int .i64 (IntKind.i64.wrap (y1-y0))],AQ (IntKind.i64.wrap (IntKind.i64.wrap (IntKind.i64.wrap (u0-x0)*IntKind.i64.wrap (v1-v0))-IntKind.i64.wrap (IntKind.i64.wrap (v0-y0)*IntKind.i64.wrap (u1-u0))))])))) (AW (AQ (IntKind.i64.wrap (IntKind.i64.wrap (IntKind.i64.wrap (x1-x0)*IntKind.i64.wrap (v1-v0))-IntKind.i64.wrap (IntKind.i64.wrap (y1-y0)*IntKind.i64.wrap (u1-u0))))))) (sQ (AW (AQ (AW (Ap [A2 [F.int .i64 x0],AQ (IntKind.i64.wrap (IntKind.i64.wrap (IntKind.i64.wrap (x1-x0)*IntKind.i64.wrap (v1-v0))-IntKind.i64.wrap (IntKind.i64.wrap (y1-y0)*IntKind.i64.wrap (u1-u0))))])+AW (Ap [A2 [F.int .i64 (IntKind.i64.wrap (x1-x0))],AQ (IntKind.i64.wrap (IntKind.i64.wrap (IntKind.i64.wrap (u0-x0)*IntKind.i64.wrap (v1-v0))-IntKind.i64.wrap (IntKind.i64.wrap (v0-y0)*IntKind.i64.wrap (u1-u0))))])))) (AW (AQ (AW (Ap [A2 [F.int .i64 y0],AQ (IntKind.i64.wrap (IntKind.i64.wrap (IntKind.i64.wrap (x1-x0)*IntKind.i64.wrap (v1-v0))-IntKind.i64.wrap (IntKind.i64.wrap (y1-y0)*IntKind.i64.wrap (u1-u0))))])+AW (Ap [A2 [F.int .i64 (IntKind.i64.wrap (y1-y0))],AQ (IntKind.i64.wrap (IntKind.i64.wrap (IntKind.i64.wrap (u0-x0)*IntKind.i64.wrap (v1-v0))-IntKind.i64.wrap (IntKind.i64.wrap (v0-y0)*IntKind.i64.wrap (u1-u0))))])))) (AW (AQ (IntKind.i64.wrap (IntKind.i64.wrap (IntKind.i64.wrap (x1-x0)*IntKind.i64.wrap (v1-v0))-IntKind.i64.wrap (IntKind.i64.wrap (y1-y0)*IntKind.i64.wrap (u1-u0))))))) (sS (AW (AQ (AW (Ap [A2 [F.int .i64 x0],AQ (IntKind.i64.wrap (IntKind.i64.wrap (IntKind.i64.wrap (x1-x0)*IntKind.i64.wrap (v1-v0))-IntKind.i64.wrap (IntKind.i64.wrap (y1-y0)*IntKind.i64.wrap (u1-u0))))])+AW (Ap [A2 [F.int .i64 (IntKind.i64.wrap (x1-x0))],AQ (IntKind.i64.wrap (IntKind.i64.wrap (IntKind.i64.wrap (u0-x0)*IntKind.i64.wrap (v1-v0))-IntKind.i64.wrap (IntKind.i64.wrap (v0-y0)*IntKind.i64.wrap (u1-u0))))])))) (AW (AQ (AW (Ap [A2 [F.int .i64 y0],AQ (IntKind.i64.wrap (IntKind.i64.wrap (IntKind.i64.wrap (x1-x0)*IntKind.i64.wrap (v1-v0))-IntKind.i64.wrap (IntKind.i64.wrap (y1-y0)*IntKind.i64.wrap (u1-u0))))])+AW (Ap [A2 [F.int .i64 (IntKind.i64.wrap (y1-y0))],AQ (IntKind.i64.wrap (IntKind.i64.wrap (IntKind.i64.wrap (u0-x0)*IntKind.i64.wrap (v1-v0))-IntKind.i64.wrap (IntKind.i64.wrap (v0-y0)*IntKind.i64.wrap (u1-u0))))])))) (AW (AQ (IntKind.i64.wrap (IntKind.i64.wrap (IntKind.i64.wrap (x1-x0)*IntKind.i64.wrap (v1-v0))-IntKind.i64.wrap (IntKind.i64.wrap (y1-y0)*IntKind.i64.wrap (u1-u0))))))),F.agg [F.bool false,F.sl 0 fun x ↦ F.bool false,F.bool false,F.sl 0 fun x ↦ F.bool false,F.bool false,F.sl 0 fun x ↦ F.bool false]]))
 none)
 none)
 none)
 none)
 none)
 none)
 none)
 none)
 none)
 none)
 none)
 none)
 none))
 (ret (F.tup [F.int .i64 0,F.agg [F.bool false,F.sl 0 fun x ↦ F.bool false,F.bool false,F.sl 0 fun x ↦ F.bool false,F.bool false,F.sl 0 fun x ↦ F.bool false],F.agg [F.bool false,F.sl 0 fun x ↦ F.bool false,F.bool false,F.sl 0 fun x ↦ F.bool false,F.bool false,F.sl 0 fun x ↦ F.bool false]]))))
 (AD (decide (IntKind.i64.wrap (IB x0 y0 x1 y1 u0 v0*IB x0 y0 x1 y1 u1 v1) > 0)==false)
 (AD (decide (IntKind.i64.wrap (IB u0 v0 u1 v1 x0 y0*IB u0 v0 u1 v1 x1 y1) > 0))
 (ret (F.tup [F.int .i64 0,F.agg [F.bool false,F.sl 0 fun x ↦ F.bool false,F.bool false,F.sl 0 fun x ↦ F.bool false,F.bool false,F.sl 0 fun x ↦ F.bool false],F.agg [F.bool false,F.sl 0 fun x ↦ F.bool false,F.bool false,F.sl 0 fun x ↦ F.bool false,F.bool false,F.sl 0 fun x ↦ F.bool false]]))
 (AD (Ae (IntKind.i64.wrap (IntKind.i64.wrap (IntKind.i64.wrap (x1-x0)*IntKind.i64.wrap (v1-v0))-IntKind.i64.wrap (IntKind.i64.wrap (y1-y0)*IntKind.i64.wrap (u1-u0)))))
 (AD (Ae (IntKind.i64.wrap (IntKind.i64.wrap (IntKind.i64.wrap (u0-x0)*IntKind.i64.wrap (v1-v0))-IntKind.i64.wrap (IntKind.i64.wrap (v0-y0)*IntKind.i64.wrap (u1-u0)))))
 (AD (Ae x0)
 (AD (Ao 900 (A2 [F.int .i64 x0])&&Ao 900 (AQ (IntKind.i64.wrap (IntKind.i64.wrap (IntKind.i64.wrap (x1-x0)*IntKind.i64.wrap (v1-v0))-IntKind.i64.wrap (IntKind.i64.wrap (y1-y0)*IntKind.i64.wrap (u1-u0))))))
 (AD (Ae (IntKind.i64.wrap (x1-x0)))
 (AD (Ao 900 (A2 [F.int .i64 (IntKind.i64.wrap (x1-x0))])&&Ao 900 (AQ (IntKind.i64.wrap (IntKind.i64.wrap (IntKind.i64.wrap (u0-x0)*IntKind.i64.wrap (v1-v0))-IntKind.i64.wrap (IntKind.i64.wrap (v0-y0)*IntKind.i64.wrap (u1-u0))))))
 (AD (Ao 800 (Ap [A2 [F.int .i64 x0],AQ (IntKind.i64.wrap (IntKind.i64.wrap (IntKind.i64.wrap (x1-x0)*IntKind.i64.wrap (v1-v0))-IntKind.i64.wrap (IntKind.i64.wrap (y1-y0)*IntKind.i64.wrap (u1-u0))))])&&Ao 800 (Ap [A2 [F.int .i64 (IntKind.i64.wrap (x1-x0))],AQ (IntKind.i64.wrap (IntKind.i64.wrap (IntKind.i64.wrap (u0-x0)*IntKind.i64.wrap (v1-v0))-IntKind.i64.wrap (IntKind.i64.wrap (v0-y0)*IntKind.i64.wrap (u1-u0))))]))
 (AD (Ae y0)
 (AD (Ao 900 (A2 [F.int .i64 y0])&&Ao 900 (AQ (IntKind.i64.wrap (IntKind.i64.wrap (IntKind.i64.wrap (x1-x0)*IntKind.i64.wrap (v1-v0))-IntKind.i64.wrap (IntKind.i64.wrap (y1-y0)*IntKind.i64.wrap (u1-u0))))))
 (AD (Ae (IntKind.i64.wrap (y1-y0)))
 (AD (Ao 900 (A2 [F.int .i64 (IntKind.i64.wrap (y1-y0))])&&Ao 900 (AQ (IntKind.i64.wrap (IntKind.i64.wrap (IntKind.i64.wrap (u0-x0)*IntKind.i64.wrap (v1-v0))-IntKind.i64.wrap (IntKind.i64.wrap (v0-y0)*IntKind.i64.wrap (u1-u0))))))
 (AD (Ao 800 (Ap [A2 [F.int .i64 y0],AQ (IntKind.i64.wrap (IntKind.i64.wrap (IntKind.i64.wrap (x1-x0)*IntKind.i64.wrap (v1-v0))-IntKind.i64.wrap (IntKind.i64.wrap (y1-y0)*IntKind.i64.wrap (u1-u0))))])&&Ao 800 (Ap [A2 [F.int .i64 (IntKind.i64.wrap (y1-y0))],AQ (IntKind.i64.wrap (IntKind.i64.wrap (IntKind.i64.wrap (u0-x0)*IntKind.i64.wrap (v1-v0))-IntKind.i64.wrap (IntKind.i64.wrap (v0-y0)*IntKind.i64.wrap (u1-u0))))]))
 (AD (Ao 600 (AQ (AW (Ap [A2 [F.int .i64 x0],AQ (IntKind.i64.wrap (IntKind.i64.wrap (IntKind.i64.wrap (x1-x0)*IntKind.i64.wrap (v1-v0))-IntKind.i64.wrap (IntKind.i64.wrap (y1-y0)*IntKind.i64.wrap (u1-u0))))])+AW (Ap [A2 [F.int .i64 (IntKind.i64.wrap (x1-x0))],AQ (IntKind.i64.wrap (IntKind.i64.wrap (IntKind.i64.wrap (u0-x0)*IntKind.i64.wrap (v1-v0))-IntKind.i64.wrap (IntKind.i64.wrap (v0-y0)*IntKind.i64.wrap (u1-u0))))])))&&Ao 600 (AQ (AW (Ap [A2 [F.int .i64 y0],AQ (IntKind.i64.wrap (IntKind.i64.wrap (IntKind.i64.wrap (x1-x0)*IntKind.i64.wrap (v1-v0))-IntKind.i64.wrap (IntKind.i64.wrap (y1-y0)*IntKind.i64.wrap (u1-u0))))])+AW (Ap [A2 [F.int .i64 (IntKind.i64.wrap (y1-y0))],AQ (IntKind.i64.wrap (IntKind.i64.wrap (IntKind.i64.wrap (u0-x0)*IntKind.i64.wrap (v1-v0))-IntKind.i64.wrap (IntKind.i64.wrap (v0-y0)*IntKind.i64.wrap (u1-u0))))])))&&Ao 600 (AQ (IntKind.i64.wrap (IntKind.i64.wrap (IntKind.i64.wrap (x1-x0)*IntKind.i64.wrap (v1-v0))-IntKind.i64.wrap (IntKind.i64.wrap (y1-y0)*IntKind.i64.wrap (u1-u0)))))&&O8 (AW (AQ (IntKind.i64.wrap (IntKind.i64.wrap (IntKind.i64.wrap (x1-x0)*IntKind.i64.wrap (v1-v0))-IntKind.i64.wrap (IntKind.i64.wrap (y1-y0)*IntKind.i64.wrap (u1-u0)))))))
 (ret (F.tup [F.int .i64 1,Ai (sR (AW (AQ (AW (Ap [A2 [F.int .i64 x0],AQ (IntKind.i64.wrap (IntKind.i64.wrap (IntKind.i64.wrap (x1-x0)*IntKind.i64.wrap (v1-v0))-IntKind.i64.wrap (IntKind.i64.wrap (y1-y0)*IntKind.i64.wrap (u1-u0))))])+AW (Ap [A2 [F.int .i64 (IntKind.i64.wrap (x1-x0))],AQ (IntKind.i64.wrap (IntKind.i64.wrap (IntKind.i64.wrap (u0-x0)*IntKind.i64.wrap (v1-v0))-IntKind.i64.wrap (IntKind.i64.wrap (v0-y0)*IntKind.i64.wrap (u1-u0))))])))) (AW (AQ (AW (Ap [A2 [F.int .i64 y0],AQ (IntKind.i64.wrap (IntKind.i64.wrap (IntKind.i64.wrap (x1-x0)*IntKind.i64.wrap (v1-v0))-IntKind.i64.wrap (IntKind.i64.wrap (y1-y0)*IntKind.i64.wrap (u1-u0))))])+AW (Ap [A2 [F.int .i64 (IntKind.i64.wrap (y1-y0))],AQ (IntKind.i64.wrap (IntKind.i64.wrap (IntKind.i64.wrap (u0-x0)*IntKind.i64.wrap (v1-v0))-IntKind.i64.wrap (IntKind.i64.wrap (v0-y0)*IntKind.i64.wrap (u1-u0))))])))) (AW (AQ (IntKind.i64.wrap (IntKind.i64.wrap (IntKind.i64.wrap (x1-x0)*IntKind.i64.wrap (v1-v0))-IntKind.i64.wrap (IntKind.i64.wrap (y1-y0)*IntKind.i64.wrap (u1-u0))))))) (sQ (AW (AQ (AW (Ap [A2 [F.int .i64 x0],AQ (IntKind.i64.wrap (IntKind.i64.wrap (IntKind.i64.wrap (x1-x0)*IntKind.i64.wrap (v1-v0))-IntKind.i64.wrap (IntKind.i64.wrap (y1-y0)*IntKind.i64.wrap (u1-u0))))])+AW (Ap [A2 [F.int .i64 (IntKind.i64.wrap (x1-x0))],AQ (IntKind.i64.wrap (IntKind.i64.wrap (IntKind.i64.wrap (u0-x0)*IntKind.i64.wrap (v1-v0))-IntKind.i64.wrap (IntKind.i64.wrap (v0-y0)*IntKind.i64.wrap (u1-u0))))])))) (AW (AQ (AW (Ap [A2 [F.int .i64 y0],AQ (IntKind.i64.wrap (IntKind.i64.wrap (IntKind.i64.wrap (x1-x0)*IntKind.i64.wrap (v1-v0))-IntKind.i64.wrap (IntKind.i64.wrap (y1-y0)*IntKind.i64.wrap (u1-u0))))])+AW (Ap [A2 [F.int .i64 (IntKind.i64.wrap (y1-y0))],AQ (IntKind.i64.wrap (IntKind.i64.wrap (IntKind.i64.wrap (u0-x0)*IntKind.i64.wrap (v1-v0))-IntKind.i64.wrap (IntKind.i64.wrap (v0-y0)*IntKind.i64.wrap (u1-u0))))])))) (AW (AQ (IntKind.i64.wrap (IntKind.i64.wrap (IntKind.i64.wrap (x1-x0)*IntKind.i64.wrap (v1-v0))-IntKind.i64.wrap (IntKind.i64.wrap (y1-y0)*IntKind.i64.wrap (u1-u0))))))) (sS (AW (AQ (AW (Ap [A2 [F.int .i64 x0],AQ (IntKind.i64.wrap (IntKind.i64.wrap (IntKind.i64.wrap (x1-x0)*IntKind.i64.wrap (v1-v0))-IntKind.i64.wrap (IntKind.i64.wrap (y1-y0)*IntKind.i64.wrap (u1-u0))))])+AW (Ap [A2 [F.int .i64 (IntKind.i64.wrap (x1-x0))],AQ (IntKind.i64.wrap (IntKind.i64.wrap (IntKind.i64.wrap (u0-x0)*IntKind.i64.wrap (v1-v0))-IntKind.i64.wrap (IntKind.i64.wrap (v0-y0)*IntKind.i64.wrap (u1-u0))))])))) (AW (AQ (AW (Ap [A2 [F.int .i64 y0],AQ (IntKind.i64.wrap (IntKind.i64.wrap (IntKind.i64.wrap (x1-x0)*IntKind.i64.wrap (v1-v0))-IntKind.i64.wrap (IntKind.i64.wrap (y1-y0)*IntKind.i64.wrap (u1-u0))))])+AW (Ap [A2 [F.int .i64 (IntKind.i64.wrap (y1-y0))],AQ (IntKind.i64.wrap (IntKind.i64.wrap (IntKind.i64.wrap (u0-x0)*IntKind.i64.wrap (v1-v0))-IntKind.i64.wrap (IntKind.i64.wrap (v0-y0)*IntKind.i64.wrap (u1-u0))))])))) (AW (AQ (IntKind.i64.wrap (IntKind.i64.wrap (IntKind.i64.wrap (x1-x0)*IntKind.i64.wrap (v1-v0))-IntKind.i64.wrap (IntKind.i64.wrap (y1-y0)*IntKind.i64.wrap (u1-u0))))))),F.agg [F.bool false,F.sl 0 fun x ↦ F.bool false,F.bool false,F.sl 0 fun x ↦ F.bool false,F.bool false,F.sl 0 fun x ↦ F.bool false]]))
 none)
 none)
 none)
 none)
 none)
 none)
 none)
 none)
 none)
 none)
 none)
 none)
 none))
 (ret (F.tup [F.int .i64 0,F.agg [F.bool false,F.sl 0 fun x ↦ F.bool false,F.bool false,F.sl 0 fun x ↦ F.bool false,F.bool false,F.sl 0 fun x ↦ F.bool false],F.agg [F.bool false,F.sl 0 fun x ↦ F.bool false,F.bool false,F.sl 0 fun x ↦ F.bool false,F.bool false,F.sl 0 fun x ↦ F.bool false]]))))
def G74 (x0:Int) (y0:Int) (x1:Int) (y1:Int) (u0:Int) (v0:Int) (u1:Int) (v1:Int):Option (F):=T74 some x0 y0 x1 y1 u0 v0 u1 v1
theorem t74 (x0:Int) (y0:Int) (x1:Int) (y1:Int) (u0:Int) (v0:Int) (u1:Int) (v1:Int) (r:F) (h:G74 x0 y0 x1 y1 u0 v0 u1 v1=some r):AX Tryz.prog Tryz.f74.results.toList [.code (AT Tryz.f74)] (start Tryz.f74.ntmps ([F.agg [F.int .i64 x0,F.int .i64 y0,F.int .i64 x1,F.int .i64 y1],F.agg [F.int .i64 u0,F.int .i64 v0,F.int .i64 u1,F.int .i64 v1]].map .f)) (r):=by
 refine AX.of_run Au Vc (T:=[]) (n:=200) ?_
 refine gE (Y:=T74 (fun r=>some (.ret (r))) x0 y0 x1 y1 u0 v0 u1 v1) (by kernel_rfl) ?_
 exact (gS h (fun _ h=>(gS h (fun _ h=>(gS h (fun _ h=>(gS h (fun _ h=>(gS h (fun _ h=>gR (by cases h;rfl)) (fun _ h=>(gS h (fun _ h=>(gS h (fun _ h=>gR (by cases h;rfl)) gN)) (fun _ h=>(gS h (fun _ h=>(gS h (fun _ h=>gR (by cases h;rfl)) gN)) gN)))))) (fun _ h=>(gS h (fun _ h=>gR (by cases h;rfl)) (fun _ h=>(gS h (fun _ h=>(gS h (fun _ h=>gR (by cases h;rfl)) gN)) (fun _ h=>(gS h (fun _ h=>(gS h (fun _ h=>gR (by cases h;rfl)) gN)) gN)))))))) (fun _ h=>(gS h (fun _ h=>(gS h (fun _ h=>gR (by cases h;rfl)) (fun _ h=>(gS h (fun _ h=>(gS h (fun _ h=>gR (by cases h;rfl)) gN)) (fun _ h=>(gS h (fun _ h=>(gS h (fun _ h=>gR (by cases h;rfl)) gN)) gN)))))) (fun _ h=>(gS h (fun _ h=>gR (by cases h;rfl)) (fun _ h=>(gS h (fun _ h=>(gS h (fun _ h=>gR (by cases h;rfl)) gN)) (fun _ h=>(gS h (fun _ h=>(gS h (fun _ h=>gR (by cases h;rfl)) gN)) gN)))))))))) (fun _ h=>(gS h (fun _ h=>(gS h (fun _ h=>gR (by cases h;rfl)) (fun _ h=>(gS h (fun _ h=>(gS h (fun _ h=>(gS h (fun _ h=>(gS h (fun _ h=>(gS h (fun _ h=>(gS h (fun _ h=>(gS h (fun _ h=>(gS h (fun _ h=>(gS h (fun _ h=>(gS h (fun _ h=>(gS h (fun _ h=>(gS h (fun _ h=>(gS h (fun _ h=>gR (by cases h;rfl)) gN)) gN)) gN)) gN)) gN)) gN)) gN)) gN)) gN)) gN)) gN)) gN)) gN)))) (fun _ h=>gR (by cases h;rfl)))))) (fun _ h=>(gS h (fun _ h=>(gS h (fun _ h=>gR (by cases h;rfl)) (fun _ h=>(gS h (fun _ h=>(gS h (fun _ h=>(gS h (fun _ h=>(gS h (fun _ h=>(gS h (fun _ h=>(gS h (fun _ h=>(gS h (fun _ h=>(gS h (fun _ h=>(gS h (fun _ h=>(gS h (fun _ h=>(gS h (fun _ h=>(gS h (fun _ h=>(gS h (fun _ h=>gR (by cases h;rfl)) gN)) gN)) gN)) gN)) gN)) gN)) gN)) gN)) gN)) gN)) gN)) gN)) gN)))) (fun _ h=>gR (by cases h;rfl)))))
theorem Ms (n:Int):IF n=n.sign:=by
 unfold IF
 rcases Int.lt_trichotomy n 0 with h | h | h
 ·rw [decide_eq_true h,Int.sign_eq_neg_one_of_neg h];rfl
 ·subst h;rfl
 ·rw [decide_eq_false (show ¬ n<0 by omega),decide_eq_true (show n > 0 by omega),Int.sign_eq_one_of_pos h];rfl
theorem Eu {x0 y0 x1 y1 u v:Int} (h0:BD x0 y0) (h1:BD x1 y1) (h2:BD u v):IB x0 y0 x1 y1 u v=(AK x0 y0 x1 y1 u v).sign:=by
 unfold IB
 rw [(Ds h0 h1 h2).1,Ms]
theorem X3 (a:Int):(a<0∧a.sign = -1) ∨ (a=0∧a.sign=0) ∨ (0<a∧a.sign=1):=by
 rcases Int.lt_trichotomy a 0 with h | h | h
 ·exact .inl ⟨h,Int.sign_eq_neg_one_of_neg h⟩
 ·subst h;exact .inr (.inl ⟨rfl,rfl⟩)
 ·exact .inr (.inr ⟨h,Int.sign_eq_one_of_pos h⟩)
theorem H6 {a b:Int} (h:apart a b):decide (IntKind.i64.wrap (a.sign*b.sign) > 0)=false:=by
 unfold apart at h
 rcases X3 a with ⟨k,e⟩ | ⟨k,e⟩ | ⟨k,e⟩ <;> rcases X3 b with ⟨m,f⟩ | ⟨m,f⟩ | ⟨m,f⟩ <;> rw [e,f] <;> first | rfl | (exfalso;omega)
theorem OQ {a b:Int} (h:¬ apart a b):decide (IntKind.i64.wrap (a.sign*b.sign) > 0)=true:=by
 unfold apart at h
 rcases X3 a with ⟨k,e⟩ | ⟨k,e⟩ | ⟨k,e⟩ <;> rcases X3 b with ⟨m,f⟩ | ⟨m,f⟩ | ⟨m,f⟩ <;> rw [e,f] <;> first | rfl | (exfalso;omega)
theorem EH {a b c d:Int}:DX a b c d=true ↔ BP a b c d:=by
 unfold DX BP
 rw [Bool.or_eq_true,Bool.and_eq_true,decide_eq_true_eq,decide_eq_true_eq,beq_iff_eq]
theorem IN {a b c d:Int}:DX a b c d=false ↔ C8 c d a b:=by
 rw [← Bool.not_eq_true,EH]
 unfold BP C8
 omega
def Dx (x0 y0 x1 y1 u0 v0 u1 v1:Int):Prop:=AK x0 y0 x1 y1 u0 v0=0∧AK x0 y0 x1 y1 u1 v1=0∧BP u0 v0 x1 y1∧BP x0 y0 u1 v1
def GE (k:Int) (M S:Prop):Prop:=(k=0 ∨ k=1 ∨ k=2)∧(k ≠ 0 ↔ M)∧(k=2 ↔ S)
theorem mM {k m:Int} {M S:Prop} (h:GE k M S) (g:GE m M S):k=m:=by
 obtain ⟨h1,h2,h3⟩:=h
 obtain ⟨g1,g2,g3⟩:=g
 by_cases hM:M <;> by_cases hS:S <;> simp only [hM,hS,iff_true,iff_false] at h2 h3 g2 g3 <;> omega
theorem MQ {k:Int} {M S:Prop} (h:∀ j,j=k→((j=0 ∨ j=1 ∨ j=2)∧(j ≠ 0 ↔ M)∧(j=2 ↔ S))):GE k M S:=h k rfl
def is3 (p:F):Prop:=∃ X Y W,FLe p (Ai X Y W)
theorem dT (X Y W:Int):is3 (Ai X Y W):=⟨X,Y,W,.refl _⟩
theorem Rp:is3 (F.agg [F.bool false,F.sl 0 fun x ↦ F.bool false,F.bool false,F.sl 0 fun x ↦ F.bool false,F.bool false,F.sl 0 fun x ↦ F.bool false]):=⟨_,_,_,(DK (n:=100) (by rfl)).1⟩
def Mk (X:Option F) (M S:Prop):Prop:=∃ k p q,X=some (F.tup [F.int .i64 k,p,q])∧GE k M S∧is3 p∧is3 q
theorem ends3 {c e:Bool} {X Y:Option F} {M S:Prop} (h1:c=true→Mk X M S) (h2:c=false→Mk Y M S):Mk (AD c X Y) M S:=by
 cases c
 ·exact h2 rfl
 ·exact h1 rfl
theorem Ws {k:Int} {X Y W:Int} {M S:Prop} (h:GE k M S):Mk (some (F.tup [F.int .i64 k,Ai X Y W,F.agg [F.bool false,F.sl 0 fun x ↦ F.bool false,F.bool false,F.sl 0 fun x ↦ F.bool false,F.bool false,F.sl 0 fun x ↦ F.bool false]])) M S:=⟨_,_,_,rfl,h,dT _ _ _,Rp⟩
theorem tS {k:Int} {X Y W X' Y' W':Int} {M S:Prop} (h:GE k M S):Mk (some (F.tup [F.int .i64 k,Ai X Y W,Ai X' Y' W'])) M S:=⟨_,_,_,rfl,h,dT _ _ _,dT _ _ _⟩
theorem QY {k:Int} {M S:Prop} (h:GE k M S):Mk (some (F.tup [F.int .i64 k,F.agg [F.bool false,F.sl 0 fun x ↦ F.bool false,F.bool false,F.sl 0 fun x ↦ F.bool false,F.bool false,F.sl 0 fun x ↦ F.bool false],F.agg [F.bool false,F.sl 0 fun x ↦ F.bool false,F.bool false,F.sl 0 fun x ↦ F.bool false,F.bool false,F.sl 0 fun x ↦ F.bool false]])) M S:=⟨_,_,_,rfl,h,Rp,Rp⟩
theorem dK {x0 y0 x1 y1 u0 v0 u1 v1:Int} (h0:BD x0 y0) (h1:BD x1 y1) (k0:BD u0 v0) (k1:BD u1 v1) (hs:BP x0 y0 x1 y1) (ht:BP u0 v0 u1 v1) (ha:AK x0 y0 x1 y1 u0 v0=0) (hb:AK x0 y0 x1 y1 u1 v1=0) :
  Mk (G74 x0 y0 x1 y1 u0 v0 u1 v1) (Cr x0 y0 x1 y1 u0 v0 u1 v1) (Dx x0 y0 x1 y1 u0 v0 u1 v1):=by
 have i:∀ {x y:Int},BD x y→Ae x=true∧Ae y=true:=fun h=>by
  unfold BD at h
  exact ⟨Bd.2 (by omega),Bd.2 (by omega)⟩
 have hm:Cr x0 y0 x1 y1 u0 v0 u1 v1 ↔ (C8 u0 v0 x1 y1∧C8 x0 y0 u1 v1):=by
  unfold Cr
  rw [ha,hb]
  constructor
  ·rintro (⟨_,_,h⟩ | ⟨h,_⟩)
   ·exact h
   ·exact absurd ⟨rfl,rfl⟩ h
  ·exact fun h=>.inl ⟨rfl,rfl,h⟩
 unfold G74 T74
 rw [Eu h0 h1 k0,Eu h0 h1 k1,ha,hb]
 simp only [Int.sign_zero,beq_self_eq_true,AH,i h0,i h1,i k0,i k1,Bool.and_self]
 unfold BP at hs ht
 have hsp:Dx x0 y0 x1 y1 u0 v0 u1 v1 ↔ (BP u0 v0 x1 y1∧BP x0 y0 u1 v1):=by
  unfold Dx
  rw [ha,hb]
  exact ⟨fun h=>h.2.2,fun h=>⟨rfl,rfl,h⟩⟩
 repeat' first
  | (refine ends3 (e:=true) (fun _=>?_) (fun _=>?_))
  | (refine QY ?_;refine MQ fun j hj=>?_;rw [hm,hsp];clear hm hsp ha hb i h0 h1 k0 k1;simp only [EH,IN,Bool.and_true,Bool.and_eq_true,Bool.and_eq_false_iff,beq_iff_eq,beq_eq_false_iff_ne,ne_eq] at *;unfold C8 at *;unfold BP at *;omega)
  | (refine Ws ?_;refine MQ fun j hj=>?_;rw [hm,hsp];clear hm hsp ha hb i h0 h1 k0 k1;simp only [EH,IN,Bool.and_true,Bool.and_eq_true,Bool.and_eq_false_iff,beq_iff_eq,beq_eq_false_iff_ne,ne_eq] at *;unfold C8 at *;unfold BP at *;omega)
  | (refine tS ?_;refine MQ fun j hj=>?_;rw [hm,hsp];clear hm hsp ha hb i h0 h1 k0 k1;simp only [EH,IN,Bool.and_true,Bool.and_eq_true,Bool.and_eq_false_iff,beq_iff_eq,beq_eq_false_iff_ne,ne_eq] at *;unfold C8 at *;unfold BP at *;omega)
theorem Qx (a:Int):(a.sign==0)=(a==0):=by
 rcases X3 a with ⟨h,e⟩ | ⟨h,e⟩ | ⟨h,e⟩
 ·rw [e,show (a==0)=false by simp only [beq_eq_false_iff_ne,ne_eq];omega];rfl
 ·rw [h];rfl
 ·rw [e,show (a==0)=false by simp only [beq_eq_false_iff_ne,ne_eq];omega];rfl
theorem dJ {x0 y0 x1 y1 u0 v0 u1 v1:Int} (h0:BD x0 y0) (h1:BD x1 y1) (k0:BD u0 v0) (k1:BD u1 v1) (hn:¬ (AK x0 y0 x1 y1 u0 v0=0∧AK x0 y0 x1 y1 u1 v1=0))
  (ho:¬ (apart (AK x0 y0 x1 y1 u0 v0) (AK x0 y0 x1 y1 u1 v1)∧apart (AK u0 v0 u1 v1 x0 y0) (AK u0 v0 u1 v1 x1 y1))) :
  Mk (G74 x0 y0 x1 y1 u0 v0 u1 v1) (Cr x0 y0 x1 y1 u0 v0 u1 v1) (Dx x0 y0 x1 y1 u0 v0 u1 v1):=by
 have hm:¬ Cr x0 y0 x1 y1 u0 v0 u1 v1:=by
  unfold Cr
  rintro (⟨a,b,_⟩ | ⟨_,h⟩)
  ·exact hn ⟨a,b⟩
  ·exact ho h
 have hsp:¬ Dx x0 y0 x1 y1 u0 v0 u1 v1:=fun h=>hn ⟨h.1,h.2.1⟩
 have z:GE 0 (Cr x0 y0 x1 y1 u0 v0 u1 v1) (Dx x0 y0 x1 y1 u0 v0 u1 v1):=⟨.inl rfl,by simp [hm],by simp [hsp]⟩
 have tt:(true==true)=true:=rfl
 have ft:(false==true)=false:=rfl
 have tf:(true==false)=false:=rfl
 have ff:(false==false)=true:=rfl
 unfold G74 T74
 rw [Eu h0 h1 k0,Eu h0 h1 k1,Eu k0 k1 h0,Eu k0 k1 h1]
 simp only [Qx]
 generalize AK x0 y0 x1 y1 u0 v0=A at *
 generalize AK x0 y0 x1 y1 u1 v1=B at *
 generalize AK u0 v0 u1 v1 x0 y0=C at *
 generalize AK u0 v0 u1 v1 x1 y1=D at *
 by_cases ap:apart A B
 ·have cd:¬ apart C D:=fun h=>ho ⟨ap,h⟩
  rw [H6 ap,OQ cd]
  by_cases hA:A=0
  ·have hB:¬ B=0:=fun h=>hn ⟨hA,h⟩
   rw [show (A==0)=true from beq_iff_eq.2 hA,show (B==0)=false from beq_eq_false_iff_ne.2 hB]
   simp only [tt,ff,AH,AJ]
   exact QY z
  ·rw [show (A==0)=false from beq_eq_false_iff_ne.2 hA]
   simp only [ft,ff,AH,AJ]
   exact QY z
 ·rw [OQ ap]
  by_cases hA:A=0
  ·exact absurd (show apart A B by unfold apart;omega) ap
  ·rw [show (A==0)=false from beq_eq_false_iff_ne.2 hA]
   simp only [ft,tf,AH,AJ]
   exact QY z
theorem mulB {a b:Int} (ha:-2000000≤a∧a≤2000000) (hb:-2000000≤b∧b≤2000000):-8000000000000≤a*b∧a*b≤8000000000000:=by
 have:=(dotW (a:=a) (b:=b) (c:=0) (d:=0) (by omega) (by omega) (by omega) (by omega)).2
 simp only [Int.mul_zero,Int.add_zero] at this
 exact this
theorem diffW {a b c d:Int} (ha:-2000000≤a∧a≤2000000) (hb:-2000000≤b∧b≤2000000) (hc:-2000000≤c∧c≤2000000) (hd:-2000000≤d∧d≤2000000) :
  IntKind.i64.wrap (IntKind.i64.wrap (IntKind.i64.wrap a*IntKind.i64.wrap b)-IntKind.i64.wrap (IntKind.i64.wrap c*IntKind.i64.wrap d))=a*b-c*d∧Ae (a*b-c*d)=true:=by
 have m1:=mulB ha hb
 have m2:=mulB hc hd
 rw [As (x:=a) (by omega) (by omega),As (x:=b) (by omega) (by omega),As (x:=c) (by omega) (by omega),As (x:=d) (by omega) (by omega),As (x:=a*b) (by omega) (by omega),As (x:=c*d) (by omega) (by omega),As (by omega) (by omega)]
 exact ⟨rfl,Bd.2 (by omega)⟩
theorem mK {x0 y0 x1 y1 u0 v0 u1 v1:Int} (h0:BD x0 y0) (h1:BD x1 y1) (k0:BD u0 v0) (k1:BD u1 v1) (hn:¬ (AK x0 y0 x1 y1 u0 v0=0∧AK x0 y0 x1 y1 u1 v1=0))
  (ho:apart (AK x0 y0 x1 y1 u0 v0) (AK x0 y0 x1 y1 u1 v1)∧apart (AK u0 v0 u1 v1 x0 y0) (AK u0 v0 u1 v1 x1 y1)) :
  Mk (G74 x0 y0 x1 y1 u0 v0 u1 v1) (Cr x0 y0 x1 y1 u0 v0 u1 v1) (Dx x0 y0 x1 y1 u0 v0 u1 v1):=by
 have hm:Cr x0 y0 x1 y1 u0 v0 u1 v1:=.inr ⟨hn,ho⟩
 have hsp:¬ Dx x0 y0 x1 y1 u0 v0 u1 v1:=fun h=>hn ⟨h.1,h.2.1⟩
 have z:GE 1 (Cr x0 y0 x1 y1 u0 v0 u1 v1) (Dx x0 y0 x1 y1 u0 v0 u1 v1):=⟨.inr (.inl rfl),by simp [hm],by simp [hsp]⟩
 have tt:(true==true)=true:=rfl
 have ft:(false==true)=false:=rfl
 have ff:(false==false)=true:=rfl
 have hden:AK x0 y0 x1 y1 u1 v1-AK x0 y0 x1 y1 u0 v0=(x1-x0)*(v1-v0)-(y1-y0)*(u1-u0):=by unfold AK;grind
 have hne:(x1-x0)*(v1-v0)-(y1-y0)*(u1-u0) ≠ 0:=by
  rw [← hden]
  have:=ho.1
  unfold apart at this
  omega
 have s0:=h0
 have s1:=h1
 have t0:=k0
 have t1:=k1
 unfold BD at s0 s1 t0 t1
 obtain ⟨d1,d2⟩:=diffW (a:=x1-x0) (b:=v1-v0) (c:=y1-y0) (d:=u1-u0) (by omega) (by omega) (by omega) (by omega)
 obtain ⟨e1,e2⟩:=diffW (a:=u0-x0) (b:=v1-v0) (c:=v0-y0) (d:=u1-u0) (by omega) (by omega) (by omega) (by omega)
 have b2:∀ {w:Int},Ae w=true→w.natAbs<4294967296 ^ 2:=fun h=>by have:=Bd.1 h;omega
 have i9:∀ {w:Int},Ae w=true→Ao 900 (AQ w)=true:=fun h=>BC (B0 (b2 h) (by omega))
 have p8:∀ {w r:Int},Ae w=true→Ae r=true→Ao 800 (AQ (w*r))=true:=fun h g=>BC (B0 (CI (b2 h) (b2 g)) (by omega))
 have p6:∀ {w r m o:Int},Ae w=true→Ae r=true→Ae m=true→Ae o=true→Ao 600 (AQ (w*r+m*o))=true:=fun h g i j=>BC (B0 (SU (CI (b2 h) (b2 g)) (CI (b2 i) (b2 j))) (by omega))
 have ix:Ae x0=true:=Bd.2 (by omega)
 have iy:Ae y0=true:=Bd.2 (by omega)
 have wx:IntKind.i64.wrap (x1-x0)=x1-x0:=As (by omega) (by omega)
 have wy:IntKind.i64.wrap (y1-y0)=y1-y0:=As (by omega) (by omega)
 have jx:Ae (x1-x0)=true:=Bd.2 (by omega)
 have jy:Ae (y1-y0)=true:=Bd.2 (by omega)
 have r3:∀ n:Int,A2 [F.int .i64 n]=AQ n:=fun _=>rfl
 unfold G74 T74
 rw [Eu h0 h1 k0,Eu h0 h1 k1,Eu k0 k1 h0,Eu k0 k1 h1,H6 ho.1,H6 ho.2]
 simp only [Qx,d1,e1]
 simp only [wx,wy,r3,J6,Bb]
 generalize (x1-x0)*(v1-v0)-(y1-y0)*(u1-u0)=dn at *
 generalize (u0-x0)*(v1-v0)-(v0-y0)*(u1-u0)=nm at *
 have nz:O8 dn=true:=by unfold O8;rw [show (dn==0)=false from beq_eq_false_iff_ne.2 hne];rfl
 simp only [ix,iy,jx,jy,d2,e2,i9 ix,i9 iy,i9 jx,i9 jy,i9 d2,i9 e2,p8 ix d2,p8 iy d2,p8 jx e2,p8 jy e2,p6 ix d2 jx e2,p6 iy d2 jy e2,nz,BC (B0 (b2 d2) (show 2≤600 by omega)),Bool.and_self,AH,ff,AJ]
 by_cases hA:AK x0 y0 x1 y1 u0 v0=0
 ·have hB:¬ AK x0 y0 x1 y1 u1 v1=0:=fun h=>hn ⟨hA,h⟩
  rw [show (AK x0 y0 x1 y1 u0 v0==0)=true from beq_iff_eq.2 hA,show (AK x0 y0 x1 y1 u1 v1==0)=false from beq_eq_false_iff_ne.2 hB]
  simp only [tt,ff,AH,AJ]
  exact Ws z
 ·rw [show (AK x0 y0 x1 y1 u0 v0==0)=false from beq_eq_false_iff_ne.2 hA]
  simp only [ft,ff,AH,AJ]
  exact Ws z
theorem Rk {x0 y0 x1 y1 u0 v0 u1 v1:Int} (h0:BD x0 y0) (h1:BD x1 y1) (k0:BD u0 v0) (k1:BD u1 v1) (hs:BP x0 y0 x1 y1) (ht:BP u0 v0 u1 v1) :
  Mk (G74 x0 y0 x1 y1 u0 v0 u1 v1) (Cr x0 y0 x1 y1 u0 v0 u1 v1) (Dx x0 y0 x1 y1 u0 v0 u1 v1):=by
 by_cases hn:AK x0 y0 x1 y1 u0 v0=0∧AK x0 y0 x1 y1 u1 v1=0
 ·exact dK h0 h1 k0 k1 hs ht hn.1 hn.2
 ·by_cases ho:apart (AK x0 y0 x1 y1 u0 v0) (AK x0 y0 x1 y1 u1 v1)∧apart (AK u0 v0 u1 v1 x0 y0) (AK u0 v0 u1 v1 x1 y1)
  ·exact mK h0 h1 k0 k1 hn ho
  ·exact dJ h0 h1 k0 k1 hn ho
theorem EO {x0 y0 x1 y1:Int} (h:Df x0 y0 x1 y1=true):BD x0 y0∧BD x1 y1∧BP x0 y0 x1 y1:=by
 unfold Df at h
 simp only [Bool.and_eq_true] at h
 exact ⟨IE.1 h.1,IE.1 h.2.1,EH.1 h.2.2⟩
open Classical in
def of3 (p:F):Int × Int × Int:=if h:is3 p then ⟨h.choose,h.choose_spec.choose,h.choose_spec.choose_spec.choose⟩ else (0,0,0)
theorem sG {p:F} (h:is3 p):FLe p (Ai (of3 p).1 (of3 p).2.1 (of3 p).2.2):=by
 unfold of3
 rw [dif_pos h]
 exact h.choose_spec.choose_spec.choose_spec
def EB (x0 y0 x1 y1 u0 v0 u1 v1:Int):Int:=match G74 x0 y0 x1 y1 u0 v0 u1 v1 with | some (.tup [.int _ k,_,_])=>k | _=>0
def GV (i:Nat) (x0 y0 x1 y1 u0 v0 u1 v1:Int):Int:=match G74 x0 y0 x1 y1 u0 v0 u1 v1 with | some (.tup [_,p,q])=>([(of3 p).1,(of3 p).2.1,(of3 p).2.2,(of3 q).1,(of3 q).2.1,(of3 q).2.2]:List Int).getD i 0 | _=>0
theorem Jc {x0 y0 x1 y1 u0 v0 u1 v1:Int} (hs:Df x0 y0 x1 y1=true) (ht:Df u0 v0 u1 v1=true):GE (EB x0 y0 x1 y1 u0 v0 u1 v1) (Cr x0 y0 x1 y1 u0 v0 u1 v1) (Dx x0 y0 x1 y1 u0 v0 u1 v1):=by
 obtain ⟨h0,h1,h2⟩:=EO hs
 obtain ⟨k0,k1,k2⟩:=EO ht
 obtain ⟨k,p,q,e,h,_⟩:=Rk h0 h1 k0 k1 h2 k2
 unfold EB
 rw [e]
 exact h
def JS:List F→Bool | [.agg [.int .i64 a,.int .i64 b,.int .i64 c,.int .i64 d],.agg [.int .i64 e,.int .i64 f,.int .i64 g,.int .i64 h]]=>Df a b c d&&Df e f g h | _=>false
def YO:List F→F | [.agg [.int .i64 a,.int .i64 b,.int .i64 c,.int .i64 d],.agg [.int .i64 e,.int .i64 f,.int .i64 g,.int .i64 h]]=>.tup [.int .i64 (EB a b c d e f g h),Ai (GV 0 a b c d e f g h) (GV 1 a b c d e f g h) (GV 2 a b c d e f g h),Ai (GV 3 a b c d e f g h) (GV 4 a b c d e f g h) (GV 5 a b c d e f g h)] | _=>.dflt
theorem okMeet3:Ak Tryz.prog 74 JS YO :=
 Ad (c:=AT Tryz.f74) Tryz.func74 (by kernel_rfl) (by kernel_rfl) fun xs hp=>match xs,hp with
 | [.agg [.int .i64 a,.int .i64 b,.int .i64 c,.int .i64 d],.agg [.int .i64 e,.int .i64 f,.int .i64 g,.int .i64 h]],hp=>by
  simp only [JS,Bool.and_eq_true] at hp
  obtain ⟨h0,h1,h2⟩:=EO hp.1
  obtain ⟨k0,k1,k2⟩:=EO hp.2
  obtain ⟨k,p,q,ek,_,hp3,hq3⟩:=Rk h0 h1 k0 k1 h2 k2
  refine ⟨[_,_],_,⟨.refl _,.refl _,trivial⟩,t74 a b c d e f g h _ ek,?_⟩
  show FLe _ (.tup [.int .i64 (EB a b c d e f g h),Ai (GV 0 a b c d e f g h) (GV 1 a b c d e f g h) (GV 2 a b c d e f g h),Ai (GV 3 a b c d e f g h) (GV 4 a b c d e f g h) (GV 5 a b c d e f g h)])
  have e1:EB a b c d e f g h=k:=by unfold EB;rw [ek]
  have e2:∀ i,GV i a b c d e f g h=([(of3 p).1,(of3 p).2.1,(of3 p).2.2,(of3 q).1,(of3 q).2.1,(of3 q).2.2]:List Int).getD i 0:=fun i=>by unfold GV;rw [ek]
  rw [e1,e2,e2,e2,e2,e2,e2]
  exact FLe.tup ⟨.refl _,sG hp3,sG hq3,trivial⟩
def vD:Env:=vE.add 74 (.pure JS YO)
theorem Jm:Az Tryz.prog vD:=(Env.add_ok Vc okMeet3.sp)
end
noncomputable section
structure Pt where
 x:Int
 y:Int
def Pt.zero:Pt:=⟨0,0⟩
def ptF (s:Pt):F:=.agg [.int .i64 s.x,.int .i64 s.y]
def isPt:F→Bool
 | .agg [.int .i64 _,.int .i64 _]=>true
 | _=>false
def unPt:F→Pt
 | .agg [.int .i64 a,.int .i64 b]=>⟨a,b⟩
 | _=>.zero
def Ac (l:List Pt):F:=slF ptF .zero l
def Da (x:F):Bool:=Dq isPt x
def BS (x:F):List Pt:=Gi unPt x
theorem Gq (l:List Pt):BS (Ac l)=l:=NV (fun _=>rfl) l
theorem G1 (l:List Pt):Da (Ac l)=true:=N5 l fun _ _=>rfl
theorem pt_eq {x:F} (h:isPt x=true):ptF (unPt x)=x:=by
 unfold isPt at h
 split at h
 ·rfl
 ·cases h
theorem Ee {x:F} (hx:Da x=true):FLe x (Ac (BS x))∧FLe (Ac (BS x)) x:=WM (fun _ h=>pt_eq h) hx
theorem pt_ext {a b:Pt} (h1:a.x=b.x) (h2:a.y=b.y):a=b:=by
 cases a;cases b;simp only at h1 h2;rw [h1,h2]
theorem pt_eta (a:Pt):(⟨a.x,a.y⟩:Pt)=a:=rfl
theorem pt_ne {a b:Pt} (h:a ≠ b):a.x ≠ b.x ∨ a.y ≠ b.y:=by
 by_cases hx:a.x=b.x
 ·right;intro hy;exact h (pt_ext hx hy)
 ·exact .inl hx
def DJ (f:Nat→Bool):Nat→Nat→Bool
 | _,0=>true
 | i,d+1=>f i&&DJ f (i+1) d
theorem El (f:Nat→Bool):∀ (d i:Nat),DJ f i d=true ↔ ∀ j,i≤j→j<i+d→f j=true
 | 0,i=>⟨fun _ j h1 h2=>by omega,fun _=>rfl⟩
 | d+1,i=>by
  rw [DJ,Bool.and_eq_true,El f d (i+1)]
  constructor
  ·rintro ⟨h1,h2⟩ j h3 h4
   by_cases e:j=i
   ·subst e;exact h1
   ·exact h2 j (by omega) (by omega)
  ·exact fun h=>⟨h i (by omega) (by omega),fun j h1 h2=>h j (by omega) (by omega)⟩
theorem Em (f:Nat→Bool) (i d:Nat):DJ f i (d+1)=(f i&&DJ f (i+1) d):=rfl
def GL (a b:Pt):Sg:=bif DX b.x b.y a.x a.y then ⟨b.x,b.y,a.x,a.y⟩ else ⟨a.x,a.y,b.x,b.y⟩
theorem JZ (a b:Pt) (h:a ≠ b):(BP a.x a.y b.x b.y∧GL a b=⟨a.x,a.y,b.x,b.y⟩) ∨ (BP b.x b.y a.x a.y∧GL a b=⟨b.x,b.y,a.x,a.y⟩):=by
 unfold GL
 cases hl:DX b.x b.y a.x a.y with
 | true=>exact .inr ⟨EH.1 hl,rfl⟩
 | false =>
  refine .inl ⟨?_,rfl⟩
  have:=IN.1 hl
  have:=pt_ne h
  unfold C8 at *
  unfold BP
  omega
def onS (s:Sg) (p:Pt):Prop:=RT s.x0 s.y0 s.x1 s.y1 p.x p.y
def Pr (s t:Sg):Prop:=Cr s.x0 s.y0 s.x1 s.y1 t.x0 t.y0 t.x1 t.y1
def LC (s:Sg):Prop:=BP s.x0 s.y0 s.x1 s.y1
theorem JY {a b:Pt} (h:a ≠ b):LC (GL a b):=by
 unfold LC
 rcases JZ a b h with ⟨h1,h2⟩ | ⟨h1,h2⟩ <;> rw [h2] <;> exact h1
theorem Wn {a b:Pt} (h:a ≠ b) {s:Sg} (hs:LC s) (ho:onS s a):Pr s (GL a b):=by
 unfold onS at ho
 unfold LC at hs
 unfold Pr
 rcases JZ a b h with ⟨h1,h2⟩ | ⟨h1,h2⟩ <;> rw [h2]
 ·exact Y4 hs h1 (.inl ho)
 ·exact Y4 hs h1 (.inr ho)
theorem IM {s t:Sg} (hs:LC s) (ht:LC t):Pr s t ↔ Pr t s:=⟨Rb hs ht,Rb ht hs⟩
end
noncomputable section
/-! ### function 100 -/
def fM (m:Nat) (g:Nat→F) (n:Int) (i:Int):St:=⟨Al 2 ((U.hp 0 0) :: (U.hs 1 m 0 m) :: Al 17 ((U.f (F.int .i64 n)) :: (U.f (F.int .i64 i)) :: Al 16 [])),[HO.box [(U.f (F.bool false)),U.nils],HO.arr 1 m g]⟩
def Xe {ρ:Type} (ret:Kz ρ) (c5:(Nat)→(Nat→F)→(Int)→(Int)→Option ρ) (m:Nat) (g:Nat→F) (n:Int) (i:Int):Option ρ :=
 (AD (decide (i<n))
 (AD (decide (m=m))
 (AD (decide (0≤i))
 (AD (decide (i<(↑m:Int)))
 (AD (decide (m=m))
 (AD (decide (0+i.toNat<m))
 (AD (decide ((g (0+i.toNat)).cells.length=1))
 (AD (okV (Value.int IntKind.u64 0) ((List.drop 0 (g (0+i.toNat)).cells).headD F.dflt)&&true)
 (AD (decide (m=m))
 (AD (decide (0≤i))
 (AD (decide (i<(↑m:Int)))
 (AD (decide (m=m))
 (AD (decide (0+i.toNat<m))
 (AD (decide ((g (0+i.toNat)).cells.length=1))
 (AD ((Cd (g (0+i.toNat)) || true)&&true)
 (c5 (m) (fun j ↦ if j=0+i.toNat then F.int .u64 (B8 BinOp.xor IntKind.u64 (if IntKind.u64.signed=true then -1 else IntKind.u64.max) (Hl ((List.drop 0 (g (0+i.toNat)).cells).headD F.dflt))) else g j) (n) (IntKind.i64.wrap (i+1)))
 none)
 none)
 none)
 none)
 none)
 none)
 none)
 none)
 none)
 none)
 none)
 none)
 none)
 none)
 (AD (decide (m=m))
 (AD (Ay (F.sl m (B9 0 g))&&decide ((AS (F.sl m (B9 0 g))).length≤1000))
 (AD (Ay (Ip [F.sl m (B9 0 g)])&&BB 900 (Ip [F.sl m (B9 0 g)])&&true)
 (AD (Ay (Ec [Ip [F.sl m (B9 0 g)],F.sl 1 (Ar [F.int .u64 1])])&&BB 1000 (Ec [Ip [F.sl m (B9 0 g)],F.sl 1 (Ar [F.int .u64 1])]))
 (ret (AF (sgn true (val 18446744073709551616 (AS (Ec [Ip [F.sl m (B9 0 g)],F.sl 1 (Ar [F.int .u64 1])]))))))
 none)
 none)
 none)
 none))
def Pd:Nat→(Nat)→(Nat→F)→(Int)→(Int)→Option (F)
 | 0,_,_,_,_=>none
 | k+1,m,g,n,i=>Xe some (Pd k) m g n i
def T100 {ρ:Type} (ret:Kz ρ) (c5:(Nat)→(Nat→F)→(Int)→(Int)→Option ρ) (a:Int) (b:Int) (c:Int) (d:Int):Option ρ :=
 (AD (a.fdiv (2 ^ min (Int.toNat 63) IntKind.u64.bits)==0)
 (AD (Ay (F.sl 4 (B9 0 (Ar [F.int .u64 d,F.int .u64 c,F.int .u64 b,F.int .u64 a])))&&true)
 (ret (AF (sgn false (val 18446744073709551616 (AS (F.sl 4 (B9 0 (Ar [F.int .u64 d,F.int .u64 c,F.int .u64 b,F.int .u64 a]))))))))
 none)
 (c5 (4) (Ar [F.int .u64 d,F.int .u64 c,F.int .u64 b,F.int .u64 a]) (((4:Nat):Int)) (0)))
def G100 (k:Nat) (a:Int) (b:Int) (c:Int) (d:Int):Option (F):=T100 some (Pd k) a b c d
theorem pS:∀ (k:Nat) (m:Nat) (g:Nat→F) (n:Int) (i:Int) (r:F),Pd k m g n i=some r→AX Tryz.prog Tryz.f100.results.toList (at_ Tryz.f100 5) (fM m g n i) (r)
 | 0,_,_,_,_,_,h=>nomatch h
 | k+1,m,g,n,i,r,h=>by
  refine AX.of_cut Au Jm (T:=[(5,[2,3,21,22],1000)]) (n:=200) ?_
  refine gE (Y:=Xe (fun r=>some (.ret (r))) (fun m g n i=>some (.cut (at_ Tryz.f100 5) (fM m g n i))) m g n i) (by kernel_rfl) ?_
  exact (gS h (fun _ h=>(gS h (fun _ h=>(gS h (fun _ h=>(gS h (fun _ h=>(gS h (fun _ h=>(gS h (fun _ h=>(gS h (fun _ h=>(gS h (fun _ h=>(gS h (fun _ h=>(gS h (fun _ h=>(gS h (fun _ h=>(gS h (fun _ h=>(gS h (fun _ h=>(gS h (fun _ h=>(gS h (fun _ h=>gC (pS k _ _ _ _ r h)) gN)) gN)) gN)) gN)) gN)) gN)) gN)) gN)) gN)) gN)) gN)) gN)) gN)) gN)) (fun _ h=>(gS h (fun _ h=>(gS h (fun _ h=>(gS h (fun _ h=>(gS h (fun _ h=>gR (by cases h;rfl)) gN)) gN)) gN)) gN)))
theorem t100 (k:Nat) (a:Int) (b:Int) (c:Int) (d:Int) (r:F) (h:G100 k a b c d=some r):AX Tryz.prog Tryz.f100.results.toList [.code (AT Tryz.f100)] (start Tryz.f100.ntmps ([F.agg [F.int .u64 a,F.int .u64 b,F.int .u64 c,F.int .u64 d]].map .f)) (r):=by
 refine AX.of_run Au Jm (T:=[(5,[2,3,21,22],1000)]) (n:=200) ?_
 refine gE (Y:=T100 (fun r=>some (.ret (r))) (fun m g n i=>some (.cut (at_ Tryz.f100 5) (fM m g n i))) a b c d) (by kernel_rfl) ?_
 exact (gS h (fun _ h=>(gS h (fun _ h=>gR (by cases h;rfl)) gN)) (fun _ h=>gC (pS k _ _ _ _ r h)))
def QD (a b c d:Int):Bool:=I7 a&&I7 b&&(I7 c&&I7 d)
theorem Rl {a b c d:Int}:QD a b c d=true ↔ ((0≤a∧a<18446744073709551616)∧(0≤b∧b<18446744073709551616))∧(0≤c∧c<18446744073709551616)∧(0≤d∧d<18446744073709551616):=by
 simp only [QD,Bool.and_eq_true,Ga]
def Af (a b c d:Int):Int:=if a<9223372036854775808 then d+18446744073709551616*(c+18446744073709551616*(b+18446744073709551616*a)) else d+18446744073709551616*(c+18446744073709551616*(b+18446744073709551616*a))-115792089237316195423570985008687907853269984665640564039457584007913129639936
theorem Mq {a b c d:Int} (h:QD a b c d=true):EC (Af a b c d)=true:=by
 have:=Rl.1 h
 rw [EV]
 unfold Af
 split <;> omega
theorem CQ {z:Int} (h:EC z=true):Af (wd3 z) (wd2 z) (wd1 z) (wd0 z)=z∧QD (wd3 z) (wd2 z) (wd1 z) (wd0 z)=true:=by
 have hw:=EV.1 h
 rw [Rl]
 simp only [Af,wd3,wd2,wd1,wd0,h,cond_true]
 refine ⟨?_,by omega⟩
 split <;> omega
def oQ (v:Nat→Nat):Nat:=v 0+18446744073709551616*(v 1+18446744073709551616*(v 2+18446744073709551616*v 3))
theorem TM {v:Nat→Nat} (hv:∀ j,v j<18446744073709551616):∀ (d i k:Nat) (g:Nat→F),i+d=4→d+1<k→(∀ j,j<4→g j=BK (if j<i then 18446744073709551616-1-v j else v j)) →
  Pd k 4 g ((4:Nat):Int) i=some (AF (-((115792089237316195423570985008687907853269984665640564039457584007913129639936-oQ v:Nat):Int)))
 | 0,i,k,g,hi,hk,hg=>by
  obtain ⟨k,rfl⟩:∃ j,k=j+2:=⟨k-2,by omega⟩
  have hg':∀ j,j<4→g j=BK ([18446744073709551616-1-v 0,18446744073709551616-1-v 1,18446744073709551616-1-v 2,18446744073709551616-1-v 3].getD j 0):=fun j hj=>by
   rw [hg j hj,if_pos (by omega)]
   match j,hj with
   | 0,_=>rfl
   | 1,_=>rfl
   | 2,_=>rfl
   | 3,_=>rfl
  have ho:okD 18446744073709551616 [18446744073709551616-1-v 0,18446744073709551616-1-v 1,18446744073709551616-1-v 2,18446744073709551616-1-v 3]:=fun w hw=>by
   simp at hw
   omega
  have e1:Ay (F.sl 4 (B9 0 g))=true:=DZ rfl hg' ho
  have e2:AS (F.sl 4 (B9 0 g))=[18446744073709551616-1-v 0,18446744073709551616-1-v 1,18446744073709551616-1-v 2,18446744073709551616-1-v 3]:=D3 rfl hg'
  have e3:Ip [F.sl 4 (B9 0 g)]=AL (CF [18446744073709551616-1-v 0,18446744073709551616-1-v 1,18446744073709551616-1-v 2,18446744073709551616-1-v 3]):=by
   show AL (CF (AS _))=_
   rw [e2]
  have ot:=O4 _ ho
  have e4:Ay (AL (CF [18446744073709551616-1-v 0,18446744073709551616-1-v 1,18446744073709551616-1-v 2,18446744073709551616-1-v 3]))=true:=GZ ot
  have hl:(CF [18446744073709551616-1-v 0,18446744073709551616-1-v 1,18446744073709551616-1-v 2,18446744073709551616-1-v 3]).length≤4:=by
   rw [Qo]
   simp only [List.length_take,List.length_cons,List.length_nil]
   omega
  have e5:BB 900 (AL (CF [18446744073709551616-1-v 0,18446744073709551616-1-v 1,18446744073709551616-1-v 2,18446744073709551616-1-v 3]))=true:=by
   rw [KE,Nat.ble_eq]
   omega
  have h0:=hv 0
  have h1:=hv 1
  have h2:=hv 2
  have h3:=hv 3
  have e6:Ec [AL (CF [18446744073709551616-1-v 0,18446744073709551616-1-v 1,18446744073709551616-1-v 2,18446744073709551616-1-v 3]),F.sl 1 (Ar [F.int .u64 1])]=AL (AM 18446744073709551616 (115792089237316195423570985008687907853269984665640564039457584007913129639936-oQ v)):=by
   have:AS (F.sl 1 (Ar [F.int .u64 1]))=[1]:=rfl
   simp only [Ec,this,CR,Ob]
   congr 2
   simp only [val,oQ]
   omega
  have hb:115792089237316195423570985008687907853269984665640564039457584007913129639936-oQ v<18446744073709551616 ^ 5:=by
   have:(18446744073709551616:Nat) ^ 5=18446744073709551616*115792089237316195423570985008687907853269984665640564039457584007913129639936:=rfl
   omega
  rw [Pd]
  unfold Xe
  rw [decide_eq_false (show ¬ (i:Int)<((4:Nat):Int) by omega),AJ,e1,e2,e3,e4,e5,e6,C2,Cv hb (show 5≤1000 by omega),DS,DN]
  rfl
 | d+1,i,k,g,hi,hk,hg=>by
  obtain ⟨k,rfl⟩:∃ j,k=j+1:=⟨k-1,by omega⟩
  have hx:g i=BK (v i):=by rw [hg i (by omega),if_neg (by omega)]
  rw [Pd]
  unfold Xe
  rw [Int.toNat_natCast,Nat.zero_add,hx,decide_eq_true (show (i:Int)<((4:Nat):Int) by omega),decide_eq_true (show 4=4 from rfl),decide_eq_true (show (0:Int)≤i by omega),decide_eq_true (show i<4 by omega),decide_eq_true (DO _),EW,XE,Wj,PB,not64 (hv i),As (by omega) (by omega)]
  simp only [AH,Bool.and_true]
  rw [show (i:Int)+1=((i+1:Nat):Int) by omega]
  refine TM hv d (i+1) k _ (by omega) (by omega) fun j hj=>?_
  by_cases hji:j=i
  ·subst hji
   rw [if_pos rfl,if_pos (by omega)]
   rfl
  ·rw [if_neg hji,hg j hj]
   by_cases hlt:j<i
   ·rw [if_pos hlt,if_pos (by omega)]
   ·rw [if_neg hlt,if_neg (by omega)]
theorem kY {a b c d:Int} (h:QD a b c d=true):G100 10 a b c d=some (AF (Af a b c d)):=by
 obtain ⟨⟨⟨a1,a2⟩,b1,b2⟩,⟨c1,c2⟩,d1,d2⟩:=Rl.1 h
 obtain ⟨a,rfl⟩:∃ n:Nat,a=n:=⟨a.toNat,by omega⟩
 obtain ⟨b,rfl⟩:∃ n:Nat,b=n:=⟨b.toNat,by omega⟩
 obtain ⟨c,rfl⟩:∃ n:Nat,c=n:=⟨c.toNat,by omega⟩
 obtain ⟨d,rfl⟩:∃ n:Nat,d=n:=⟨d.toNat,by omega⟩
 have hg:∀ j,j<4→Ar [F.int .u64 d,F.int .u64 c,F.int .u64 b,F.int .u64 a] j=BK ([d,c,b,a].getD j 0):=fun j hj=>by
  match j,hj with
  | 0,_=>rfl
  | 1,_=>rfl
  | 2,_=>rfl
  | 3,_=>rfl
 have ho:okD 18446744073709551616 [d,c,b,a]:=fun w hw=>by
  simp at hw
  omega
 unfold G100 T100
 rw [show ((2:Int) ^ min (Int.toNat 63) IntKind.u64.bits)=9223372036854775808 from rfl,Int.fdiv_eq_ediv_of_nonneg _ (by omega)]
 by_cases hc:a<9223372036854775808
 ·rw [show ((a:Int) / 9223372036854775808==0)=true by rw [beq_iff_eq];omega,AH,show Ay (F.sl 4 (B9 0 (Ar [F.int .u64 d,F.int .u64 c,F.int .u64 b,F.int .u64 a])))=true from DZ rfl hg ho,show AS (F.sl 4 (B9 0 (Ar [F.int .u64 d,F.int .u64 c,F.int .u64 b,F.int .u64 a])))=[d,c,b,a] from D3 rfl hg]
  simp only [Bool.and_true,AH,sgn,val,Bool.false_eq_true,if_false]
  refine congrArg some (congrArg AF ?_)
  unfold Af
  rw [if_pos (by omega)]
  omega
 ·rw [show ((a:Int) / 9223372036854775808==0)=false by rw [beq_eq_false_iff_ne];omega,AJ]
  have hv:∀ j,[d,c,b,a].getD j 0<18446744073709551616:=HX (by omega) ho
  have hgo:=TM hv 4 0 10 (Ar [F.int .u64 d,F.int .u64 c,F.int .u64 b,F.int .u64 a]) rfl (by omega) fun j hj=>by rw [if_neg (by omega)];exact hg j hj
  refine hgo.trans ?_
  refine congrArg some (congrArg AF ?_)
  unfold Af oQ
  rw [if_neg (by omega)]
  show -((115792089237316195423570985008687907853269984665640564039457584007913129639936-(d+18446744073709551616*(c+18446744073709551616*(b+18446744073709551616*a))):Nat):Int)=_
  omega
def preWs:List F→Bool | [.agg [.int .u64 a,.int .u64 b,.int .u64 c,.int .u64 d]]=>QD a b c d | _=>false
def resWs:List F→F | [.agg [.int .u64 a,.int .u64 b,.int .u64 c,.int .u64 d]]=>AF (Af a b c d) | _=>.dflt
theorem okWs:Ak Tryz.prog 100 preWs resWs :=
 B2 (c:=AT Tryz.f100) Tryz.func100 (by kernel_rfl) (by kernel_rfl) fun xs hp=>match xs,hp with
 | [.agg [.int .u64 a,.int .u64 b,.int .u64 c,.int .u64 d]],hp=>t100 10 a b c d _ (kY hp)
/-! ### function 60 -/
def T60 {ρ:Type} (ret:Kz ρ) (n:Int):Option ρ :=
 (AD (Ae n)
 (AD (Aq 399 (AC [F.int .i64 n]))
 (ret (F.agg [F.int .u64 (wd3 (AG (AC [F.int .i64 n]))),F.int .u64 (wd2 (AG (AC [F.int .i64 n]))),F.int .u64 (wd1 (AG (AC [F.int .i64 n]))),F.int .u64 (wd0 (AG (AC [F.int .i64 n])))]))
 none)
 none)
def G60 (n:Int):Option (F):=T60 some n
theorem t60 (n:Int) (r:F) (h:G60 n=some r):AX Tryz.prog Tryz.f60.results.toList [.code (AT Tryz.f60)] (start Tryz.f60.ntmps ([F.int .i64 n].map .f)) (r):=by
 refine AX.of_run Au Jm (T:=[]) (n:=200) ?_
 refine gE (Y:=T60 (fun r=>some (.ret (r))) n) (by kernel_rfl) ?_
 exact (gS h (fun _ h=>(gS h (fun _ h=>gR (by cases h;rfl)) gN)) gN)
theorem bN {n:Int} (h:Ae n=true):G60 n=some (Pg n):=by
 have r:AC [F.int .i64 n]=AF n:=rfl
 have hn:n.natAbs<18446744073709551616 ^ 1:=by have:=Bd.1 h;omega
 unfold G60 T60
 rw [r,h,B6 (Jp hn (show 1≤399 by omega)),B4]
 rfl
def Tk:List F→F | [.int .i64 n]=>Pg n | _=>.dflt
theorem rR:Ak Tryz.prog 60 O0 Tk :=
 B2 (c:=AT Tryz.f60) Tryz.func60 (by kernel_rfl) (by kernel_rfl) fun xs hp=>match xs,hp with
 | [.int .i64 n],hp=>t60 n _ (bN hp)
/-! ### function 45 -/
def T45 {ρ:Type} (ret:Kz ρ) (x0:Int) (y0:Int) (x1:Int) (y1:Int):Option ρ :=
 (AD (decide (I9 x0 y0 x1 y1 > 0))
 (ret (F.agg [F.int .i64 x1,F.int .i64 y1,F.int .i64 x0,F.int .i64 y0]))
 (ret (F.agg [F.int .i64 x0,F.int .i64 y0,F.int .i64 x1,F.int .i64 y1])))
def G45 (x0:Int) (y0:Int) (x1:Int) (y1:Int):Option (F):=T45 some x0 y0 x1 y1
theorem t45 (x0:Int) (y0:Int) (x1:Int) (y1:Int) (r:F) (h:G45 x0 y0 x1 y1=some r):AX Tryz.prog Tryz.f45.results.toList [.code (AT Tryz.f45)] (start Tryz.f45.ntmps ([F.agg [F.int .i64 x0,F.int .i64 y0],F.agg [F.int .i64 x1,F.int .i64 y1]].map .f)) (r):=by
 refine AX.of_run Au Jm (T:=[]) (n:=200) ?_
 refine gE (Y:=T45 (fun r=>some (.ret (r))) x0 y0 x1 y1) (by kernel_rfl) ?_
 exact (gS h (fun _ h=>gR (by cases h;rfl)) (fun _ h=>gR (by cases h;rfl)))
theorem aM (x0 y0 x1 y1:Int):decide (I9 x0 y0 x1 y1 > 0)=DX x1 y1 x0 y0:=by
 unfold I9
 cases h1:(x0==x1&&y0==y1) with
 | true =>
  simp only [Bool.and_eq_true,beq_iff_eq] at h1
  cases h2:DX x1 y1 x0 y0 with
  | false=>rfl
  | true =>
   have:=EH.1 h2
   unfold BP at this
   omega
 | false =>
  have hn:¬ (x0=x1∧y0=y1):=fun ⟨e1,e2⟩=>by rw [e1,e2,beq_self_eq_true,beq_self_eq_true] at h1;cases h1
  cases h2:DX x0 y0 x1 y1 <;> cases h3:DX x1 y1 x0 y0 <;> first | rfl | skip
  ·have h2:=IN.1 h2
   have h3:=IN.1 h3
   unfold C8 at h2 h3
   omega
  ·have h2:=EH.1 h2
   have h3:=EH.1 h3
   unfold BP at h2 h3
   omega
def qO:List F→F | [.agg [.int .i64 a,.int .i64 b],.agg [.int .i64 c,.int .i64 d]]=>sgF (GL ⟨a,b⟩ ⟨c,d⟩) | _=>.dflt
theorem okLeg:Ak Tryz.prog 45 Tt qO :=
 B2 (c:=AT Tryz.f45) Tryz.func45 (by kernel_rfl) (by kernel_rfl) fun xs hp=>match xs,hp with
 | [.agg [.int .i64 a,.int .i64 b],.agg [.int .i64 c,.int .i64 d]],hp=>t45 a b c d _ (by
   unfold G45 T45
   rw [aM]
   show _=some (sgF (GL ⟨a,b⟩ ⟨c,d⟩))
   unfold GL
   cases DX c d a b <;> rfl)
def envH5:Env:=((vD.add 100 (.pure preWs resWs)).add 60 (.pure O0 Tk)).add 45 (.pure Tt qO)
theorem R9:Az Tryz.prog envH5:=(Env.add_ok (Env.add_ok (Env.add_ok Jm okWs.sp) rR.sp) okLeg.sp)
end
noncomputable section
/-! ### function 43 -/
def T43 {ρ:Type} (ret:Kz ρ) (x:Int) (y:Int):Option ρ :=
 (AD (Ae x)
 (AD (Ae y)
 (ret (F.agg [F.int .u64 (wd3 x),F.int .u64 (wd2 x),F.int .u64 (wd1 x),F.int .u64 (wd0 x),F.int .u64 (wd3 y),F.int .u64 (wd2 y),F.int .u64 (wd1 y),F.int .u64 (wd0 y),F.int .u64 (wd3 1),F.int .u64 (wd2 1),F.int .u64 (wd1 1),F.int .u64 (wd0 1)]))
 none)
 none)
def G43 (x:Int) (y:Int):Option (F):=T43 some x y
theorem t43 (x:Int) (y:Int) (r:F) (h:G43 x y=some r):AX Tryz.prog Tryz.f43.results.toList [.code (AT Tryz.f43)] (start Tryz.f43.ntmps ([F.agg [F.int .i64 x,F.int .i64 y]].map .f)) (r):=by
 refine AX.of_run Au R9 (T:=[]) (n:=200) ?_
 refine gE (Y:=T43 (fun r=>some (.ret (r))) x y) (by kernel_rfl) ?_
 exact (gS h (fun _ h=>(gS h (fun _ h=>gR (by cases h;rfl)) gN)) gN)
def Ts:List F→Bool | [.agg [.int .i64 x,.int .i64 y]]=>Ae x&&Ae y | _=>false
def gG:List F→F | [.agg [.int .i64 x,.int .i64 y]]=>.agg [.int .u64 (wd3 x),.int .u64 (wd2 x),.int .u64 (wd1 x),.int .u64 (wd0 x),.int .u64 (wd3 y),.int .u64 (wd2 y),.int .u64 (wd1 y),.int .u64 (wd0 y),.int .u64 (wd3 1),.int .u64 (wd2 1),.int .u64 (wd1 1),.int .u64 (wd0 1)] | _=>.dflt
theorem okPtOf:Ak Tryz.prog 43 Ts gG :=
 B2 (c:=AT Tryz.f43) Tryz.func43 (by kernel_rfl) (by kernel_rfl) fun xs hp=>match xs,hp with
 | [.agg [.int .i64 x,.int .i64 y]],hp=>by
  simp only [Ts,Bool.and_eq_true] at hp
  exact t43 x y _ (by unfold G43 T43;rw [hp.1,hp.2];rfl)
/-! ### function 81 -/
def T81 {ρ:Type} (ret:Kz ρ) (a0:Int) (a1:Int) (a2:Int) (a3:Int) (a4:Int) (a5:Int) (a6:Int) (a7:Int) (a8:Int) (a9:Int) (a10:Int) (a11:Int):Option ρ :=
 (AD (QD a0 a1 a2 a3)
 (AD (QD a4 a5 a6 a7)
 (AD (QD a8 a9 a10 a11)
 (ret (F.agg [F.bool (decide (Af a0 a1 a2 a3<0)),AL (AM 18446744073709551616 (Af a0 a1 a2 a3).natAbs),F.bool (decide (Af a4 a5 a6 a7<0)),AL (AM 18446744073709551616 (Af a4 a5 a6 a7).natAbs),F.bool (decide (Af a8 a9 a10 a11<0)),AL (AM 18446744073709551616 (Af a8 a9 a10 a11).natAbs)]))
 none)
 none)
 none)
def G81 (a0:Int) (a1:Int) (a2:Int) (a3:Int) (a4:Int) (a5:Int) (a6:Int) (a7:Int) (a8:Int) (a9:Int) (a10:Int) (a11:Int):Option (F):=T81 some a0 a1 a2 a3 a4 a5 a6 a7 a8 a9 a10 a11
theorem t81 (a0:Int) (a1:Int) (a2:Int) (a3:Int) (a4:Int) (a5:Int) (a6:Int) (a7:Int) (a8:Int) (a9:Int) (a10:Int) (a11:Int) (r:F) (h:G81 a0 a1 a2 a3 a4 a5 a6 a7 a8 a9 a10 a11=some r):AX Tryz.prog Tryz.f81.results.toList [.code (AT Tryz.f81)] (start Tryz.f81.ntmps ([F.agg [F.int .u64 a0,F.int .u64 a1,F.int .u64 a2,F.int .u64 a3,F.int .u64 a4,F.int .u64 a5,F.int .u64 a6,F.int .u64 a7,F.int .u64 a8,F.int .u64 a9,F.int .u64 a10,F.int .u64 a11]].map .f)) (r):=by
 refine AX.of_run Au R9 (T:=[]) (n:=200) ?_
 refine gE (Y:=T81 (fun r=>some (.ret (r))) a0 a1 a2 a3 a4 a5 a6 a7 a8 a9 a10 a11) (by kernel_rfl) ?_
 exact (gS h (fun _ h=>(gS h (fun _ h=>(gS h (fun _ h=>gR (by cases h;rfl)) gN)) gN)) gN)
def EL (a0 a1 a2 a3 a4 a5 a6 a7 a8 a9 a10 a11:Int):Bool:=QD a0 a1 a2 a3&&QD a4 a5 a6 a7&&QD a8 a9 a10 a11
def rC:List F→Bool | [.agg [.int .u64 a0,.int .u64 a1,.int .u64 a2,.int .u64 a3,.int .u64 a4,.int .u64 a5,.int .u64 a6,.int .u64 a7,.int .u64 a8,.int .u64 a9,.int .u64 a10,.int .u64 a11]]=>EL a0 a1 a2 a3 a4 a5 a6 a7 a8 a9 a10 a11 | _=>false
def YH:List F→F | [.agg [.int .u64 a0,.int .u64 a1,.int .u64 a2,.int .u64 a3,.int .u64 a4,.int .u64 a5,.int .u64 a6,.int .u64 a7,.int .u64 a8,.int .u64 a9,.int .u64 a10,.int .u64 a11]]=>.agg [.bool (decide (Af a0 a1 a2 a3<0)),AL (AM 18446744073709551616 (Af a0 a1 a2 a3).natAbs),.bool (decide (Af a4 a5 a6 a7<0)),AL (AM 18446744073709551616 (Af a4 a5 a6 a7).natAbs),.bool (decide (Af a8 a9 a10 a11<0)),AL (AM 18446744073709551616 (Af a8 a9 a10 a11).natAbs)] | _=>.dflt
theorem okSpotN:Ak Tryz.prog 81 rC YH :=
 B2 (c:=AT Tryz.f81) Tryz.func81 (by kernel_rfl) (by kernel_rfl) fun xs hp=>match xs,hp with
 | [.agg [.int .u64 a0,.int .u64 a1,.int .u64 a2,.int .u64 a3,.int .u64 a4,.int .u64 a5,.int .u64 a6,.int .u64 a7,.int .u64 a8,.int .u64 a9,.int .u64 a10,.int .u64 a11]],hp=>by
  simp only [rC,EL,Bool.and_eq_true] at hp
  exact t81 a0 a1 a2 a3 a4 a5 a6 a7 a8 a9 a10 a11 _ (by unfold G81 T81;rw [hp.1.1,hp.1.2,hp.2];rfl)
def envH6:Env:=(envH5.add 43 (.pure Ts gG)).add 81 (.pure rC YH)
theorem R8:Az Tryz.prog envH6:=(Env.add_ok (Env.add_ok R9 okPtOf.sp) okSpotN.sp)
end
end Go.Proofs.YtonmnfkibnflnaaGreat.R
