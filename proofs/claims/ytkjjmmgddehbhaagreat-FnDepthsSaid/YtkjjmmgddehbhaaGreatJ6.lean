/-
 The own walk and what it shows,part 6 of 9.
-/
import Derived.Test.YtkjjmmgddehbhaaGreatJ1
import Derived.Test.YtkjjmmgddehbhaaGreatJ2
import Derived.Test.YtkjjmmgddehbhaaGreatJ3
import Derived.Test.YtkjjmmgddehbhaaGreatJ4
import Derived.Test.YtkjjmmgddehbhaaGreatJ5
set_option linter.unusedVariables false
set_option linter.unusedSimpArgs false
set_option maxRecDepth 100000
set_option exponentiation.threshold 30000
namespace Go.Proofs.YtkjjmmgddehbhaaGreat.R
open Go
noncomputable section
/-! ### function 96 -/
abbrev KJ62 (ρ:Type):=(F)→Option ρ
def T96 {ρ:Type} (ret:KJ62 ρ) (x:Int) (y:Int):Option ρ :=
 (bsel (isL1n 800 (l1nF y))
 (bsel (isL1n 800 (l1nF x)&&isL1n 800 (resNeg3 [l1nF y]))
 (ret (l1nF (unL1n (l1nF x)+unL1n (resNeg3 [l1nF y]))))
 none)
 none)
def G96 (x:Int) (y:Int):Option (F):=T96 some x y
theorem t96 (x:Int) (y:Int) (r:F) (h:G96 x y=some r):Ends Tryz.prog Tryz.f96.results.toList [.code (bodyOf Tryz.f96)] (start Tryz.f96.ntmps ([l1nF x,l1nF y].map .f)) (r):=by
 refine Ends.of_run tyOK envS3_ok (T:=[]) (n:=200) ?_
 refine gE (Y:=T96 (fun r=>some (.ret (r))) x y) (by kernel_rfl) ?_
 exact (gS h (fun _ h=>(gS h (fun _ h=>gR (by cases h;rfl)) gN)) gN)
theorem subZ_law {x y:Int} (hx:x.natAbs<4294967296 ^ 800) (hy:y.natAbs<4294967296 ^ 800):G96 x y=some (l1nF (x-y)):=by
 unfold G96 T96
 have h1:(-y).natAbs<4294967296 ^ 800:=by rw [Int.natAbs_neg];exact hy
 simp only [resNeg3,unL1n_l1nF,isL1n_l1nF hx,isL1n_l1nF hy,isL1n_l1nF h1,Bool.and_self,bsel_true]
 rfl
def resSubZ:List F→F | [x,y]=>l1nF (unL1n x-unL1n y) | _=>.dflt
theorem okSubZ:PureOK Tryz.prog 96 (preL2 800) resSubZ :=
 fn_pure_at (c:=bodyOf Tryz.f96) Tryz.func96 (by kernel_rfl) (by kernel_rfl) fun xs hp=>match xs,hp with
 | [x,y],hp=>by
  obtain ⟨hx,hy⟩:=preL2_iff hp
  exact ⟨[l1nF (unL1n x),l1nF (unL1n y)],_,⟨(l1n_eqv hx).1,(l1n_eqv hy).1,trivial⟩,t96 _ _ _ (subZ_law (natAbs_of_isL1n hx) (natAbs_of_isL1n hy)),.refl _⟩
/-! ### function 58 -/
def S58_5 (s:Bool) (a:List Nat) (t:Bool) (b:List Nat) (m:Nat) (g:Nat→F) (i:Int):St:=⟨bads 2 ((U.hp 0 0) :: (U.hp 1 0) :: (U.hp 2 0) :: (U.hs 3 m 0 m) :: (U.f (F.int .i64 i)) :: bads 83 []),[HO.box [(U.f (F.bool s)),(U.f (halvesF a))],HO.box [(U.f (F.bool t)),(U.f (halvesF b))],HO.box [(U.f (F.bool false)),U.nils],HO.arr 1 m g]⟩
def S58_9 (s:Bool) (a:List Nat) (t:Bool) (b:List Nat) (m:Nat) (g:Nat→F) (i:Int) (c:Int) (j:Int):St:=⟨bads 2 ((U.hp 0 0) :: (U.hp 1 0) :: (U.hp 2 0) :: (U.hs 3 m 0 m) :: (U.f (F.int .i64 i)) :: (U.f (F.int .u64 c)) :: (U.f (F.int .i64 j)) :: bads 81 []),[HO.box [(U.f (F.bool s)),(U.f (halvesF a))],HO.box [(U.f (F.bool t)),(U.f (halvesF b))],HO.box [(U.f (F.bool false)),U.nils],HO.arr 1 m g]⟩
abbrev KJ61 (ρ:Type):=(Bool)→(List Nat)→(Bool)→(List Nat)→(Nat)→(Nat→F)→(Int)→(Int)→(Int)→Option ρ
abbrev KJ63 (ρ:Type):=(Bool)→(List Nat)→(Bool)→(List Nat)→(Nat)→(Nat→F)→(Int)→Option ρ
def T58_5 {ρ:Type} (ret:KJ62 ρ) (c5:KJ63 ρ) (c9:KJ61 ρ) (s:Bool) (a:List Nat) (t:Bool) (b:List Nat) (m:Nat) (g:Nat→F) (i:Int):Option ρ :=
 (bsel (decide (i<(↑a.length:Int)))
 (c9 (s) (a) (t) (b) (m) (g) (i) (0) (0))
 (bsel (decide (m=m))
 (bsel (isHalves (F.sl m (offF 0 g))&&lenOk 2000 (F.sl m (offF 0 g)))
 (ret (l1nF (sgn (!s==t) (val 4294967296 (unHalves (F.sl m (offF 0 g)))))))
 none)
 none))
def T58_9 {ρ:Type} (ret:KJ62 ρ) (c5:KJ63 ρ) (c9:KJ61 ρ) (s:Bool) (a:List Nat) (t:Bool) (b:List Nat) (m:Nat) (g:Nat→F) (i:Int) (c:Int) (j:Int):Option ρ :=
 (bsel (decide (j<(↑b.length:Int)))
 (bsel (decide (0≤i))
 (bsel (decide (i<(↑a.length:Int)))
 (bsel (decide (0≤j))
 (bsel (decide (j<(↑b.length:Int)))
 (bsel (decide (m=m))
 (bsel (decide (0≤IntKind.i64.wrap (i+j)))
 (bsel (decide (IntKind.i64.wrap (i+j)<(↑m:Int)))
 (bsel (decide (m=m))
 (bsel (decide (0+(IntKind.i64.wrap (i+j)).toNat<m))
 (bsel (decide ((g (0+(IntKind.i64.wrap (i+j)).toNat)).cells.length=1))
 (bsel (okV (Value.int IntKind.u32 0) ((List.drop 0 (g (0+(IntKind.i64.wrap (i+j)).toNat)).cells).headD F.dflt)&&true)
 (bsel (decide (m=m))
 (bsel (decide (0≤IntKind.i64.wrap (i+j)))
 (bsel (decide (IntKind.i64.wrap (i+j)<(↑m:Int)))
 (bsel (decide (m=m))
 (bsel (decide (0+(IntKind.i64.wrap (i+j)).toNat<m))
 (bsel (decide ((g (0+(IntKind.i64.wrap (i+j)).toNat)).cells.length=1))
 (bsel ((isAggF (g (0+(IntKind.i64.wrap (i+j)).toNat)) || true)&&true)
 (c9 (s) (a) (t) (b) (m) (fun j_1 ↦ if j_1=0+(IntKind.i64.wrap (i+j)).toNat then F.int .u32 (IntKind.u32.wrap (IntKind.u64.wrap (IntKind.u64.wrap (c+IntKind.u64.wrap (IntKind.u64.wrap (↑(a.getD i.toNat 0):Int)*IntKind.u64.wrap (↑(b.getD j.toNat 0):Int)))+IntKind.u64.wrap (intOf ((List.drop 0 (g (0+(IntKind.i64.wrap (i+j)).toNat)).cells).headD F.dflt))))) else g j_1) (i) ((IntKind.u64.wrap (IntKind.u64.wrap (c+IntKind.u64.wrap (IntKind.u64.wrap (↑(a.getD i.toNat 0):Int)*IntKind.u64.wrap (↑(b.getD j.toNat 0):Int)))+IntKind.u64.wrap (intOf ((List.drop 0 (g (0+(IntKind.i64.wrap (i+j)).toNat)).cells).headD F.dflt)))).fdiv (2 ^ min (Int.toNat 32) IntKind.u64.bits)) (IntKind.i64.wrap (j+1)))
 none)
 none)
 none)
 none)
 none)
 none)
 none)
 none)
 none)
 none)
 none)
 none)
 none)
 none)
 none)
 none)
 none)
 none)
 (bsel (decide (m=m))
 (bsel (decide (0≤IntKind.i64.wrap (i+(↑b.length:Int))))
 (bsel (decide (IntKind.i64.wrap (i+(↑b.length:Int))<(↑m:Int)))
 (bsel (decide (m=m))
 (bsel (decide (0+(IntKind.i64.wrap (i+(↑b.length:Int))).toNat<m))
 (bsel (decide ((g (0+(IntKind.i64.wrap (i+(↑b.length:Int))).toNat)).cells.length=1))
 (bsel ((isAggF (g (0+(IntKind.i64.wrap (i+(↑b.length:Int))).toNat)) || true)&&true)
 (c5 (s) (a) (t) (b) (m) (fun j ↦ if j=0+(IntKind.i64.wrap (i+(↑b.length:Int))).toNat then F.int .u32 (IntKind.u32.wrap c) else g j) (IntKind.i64.wrap (i+1)))
 none)
 none)
 none)
 none)
 none)
 none)
 none))
mutual
def L58_5:Nat→(Bool)→(List Nat)→(Bool)→(List Nat)→(Nat)→(Nat→F)→(Int)→Option (F)
 | 0,_,_,_,_,_,_,_=>none
 | k+1,s,a,t,b,m,g,i=>T58_5 some (L58_5 k) (L58_9 k) s a t b m g i
def L58_9:Nat→(Bool)→(List Nat)→(Bool)→(List Nat)→(Nat)→(Nat→F)→(Int)→(Int)→(Int)→Option (F)
 | 0,_,_,_,_,_,_,_,_,_=>none
 | k+1,s,a,t,b,m,g,i,c,j=>T58_9 some (L58_5 k) (L58_9 k) s a t b m g i c j
end
def T58 {ρ:Type} (ret:KJ62 ρ) (c5:KJ63 ρ) (c9:KJ61 ρ) (x:Int) (y:Int):Option ρ :=
 (bsel (((↑(digs 4294967296 x.natAbs).length:Int)==0)==false)
 (bsel ((↑(digs 4294967296 y.natAbs).length:Int)==0)
 (ret (F.agg [F.bool false,F.sl 0 fun x ↦ F.bool false]))
 (bsel (decide (0≤IntKind.i64.wrap ((↑(digs 4294967296 x.natAbs).length:Int)+(↑(digs 4294967296 y.natAbs).length:Int))))
 (bsel (decide (IntKind.i64.wrap ((↑(digs 4294967296 x.natAbs).length:Int)+(↑(digs 4294967296 y.natAbs).length:Int))≤IntKind.i64.wrap ((↑(digs 4294967296 x.natAbs).length:Int)+(↑(digs 4294967296 y.natAbs).length:Int))))
 (bsel (decide (IntKind.i64.wrap ((↑(digs 4294967296 x.natAbs).length:Int)+(↑(digs 4294967296 y.natAbs).length:Int))*(((4:Nat):Int)+1)≤(↑limit:Int)))
 (c5 (decide (x<0)) (digs 4294967296 x.natAbs) (decide (y<0)) (digs 4294967296 y.natAbs) ((IntKind.i64.wrap ((↑(digs 4294967296 x.natAbs).length:Int)+(↑(digs 4294967296 y.natAbs).length:Int))).toNat) (fun x ↦ F.int .u32 0) (0))
 none)
 none)
 none))
 (ret (F.agg [F.bool false,F.sl 0 fun x ↦ F.bool false])))
def G58 (k:Nat) (x:Int) (y:Int):Option (F):=T58 some (L58_5 k) (L58_9 k) x y
mutual
theorem t58_5:∀ (k:Nat) (s:Bool) (a:List Nat) (t:Bool) (b:List Nat) (m:Nat) (g:Nat→F) (i:Int) (r:F),L58_5 k s a t b m g i=some r→Ends Tryz.prog Tryz.f58.results.toList (at_ Tryz.f58 5) (S58_5 s a t b m g i) (r)
 | 0,_,_,_,_,_,_,_,_,h=>nomatch h
 | k+1,s,a,t,b,m,g,i,r,h=>by
  refine Ends.of_cut tyOK envS3_ok (T:=[(5,[2,3,4,5,6],1000),(9,[2,3,4,5,6,7,8],1000)]) (n:=200) ?_
  refine gE (Y:=T58_5 (fun r=>some (.ret (r))) (fun s a t b m g i=>some (.cut (at_ Tryz.f58 5) (S58_5 s a t b m g i))) (fun s a t b m g i c j=>some (.cut (at_ Tryz.f58 9) (S58_9 s a t b m g i c j))) s a t b m g i) (by kernel_rfl) ?_
  exact (gS h (fun _ h=>gC (t58_9 k _ _ _ _ _ _ _ _ _ r h)) (fun _ h=>(gS h (fun _ h=>(gS h (fun _ h=>gR (by cases h;rfl)) gN)) gN)))
theorem t58_9:∀ (k:Nat) (s:Bool) (a:List Nat) (t:Bool) (b:List Nat) (m:Nat) (g:Nat→F) (i:Int) (c:Int) (j:Int) (r:F),L58_9 k s a t b m g i c j=some r→Ends Tryz.prog Tryz.f58.results.toList (at_ Tryz.f58 9) (S58_9 s a t b m g i c j) (r)
 | 0,_,_,_,_,_,_,_,_,_,_,h=>nomatch h
 | k+1,s,a,t,b,m,g,i,c,j,r,h=>by
  refine Ends.of_cut tyOK envS3_ok (T:=[(5,[2,3,4,5,6],1000),(9,[2,3,4,5,6,7,8],1000)]) (n:=200) ?_
  refine gE (Y:=T58_9 (fun r=>some (.ret (r))) (fun s a t b m g i=>some (.cut (at_ Tryz.f58 5) (S58_5 s a t b m g i))) (fun s a t b m g i c j=>some (.cut (at_ Tryz.f58 9) (S58_9 s a t b m g i c j))) s a t b m g i c j) (by kernel_rfl) ?_
  exact (gS h (fun _ h=>(gS h (fun _ h=>(gS h (fun _ h=>(gS h (fun _ h=>(gS h (fun _ h=>(gS h (fun _ h=>(gS h (fun _ h=>(gS h (fun _ h=>(gS h (fun _ h=>(gS h (fun _ h=>(gS h (fun _ h=>(gS h (fun _ h=>(gS h (fun _ h=>(gS h (fun _ h=>(gS h (fun _ h=>(gS h (fun _ h=>(gS h (fun _ h=>(gS h (fun _ h=>(gS h (fun _ h=>gC (t58_9 k _ _ _ _ _ _ _ _ _ r h)) gN)) gN)) gN)) gN)) gN)) gN)) gN)) gN)) gN)) gN)) gN)) gN)) gN)) gN)) gN)) gN)) gN)) gN)) (fun _ h=>(gS h (fun _ h=>(gS h (fun _ h=>(gS h (fun _ h=>(gS h (fun _ h=>(gS h (fun _ h=>(gS h (fun _ h=>(gS h (fun _ h=>gC (t58_5 k _ _ _ _ _ _ _ r h)) gN)) gN)) gN)) gN)) gN)) gN)) gN)))
end
theorem t58 (k:Nat) (x:Int) (y:Int) (r:F) (h:G58 k x y=some r):Ends Tryz.prog Tryz.f58.results.toList [.code (bodyOf Tryz.f58)] (start Tryz.f58.ntmps ([l1nF x,l1nF y].map .f)) (r):=by
 refine Ends.of_run tyOK envS3_ok (T:=[(5,[2,3,4,5,6],1000),(9,[2,3,4,5,6,7,8],1000)]) (n:=200) ?_
 refine gE (Y:=T58 (fun r=>some (.ret (r))) (fun s a t b m g i=>some (.cut (at_ Tryz.f58 5) (S58_5 s a t b m g i))) (fun s a t b m g i c j=>some (.cut (at_ Tryz.f58 9) (S58_9 s a t b m g i c j))) x y) (by kernel_rfl) ?_
 exact (gS h (fun _ h=>(gS h (fun _ h=>gR (by cases h;rfl)) (fun _ h=>(gS h (fun _ h=>(gS h (fun _ h=>(gS h (fun _ h=>gC (t58_5 k _ _ _ _ _ _ _ r h)) gN)) gN)) gN)))) (fun _ h=>gR (by cases h;rfl)))
theorem mul3_carry {x y o c:Nat} (hx:x<4294967296) (hy:y<4294967296) (ho:o<4294967296) (hc:c<4294967296) :
  F.int .u32 (IntKind.u32.wrap (IntKind.u64.wrap (IntKind.u64.wrap ((c:Int)+IntKind.u64.wrap (IntKind.u64.wrap (x:Int)*IntKind.u64.wrap (y:Int)))+IntKind.u64.wrap (o:Int))))=u32F ((x*y+o+c) % 4294967296) ∧
  (IntKind.u64.wrap (IntKind.u64.wrap ((c:Int)+IntKind.u64.wrap (IntKind.u64.wrap (x:Int)*IntKind.u64.wrap (y:Int)))+IntKind.u64.wrap (o:Int))).fdiv (2 ^ min (Int.toNat 32) IntKind.u64.bits)=(((x*y+o+c) / 4294967296:Nat):Int)∧(x*y+o+c) / 4294967296<4294967296:=by
 have h:=mul_step (B:=4294967296) (by omega) hx hy ho hc
 have hb:x*y+o+c<18446744073709551616:=by
  rw [Nat.div_lt_iff_lt_mul (by omega)] at h
  exact h
 have e:IntKind.u64.wrap (IntKind.u64.wrap ((c:Int)+IntKind.u64.wrap (IntKind.u64.wrap (x:Int)*IntKind.u64.wrap (y:Int)))+IntKind.u64.wrap (o:Int))=((x*y+o+c:Nat):Int):=by
  rw [wrapu_lt (show x<18446744073709551616 by omega),wrapu_lt (show y<18446744073709551616 by omega),wrapu_lt (show o<18446744073709551616 by omega),← Int.natCast_mul]
  clear h
  generalize x*y=p at *
  simp only [wrapN]
  omega
 rw [e,shr32]
 refine ⟨congrArg (F.int .u32) ?_,rfl,h⟩
 rw [wrap32]
 omega
theorem by3_inner {s t:Bool} {a b:List Nat} {m i:Nat} (oa:okD 4294967296 a) (ob:okD 4294967296 b) (hm:m=a.length+b.length) (hi:i<a.length) (hl:m≤1900) :
  ∀ (r j c k:Nat) (o:List Nat) (g:Nat→F),r+j=b.length→o.length=m→okD 4294967296 o→c<4294967296→(∀ q,i+j≤q→(j=0 ∨ i+b.length≤q)→(i+b.length≤q→o.getD q 0=0)) →
   (∀ q,q<m→g q=u32F (o.getD q 0))→r<k →
   ∃ o' g',L58_9 (k+1) s a t b m g i c j=L58_5 (k-r) s a t b m g' ((i+1:Nat):Int)∧o'.length=m∧okD 4294967296 o'∧(∀ q,i+1+b.length≤q→o'.getD q 0=0) ∧
    (∀ q,q<m→g' q=u32F (o'.getD q 0))∧val 4294967296 o'+4294967296 ^ i*a.getD i 0*val 4294967296 (b.take j)=val 4294967296 o+4294967296 ^ (i+j)*c+4294967296 ^ i*a.getD i 0*val 4294967296 b
 | r,j,c,0,o,g,_,_,_,_,_,_,hk=>by omega
 | 0,j,c,k+1,o,g,hr,ho,oo,hc,hz,hg,hk=>by
  obtain rfl:j=b.length:=by omega
  have hp:i+b.length<m:=by omega
  have ei:IntKind.i64.wrap ((i:Int)+(b.length:Int))=((i+b.length:Nat):Int):=by rw [wrapI (by omega) (by omega)];omega
  have e1:IntKind.i64.wrap ((i:Int)+1)=((i+1:Nat):Int):=by rw [wrapI (by omega) (by omega)];omega
  have e2:F.int .u32 (IntKind.u32.wrap (c:Int))=u32F c:=congrArg (F.int .u32) (by rw [wrap32];omega)
  refine ⟨o.set (i+b.length) c,_,?_,by simp [ho],okD_set oo hc,?_,halves_set ho hp hg,?_⟩
  ·rw [L58_9]
   unfold T58_9
   rw [decide_eq_false (show ¬ (b.length:Int)<b.length by omega),bsel_false,ei,e1,Int.toNat_natCast,decide_eq_true (show (0:Int)≤((i+b.length:Nat):Int) by omega),decide_eq_true (show ((i+b.length:Nat):Int)<(m:Int) by omega),dec_rfl,decide_eq_true (show 0+(i+b.length)<m by omega),hg (0+(i+b.length)) (by omega),decide_eq_true (u32_cells _),isAgg_or,e2]
   rfl
  ·intro q hq
   rw [getD_set (by omega)]
   exact hz q (by omega) (.inr (by omega)) (by omega)
  ·have h1:=val_set 4294967296 o (i+b.length) c (by omega)
   rw [hz (i+b.length) (by omega) (.inr (by omega)) (by omega),Nat.mul_zero,Nat.add_zero] at h1
   rw [h1,List.take_length]
 | r+1,j,c,k+1,o,g,hr,ho,oo,hc,hz,hg,hk=>by
  have hj:j<b.length:=by omega
  have hp:i+j<m:=by omega
  have hx:=getD_lt oa hi
  have hy:=getD_lt ob hj
  have hov:=getD_lt oo (show i+j<o.length by omega)
  obtain ⟨c1,c2,c6⟩:=mul3_carry hx hy hov hc
  have ei:IntKind.i64.wrap ((i:Int)+(j:Int))=((i+j:Nat):Int):=by rw [wrapI (by omega) (by omega)];omega
  have e1:IntKind.i64.wrap ((j:Int)+1)=((j+1:Nat):Int):=by rw [wrapI (by omega) (by omega)];omega
  obtain ⟨o',g',h1,h2,h3,h4,h5,h6⟩:=by3_inner (s:=s) (t:=t) oa ob hm hi hl r (j+1) ((a.getD i 0*b.getD j 0+o.getD (i+j) 0+c) / 4294967296) k (o.set (i+j) ((a.getD i 0*b.getD j 0+o.getD (i+j) 0+c) % 4294967296)) _ (by omega) (by simp [ho]) (okD_set oo (Nat.mod_lt _ (by omega))) c6
   (fun q hq _ hq2=>by rw [getD_set (by omega)];exact hz q (by omega) (.inr hq2) hq2) (halves_set ho hp hg) (by omega)
  refine ⟨o',g',?_,h2,h3,h4,h5,?_⟩
  ·rw [show k+1-(r+1)=k-r by omega,← h1]
   conv=>lhs;rw [L58_9]
   unfold T58_9
   rw [decide_eq_true (show (j:Int)<b.length by omega),decide_eq_true (show (0:Int)≤(j:Int) by omega),decide_eq_true (show (0:Int)≤(i:Int) by omega),decide_eq_true (show (i:Int)<a.length by omega),ei,e1,Int.toNat_natCast,Int.toNat_natCast,Int.toNat_natCast,decide_eq_true (show (0:Int)≤((i+j:Nat):Int) by omega),decide_eq_true (show ((i+j:Nat):Int)<(m:Int) by omega),dec_rfl,decide_eq_true (show 0+(i+j)<m by omega),hg (0+(i+j)) (by omega),decide_eq_true (u32_cells _),cell_ofH,okV_u32,intOf_u32,isAgg_or,Nat.zero_add,c1,c2]
   rfl
  ·have hs:=val_step (B:=4294967296) (o:=o) (p:=i+j) (c:=c) (x:=a.getD i 0) (y:=b.getD j 0) (by omega)
   have ht:=val_take_succ (B:=4294967296) (l:=b) hj
   rw [ht,Nat.mul_add] at h6
   have e2:4294967296 ^ (i+j)*(a.getD i 0*b.getD j 0)=4294967296 ^ i*a.getD i 0*(4294967296 ^ j*b.getD j 0):=by
    rw [Nat.pow_add,Nat.mul_assoc,Nat.mul_assoc]
    congr 1
    rw [Nat.mul_left_comm]
   rw [show i+(j+1)=i+j+1 by omega] at h6
   omega
theorem by3_outer {s t:Bool} {a b:List Nat} {m:Nat} (oa:okD 4294967296 a) (ob:okD 4294967296 b) (hm:m=a.length+b.length) (hl:m≤1900) :
  ∀ (r i k:Nat) (o:List Nat) (g:Nat→F),r+i=a.length→o.length=m→okD 4294967296 o→(∀ q,i+b.length≤q→o.getD q 0=0)→(∀ q,q<m→g q=u32F (o.getD q 0))→val 4294967296 o=val 4294967296 (a.take i)*val 4294967296 b →
   r*(b.length+3)<k→L58_5 k s a t b m g i=some (l1nF (sgn (!(s==t)) (val 4294967296 a*val 4294967296 b)))
 | r,i,0,o,g,_,_,_,_,_,_,hk=>by omega
 | 0,i,k+1,o,g,hr,ho,oo,hz,hg,hv,hk=>by
  obtain rfl:i=a.length:=by omega
  rw [List.take_length] at hv
  rw [L58_5]
  unfold T58_5
  rw [decide_eq_false (show ¬ (a.length:Int)<a.length by omega),bsel_false,show offF 0 g=g from rfl,unHalves_read ho hg,isHalves_read ho hg oo,show lenOk 2000 (.sl m g)=true from Nat.ble_eq_true_of_le (by omega),hv,dec_rfl]
  rfl
 | r+1,i,k+1,o,g,hr,ho,oo,hz,hg,hv,hk=>by
  have hi:i<a.length:=by omega
  rw [Nat.add_mul,Nat.one_mul] at hk
  obtain ⟨k',rfl⟩:∃ k',k=k'+1:=⟨k-1,by omega⟩
  obtain ⟨o',g',h1,h2,h3,h4,h5,h6⟩:=by3_inner (s:=s) (t:=t) oa ob hm hi hl b.length 0 0 k' o g (by omega) ho oo (by omega) (fun q _ _ hq=>hz q hq) hg (by omega)
  have hv':val 4294967296 o'=val 4294967296 (a.take (i+1))*val 4294967296 b:=by
   rw [val_take_succ hi,Nat.add_mul,← hv]
   simp only [List.take_zero,val,Nat.mul_zero,Nat.add_zero] at h6
   exact h6
  rw [L58_5]
  unfold T58_5
  rw [decide_eq_true (show (i:Int)<a.length by omega),bsel_true]
  exact h1.trans (by3_outer (s:=s) (t:=t) oa ob hm hl r (i+1) (k'-b.length) o' g' (by omega) h2 h3 (fun q hq=>h4 q hq) h5 hv' (by omega))
theorem mulZ_law {x y:Int} (hx:x.natAbs<4294967296 ^ 900) (hy:y.natAbs<4294967296 ^ 900):∃ r,G58 2000000 x y=some r∧FLe r (l1nF (x*y)):=by
 have lx:=digsH_len hx
 have ly:=digsH_len hy
 clear hx hy
 have z:FLe (F.agg [.bool false,.sl 0 fun _=>F.bool false]) (l1nF 0):=by
  unfold l1nF
  rw [show digs 4294967296 (Int.natAbs 0)=[] from digs_zero _]
  exact FLe.agg ⟨.refl _,FLe.sl fun j hj=>by omega,trivial⟩
 unfold G58 T58
 by_cases hx0:x=0
 ·subst hx0
  rw [show digs 4294967296 (Int.natAbs 0)=[] from digs_zero _,Int.zero_mul]
  exact ⟨_,rfl,z⟩
 have px:=digsH_len_pos (n:=x.natAbs).2 (by omega)
 rw [show (((digs 4294967296 x.natAbs).length:Int)==0)=false by simp only [beq_eq_false_iff_ne,ne_eq];omega,show (false==false)=true from rfl,bsel_true]
 by_cases hy0:y=0
 ·subst hy0
  rw [show digs 4294967296 (Int.natAbs 0)=[] from digs_zero _,Int.mul_zero]
  exact ⟨_,rfl,z⟩
 have py:=digsH_len_pos (n:=y.natAbs).2 (by omega)
 have ew:IntKind.i64.wrap (((digs 4294967296 x.natAbs).length:Int)+((digs 4294967296 y.natAbs).length:Int))=(((digs 4294967296 x.natAbs).length+(digs 4294967296 y.natAbs).length:Nat):Int):=by
  rw [wrapI (by omega) (by omega)];omega
 rw [ew,show (((digs 4294967296 y.natAbs).length:Int)==0)=false by simp only [beq_eq_false_iff_ne,ne_eq];omega,bsel_false]
 rw [decide_eq_true (show (0:Int)≤(((digs 4294967296 x.natAbs).length+(digs 4294967296 y.natAbs).length:Nat):Int) by omega),decide_eq_true (Int.le_refl _),decide_eq_true (limit_ok4 (show (digs 4294967296 x.natAbs).length+(digs 4294967296 y.natAbs).length≤3000 by omega)),Int.toNat_natCast]
 simp only [bsel_true]
 have fuel:(digs 4294967296 x.natAbs).length*((digs 4294967296 y.natAbs).length+3)<2000000:=Nat.lt_of_le_of_lt (Nat.mul_le_mul lx (show (digs 4294967296 y.natAbs).length+3≤903 by omega)) (by decide)
 have h:=by3_outer (s:=decide (x<0)) (t:=decide (y<0)) (a:=digs 4294967296 x.natAbs) (b:=digs 4294967296 y.natAbs) (okD_digs (by omega) _) (okD_digs (by omega) _) rfl (by omega) (digs 4294967296 x.natAbs).length 0 2000000 (List.replicate ((digs 4294967296 x.natAbs).length+(digs 4294967296 y.natAbs).length) 0) (fun _=>F.int .u32 0) rfl (by simp)
  (fun w hw=>by have:=(List.mem_replicate.1 hw).2;omega) (fun q hq=>by simp [List.getD,List.getElem?_replicate];split <;> rfl) (fun q hq=>by simp [List.getD,List.getElem?_replicate,u32F,hq]) (by rw [val_zeros];simp [val]) fuel
 rw [val_digsH,val_digsH,sgn_mul] at h
 exact ⟨_,h,.refl _⟩
def resMulZ:List F→F | [x,y]=>l1nF (unL1n x*unL1n y) | _=>.dflt
theorem okMulZ:PureOK Tryz.prog 58 (preL2 900) resMulZ :=
 fn_pure_at (c:=bodyOf Tryz.f58) Tryz.func58 (by kernel_rfl) (by kernel_rfl) fun xs hp=>match xs,hp with
 | [x,y],hp=>by
  obtain ⟨hx,hy⟩:=preL2_iff hp
  obtain ⟨r,e,hr⟩:=mulZ_law (natAbs_of_isL1n hx) (natAbs_of_isL1n hy)
  exact ⟨[l1nF (unL1n x),l1nF (unL1n y)],_,⟨(l1n_eqv hx).1,(l1n_eqv hy).1,trivial⟩,t58 2000000 _ _ _ e,hr⟩
/-! ### function 94 -/
def S94_7 (b:List Nat) (m:Nat) (g:Nat→F) (e:List Nat) (i:Int):St:=⟨bads 1 ((U.f (halvesF b)) :: bads 5 ((U.hs 0 m 0 m) :: (U.f (halvesF e)) :: (U.f (F.int .i64 i)) :: bads 49 [])),[HO.arr 1 m g]⟩
def T94_7 {ρ:Type} (ret:KJ62 ρ) (c7:(List Nat)→(Nat)→(Nat→F)→(List Nat)→(Int)→Option ρ) (b:List Nat) (m:Nat) (g:Nat→F) (e:List Nat) (i:Int):Option ρ :=
 (bsel (decide (i ≥ 0))
 (bsel (isHalves (halvesF b)&&isLeft (unHalves (halvesF b)).length i)
 (bsel (isTrimH 800 (halvesF e)&&isTrimH 800 (halvesF (digs 4294967296 (val 4294967296 (unHalves (halvesF b))*2 ^ i.toNat))))
 (bsel (decide (((↑(val 4294967296 (unHalves (halvesF e))):Int)-(↑(val 4294967296 (unHalves (halvesF (digs 4294967296 (val 4294967296 (unHalves (halvesF b))*2 ^ i.toNat))))):Int)).sign ≥ 0))
 (bsel (isHalves (halvesF e)&&lenOk 1900 (halvesF e)&&(isHalves (halvesF (digs 4294967296 (val 4294967296 (unHalves (halvesF b))*2 ^ i.toNat)))&&lenOk 1900 (halvesF (digs 4294967296 (val 4294967296 (unHalves (halvesF b))*2 ^ i.toNat)))))
 (bsel (isHalves (resSub3 [halvesF e,halvesF (digs 4294967296 (val 4294967296 (unHalves (halvesF b))*2 ^ i.toNat))])&&lenOk 2000 (resSub3 [halvesF e,halvesF (digs 4294967296 (val 4294967296 (unHalves (halvesF b))*2 ^ i.toNat))]))
 (bsel (decide (m=m))
 (bsel (decide (0≤IntKind.i64.wrap (i.tdiv 32)))
 (bsel (decide (IntKind.i64.wrap (i.tdiv 32)<(↑m:Int)))
 (bsel (decide (m=m))
 (bsel (decide (0+(IntKind.i64.wrap (i.tdiv 32)).toNat<m))
 (bsel (decide ((g (0+(IntKind.i64.wrap (i.tdiv 32)).toNat)).cells.length=1))
 (bsel (okV (Value.int IntKind.u32 0) ((List.drop 0 (g (0+(IntKind.i64.wrap (i.tdiv 32)).toNat)).cells).headD F.dflt)&&true)
 (bsel (decide (0≤IntKind.u64.wrap (i.tmod 32)))
 (bsel (decide (m=m))
 (bsel (decide (0≤IntKind.i64.wrap (i.tdiv 32)))
 (bsel (decide (IntKind.i64.wrap (i.tdiv 32)<(↑m:Int)))
 (bsel (decide (m=m))
 (bsel (decide (0+(IntKind.i64.wrap (i.tdiv 32)).toNat<m))
 (bsel (decide ((g (0+(IntKind.i64.wrap (i.tdiv 32)).toNat)).cells.length=1))
 (bsel ((isAggF (g (0+(IntKind.i64.wrap (i.tdiv 32)).toNat)) || true)&&true)
 (c7 (b) (m) (fun j ↦ if j=0+(IntKind.i64.wrap (i.tdiv 32)).toNat then F.int .u32 (bitsOp BinOp.or IntKind.u32 (intOf ((List.drop 0 (g (0+(IntKind.i64.wrap (i.tdiv 32)).toNat)).cells).headD F.dflt)) (IntKind.u32.wrap (1*2 ^ min (IntKind.u64.wrap (i.tmod 32)).toNat IntKind.u32.bits))) else g j) (digs 4294967296 (sgn false (val 4294967296 (unHalves (resSub3 [halvesF e,halvesF (digs 4294967296 (val 4294967296 (unHalves (halvesF b))*2 ^ i.toNat))])))).natAbs) (IntKind.i64.wrap (i-1)))
 none)
 none)
 none)
 none)
 none)
 none)
 none)
 none)
 none)
 none)
 none)
 none)
 none)
 none)
 none)
 none)
 none)
 (c7 (b) (m) (g) (e) (IntKind.i64.wrap (i-1))))
 none)
 none)
 (bsel (decide (m=m))
 (bsel (isHalves (F.sl m (offF 0 g))&&lenOk 2000 (F.sl m (offF 0 g)))
 (ret (F.tup [halvesF (digs 4294967296 (sgn false (val 4294967296 (unHalves (F.sl m (offF 0 g))))).natAbs),halvesF e]))
 none)
 none))
def L94_7:Nat→(List Nat)→(Nat)→(Nat→F)→(List Nat)→(Int)→Option (F)
 | 0,_,_,_,_,_=>none
 | k+1,b,m,g,e,i=>T94_7 some (L94_7 k) b m g e i
def T94 {ρ:Type} (ret:KJ62 ρ) (c7:(List Nat)→(Nat)→(Nat→F)→(List Nat)→(Int)→Option ρ) (a:List Nat) (b:List Nat):Option ρ :=
 (bsel (isTrimH 800 (halvesF a))
 (bsel (isTrimH 800 (halvesF b))
 (bsel (decide (IntKind.i64.wrap ((↑(Go.Proofs.YtkjjmmgddehbhaaGreat.R.bitLen (val 4294967296 (unHalves (halvesF a)))):Int)-(↑(Go.Proofs.YtkjjmmgddehbhaaGreat.R.bitLen (val 4294967296 (unHalves (halvesF b)))):Int))<0))
 (ret (F.tup [F.sl 0 fun x ↦ F.bool false,halvesF a]))
 (bsel (decide (0≤IntKind.i64.wrap (IntKind.i64.wrap ((IntKind.i64.wrap ((↑(Go.Proofs.YtkjjmmgddehbhaaGreat.R.bitLen (val 4294967296 (unHalves (halvesF a)))):Int)-(↑(Go.Proofs.YtkjjmmgddehbhaaGreat.R.bitLen (val 4294967296 (unHalves (halvesF b)))):Int))).tdiv 32)+1)))
 (bsel (decide (IntKind.i64.wrap (IntKind.i64.wrap ((IntKind.i64.wrap ((↑(Go.Proofs.YtkjjmmgddehbhaaGreat.R.bitLen (val 4294967296 (unHalves (halvesF a)))):Int)-(↑(Go.Proofs.YtkjjmmgddehbhaaGreat.R.bitLen (val 4294967296 (unHalves (halvesF b)))):Int))).tdiv 32)+1)≤IntKind.i64.wrap (IntKind.i64.wrap ((IntKind.i64.wrap ((↑(Go.Proofs.YtkjjmmgddehbhaaGreat.R.bitLen (val 4294967296 (unHalves (halvesF a)))):Int)-(↑(Go.Proofs.YtkjjmmgddehbhaaGreat.R.bitLen (val 4294967296 (unHalves (halvesF b)))):Int))).tdiv 32)+1)))
 (bsel (decide (IntKind.i64.wrap (IntKind.i64.wrap ((IntKind.i64.wrap ((↑(Go.Proofs.YtkjjmmgddehbhaaGreat.R.bitLen (val 4294967296 (unHalves (halvesF a)))):Int)-(↑(Go.Proofs.YtkjjmmgddehbhaaGreat.R.bitLen (val 4294967296 (unHalves (halvesF b)))):Int))).tdiv 32)+1)*(((4:Nat):Int)+1)≤(↑limit:Int)))
 (c7 (b) ((IntKind.i64.wrap (IntKind.i64.wrap ((IntKind.i64.wrap ((↑(Go.Proofs.YtkjjmmgddehbhaaGreat.R.bitLen (val 4294967296 (unHalves (halvesF a)))):Int)-(↑(Go.Proofs.YtkjjmmgddehbhaaGreat.R.bitLen (val 4294967296 (unHalves (halvesF b)))):Int))).tdiv 32)+1)).toNat) (fun x ↦ F.int .u32 0) (a) (IntKind.i64.wrap ((↑(Go.Proofs.YtkjjmmgddehbhaaGreat.R.bitLen (val 4294967296 (unHalves (halvesF a)))):Int)-(↑(Go.Proofs.YtkjjmmgddehbhaaGreat.R.bitLen (val 4294967296 (unHalves (halvesF b)))):Int))))
 none)
 none)
 none))
 none)
 none)
def G94 (k:Nat) (a:List Nat) (b:List Nat):Option (F):=T94 some (L94_7 k) a b
theorem t94_7:∀ (k:Nat) (b:List Nat) (m:Nat) (g:Nat→F) (e:List Nat) (i:Int) (r:F),L94_7 k b m g e i=some r→Ends Tryz.prog Tryz.f94.results.toList (at_ Tryz.f94 7) (S94_7 b m g e i) (r)
 | 0,_,_,_,_,_,_,h=>nomatch h
 | k+1,b,m,g,e,i,r,h=>by
  refine Ends.of_cut tyOK envS3_ok (T:=[(7,[1,7,8,9],1000)]) (n:=200) ?_
  refine gE (Y:=T94_7 (fun r=>some (.ret (r))) (fun b m g e i=>some (.cut (at_ Tryz.f94 7) (S94_7 b m g e i))) b m g e i) (by kernel_rfl) ?_
  exact (gS h (fun _ h=>(gS h (fun _ h=>(gS h (fun _ h=>(gS h (fun _ h=>(gS h (fun _ h=>(gS h (fun _ h=>(gS h (fun _ h=>(gS h (fun _ h=>(gS h (fun _ h=>(gS h (fun _ h=>(gS h (fun _ h=>(gS h (fun _ h=>(gS h (fun _ h=>(gS h (fun _ h=>(gS h (fun _ h=>(gS h (fun _ h=>(gS h (fun _ h=>(gS h (fun _ h=>(gS h (fun _ h=>(gS h (fun _ h=>(gS h (fun _ h=>gC (t94_7 k _ _ _ _ _ r h)) gN)) gN)) gN)) gN)) gN)) gN)) gN)) gN)) gN)) gN)) gN)) gN)) gN)) gN)) gN)) gN)) gN)) (fun _ h=>gC (t94_7 k _ _ _ _ _ r h)))) gN)) gN)) (fun _ h=>(gS h (fun _ h=>(gS h (fun _ h=>gR (by cases h;rfl)) gN)) gN)))
theorem t94 (k:Nat) (a:List Nat) (b:List Nat) (r:F) (h:G94 k a b=some r):Ends Tryz.prog Tryz.f94.results.toList [.code (bodyOf Tryz.f94)] (start Tryz.f94.ntmps ([halvesF a,halvesF b].map .f)) (r):=by
 refine Ends.of_run tyOK envS3_ok (T:=[(7,[1,7,8,9],1000)]) (n:=200) ?_
 refine gE (Y:=T94 (fun r=>some (.ret (r))) (fun b m g e i=>some (.cut (at_ Tryz.f94 7) (S94_7 b m g e i))) a b) (by kernel_rfl) ?_
 exact (gS h (fun _ h=>(gS h (fun _ h=>(gS h (fun _ h=>gR (by cases h;rfl)) (fun _ h=>(gS h (fun _ h=>(gS h (fun _ h=>(gS h (fun _ h=>gC (t94_7 k _ _ _ _ _ r h)) gN)) gN)) gN)))) gN)) gN)
theorem or32 {a b:Nat} (ha:a<4294967296) (hb:b<4294967296) (h:a ||| b<4294967296):bitsOp .or .u32 (a:Int) (b:Int)=((a ||| b:Nat):Int):=by
 have e:∀ n:Nat,BitVec.ofInt 32 (n:Int)=BitVec.ofNat 32 n:=fun n=>by
  apply BitVec.eq_of_toNat_eq
  rw [BitVec.toNat_ofInt,BitVec.toNat_ofNat]
  omega
 rw [show bitsOp .or .u32 (a:Int) (b:Int)=IntKind.u32.wrap ((BitVec.ofInt 32 (a:Int) ||| BitVec.ofInt 32 (b:Int)).toNat:Int) from rfl,e,e,BitVec.toNat_or,BitVec.toNat_ofNat,BitVec.toNat_ofNat,Nat.mod_eq_of_lt (show a<2 ^ 32 from ha),Nat.mod_eq_of_lt (show b<2 ^ 32 from hb),wrap32]
 omega
theorem bound_upC {x n m:Nat} (h:x<4294967296 ^ n) (hn:n≤m):x<4294967296 ^ m:=Nat.lt_of_lt_of_le h (Nat.pow_le_pow_right (by omega) hn)
theorem div3_loop {a b N:Nat} (hb:0<b) (ha:a<4294967296 ^ 700) (hbN:b*2 ^ N<4294967296 ^ 700) (hN:N≤30000) (hlb:(digs 4294967296 b).length≤700) :
  ∀ (n k rest:Nat) (o:List Nat) (g:Nat→F),n≤N+1→n<k→DivInv a b n rest (val 4294967296 o)→o.length=N / 32+1→okD 4294967296 o→(∀ j,j<N / 32+1→g j=u32F (o.getD j 0)) →
   L94_7 k (digs 4294967296 b) (N / 32+1) g (digs 4294967296 rest) ((n:Int)-1)=some (.tup [halvesF (digs 4294967296 (a / b)),halvesF (digs 4294967296 (a % b))])
 | _,0,_,_,_,_,hk,_,_,_,_=>by omega
 | 0,k+1,rest,o,g,hn,hk,hI,ho,oo,hg=>by
  obtain ⟨q1,q2⟩:=hI.done
  have sg:∀ n:Nat,(sgn false n).natAbs=n:=sgn_natAbs false
  rw [L94_7]
  unfold T94_7
  rw [decide_eq_false (show ¬ ((0:Nat):Int)-1 ≥ 0 by omega),bsel_false,dec_rfl,bsel_true,show offF 0 g=g from rfl,isHalves_read ho hg oo,unHalves_read ho hg,show lenOk 2000 (F.sl (N / 32+1) g)=true by simp only [lenOk,Nat.ble_eq];omega,sg,q1,q2]
  rfl
 | n+1,k+1,rest,o,g,hn,hk,hI,ho,oo,hg=>by
  have hra:rest≤a:=by have:=hI.eq;omega
  have hrest:rest<4294967296 ^ 700:=by omega
  have hs:b*2 ^ n<4294967296 ^ 700:=Nat.lt_of_le_of_lt (Nat.mul_le_mul_left _ (Nat.pow_le_pow_right (by omega) (by omega))) hbN
  have t1:=isTrimH_digs (bound_upC hrest (show 700≤800 by omega))
  have t2:=isTrimH_digs (bound_upC hs (show 700≤800 by omega))
  have l1:lenOk 1900 (halvesF (digs 4294967296 rest))=true:=lenOkH_digs hrest (by omega)
  have l2:lenOk 1900 (halvesF (digs 4294967296 (b*2 ^ n)))=true:=lenOkH_digs hs (by omega)
  have lr:=digsH_len hrest
  have hl:isLeft (digs 4294967296 b).length (n:Int)=true:=by
   simp only [isLeft,Bool.and_eq_true,decide_eq_true_eq,Nat.ble_eq,Int.toNat_natCast]
   omega
  have d1:=isHalves_halvesF (okD_subL (B:=4294967296) (by omega) (digs 4294967296 rest) (digs 4294967296 (b*2 ^ n)) 0)
  have d2:lenOk 2000 (halvesF (subL 4294967296 (digs 4294967296 rest) (digs 4294967296 (b*2 ^ n)) 0))=true:=by rw [lenOk_halvesF,Nat.ble_eq,len_subL];omega
  have sg:∀ n:Nat,(sgn false n).natAbs=n:=sgn_natAbs false
  have ei:((n+1:Nat):Int)-1=(n:Int):=by omega
  have ew:IntKind.i64.wrap ((n:Int)-1)=(n:Int)-1:=by rw [wrapI (by omega) (by omega)]
  have e1:IntKind.i64.wrap ((n:Int).tdiv 32)=((n / 32:Nat):Int):=by
   rw [show (n:Int).tdiv 32=((n / 32:Nat):Int) from rfl,wrapI (by omega) (by omega)]
  have e2:IntKind.u64.wrap ((n:Int).tmod 32)=((n % 32:Nat):Int):=by
   rw [show (n:Int).tmod 32=((n % 32:Nat):Int) from rfl,wrapu_lt (by omega)]
  have hm32:n % 32<32:=Nat.mod_lt _ (by omega)
  have e3:min ((n % 32:Nat):Int).toNat IntKind.u32.bits=n % 32:=by rw [Int.toNat_natCast];exact Nat.min_eq_left (by show n % 32≤32;omega)
  have p32:2 ^ (n % 32)≤2 ^ 31:=Nat.pow_le_pow_right (by omega) (by omega)
  have e4:IntKind.u32.wrap (1*2 ^ (n % 32))=((2 ^ (n % 32):Nat):Int):=by
   have p33:2 ^ (n % 32)<4294967296:=Nat.lt_of_le_of_lt p32 (by decide)
   rw [Int.one_mul,pow_cast,wrap32,show (4294967296:Int)=((4294967296:Nat):Int) from rfl,← Int.natCast_emod,Nat.mod_eq_of_lt p33]
  clear hrest hs
  rw [L94_7]
  unfold T94_7
  rw [ei]
  simp only [resSub3,unHalves_digs,unHalves_halvesF,val_digsH,Int.toNat_natCast (n:=n),isHalves_digs,t1,t2,l1,l2,hl,d1,d2,Bool.and_self,bsel_true,decide_eq_true (show (n:Int) ≥ 0 by omega)]
  by_cases hc:b*2 ^ n≤rest
  ·have hI':=hI.take hc
   obtain ⟨b1,b2⟩:=bit_set oo (show n / 32<o.length by omega) hI.dvd
   have hq:=getD_lt oo (show n / 32<o.length by omega)
   have hlong:(digs 4294967296 (b*2 ^ n)).length≤(digs 4294967296 rest).length:=by
    rcases Nat.lt_or_ge (digs 4294967296 rest).length (digs 4294967296 (b*2 ^ n)).length with h1 | h1
    ·have:=val_longer (B:=4294967296) (by omega) (okD_digs (by omega) rest) (trimD_digs (by omega) (b*2 ^ n)) h1
     rw [val_digsH,val_digsH] at this
     omega
    ·exact h1
   have hv:val 4294967296 (subL 4294967296 (digs 4294967296 rest) (digs 4294967296 (b*2 ^ n)) 0)=rest-b*2 ^ n:=by
    have:=val_subL (B:=4294967296) (by omega) (digs 4294967296 rest) (digs 4294967296 (b*2 ^ n)) 0 (okD_digs (by omega) _) (okD_digs (by omega) _) (by omega) hlong (by rw [val_digsH,val_digsH];omega)
    rw [val_digsH,val_digsH] at this
    omega
   rw [← b2] at hI'
   have ih:=div3_loop (a:=a) hb (by assumption) (by assumption) hN hlb n k (rest-b*2 ^ n) (o.set (n / 32) (o.getD (n / 32) 0 ||| 2 ^ (n % 32))) (fun j=>if j=0+n / 32 then F.int .u32 ((o.getD (n / 32) 0 ||| 2 ^ (n % 32):Nat):Int) else g j) (by omega) (by omega) hI' (by rw [List.length_set];exact ho) (okD_set oo b1) (halves_set ho (by omega) hg)
   rw [decide_eq_true (show ((rest:Int)-((b*2 ^ n:Nat):Int)).sign ≥ 0 from Int.sign_nonneg_iff.2 (by omega)),bsel_true,hv,sg,e1,e2,e3,e4,ew,Int.toNat_natCast,Nat.zero_add,hg (n / 32) (by omega),cell_ofH,okV_u32,intOf_u32,or32 hq (by omega) b1,isAgg_or,decide_eq_true (u32_cells _)]
   rw [decide_eq_true (show (0:Int)≤((n / 32:Nat):Int) by omega),decide_eq_true (show ((n / 32:Nat):Int)<((N / 32+1:Nat):Int) by omega),decide_eq_true (show n / 32<N / 32+1 by omega),decide_eq_true (show (0:Int)≤((n % 32:Nat):Int) by omega)]
   simp only [bsel_true,decide_true]
   rw [Nat.zero_add] at ih
   exact ih
  ·have hI':=hI.skip (by omega)
   rw [decide_eq_false (show ¬ ((rest:Int)-((b*2 ^ n:Nat):Int)).sign ≥ 0 from fun h=>by have:=Int.sign_nonneg_iff.1 h;omega),bsel_false,ew]
   exact div3_loop (a:=a) hb (by assumption) (by assumption) hN hlb n k rest o g (by omega) (by omega) hI' ho oo hg
theorem bitLen_low {n:Nat} (h:0<n):2 ^ (bitLen n-1)≤n∧0<bitLen n:=by
 have h0:0<bitLen n:=by
  rcases Nat.eq_zero_or_pos (bitLen n) with h1 | h1
  ·have:=(bitLen_le (n:=n) (j:=0)).1 (by omega)
   simp at this
   omega
  ·exact h1
 refine ⟨?_,h0⟩
 rcases Nat.lt_or_ge n (2 ^ (bitLen n-1)) with h1 | h1
 ·have:=bitLen_le.2 h1
  omega
 ·exact h1
theorem div3_law {a b:Nat} (hb:0<b) (ha:a<4294967296 ^ 699) (hbb:b<4294967296 ^ 699):∃ r1 r2,G94 40000 (digs 4294967296 a) (digs 4294967296 b)=some (.tup [r1,r2])∧FLe r1 (halvesF (digs 4294967296 (a / b)))∧FLe r2 (halvesF (digs 4294967296 (a % b))):=by
 have lb:=digsH_len hbb
 have t1:=isTrimH_digs (bound_upC ha (show 699≤800 by omega))
 have t2:=isTrimH_digs (bound_upC hbb (show 699≤800 by omega))
 have ba:bitLen a≤32*699:=bitLen_le.2 (by rw [← CC_pow];exact ha)
 have bbl:bitLen b≤32*699:=bitLen_le.2 (by rw [← CC_pow];exact hbb)
 have ha7:=bound_upC ha (show 699≤700 by omega)
 have hb7:4294967296 ^ 699*2 ^ 32≤4294967296 ^ 700:=by rw [show 4294967296 ^ 700=4294967296 ^ 699*4294967296 from Nat.pow_succ ..];exact Nat.mul_le_mul_left _ (by decide)
 obtain ⟨g1,g2⟩:=bitLen_low hb
 have ua:a<2 ^ bitLen a:=bitLen_le.1 (Nat.le_refl _)
 have ub:b<2 ^ bitLen b:=bitLen_le.1 (Nat.le_refl _)
 have p22:(2:Nat) ^ (32*699)<4294967296 ^ 700:=by rw [← CC_pow];exact Nat.pow_lt_pow_right (by omega) (by omega)
 unfold G94 T94
 simp only [t1,t2,unHalves_digs,val_digsH,bsel_true]
 clear t1 t2 ha hbb hb7
 have ew:IntKind.i64.wrap ((bitLen a:Int)-bitLen b)=(bitLen a:Int)-bitLen b:=wrapI (by omega) (by omega)
 rw [ew]
 by_cases hlt:bitLen a<bitLen b
 ·rw [decide_eq_true (show (bitLen a:Int)-bitLen b<0 by omega),bsel_true]
  have hab:a<b:=Nat.lt_of_lt_of_le ua (Nat.le_trans (Nat.pow_le_pow_right (by omega) (by omega)) g1)
  refine ⟨_,_,rfl,?_,?_⟩
  ·rw [Nat.div_eq_of_lt hab,digs_zero]
   exact FLe.sl fun j hj=>by omega
  ·rw [Nat.mod_eq_of_lt hab];exact .refl _
 ·obtain ⟨N,hN⟩:∃ N,bitLen a=bitLen b+N:=⟨bitLen a-bitLen b,by omega⟩
  have eN:(bitLen a:Int)-bitLen b=(N:Int):=by omega
  have e1:IntKind.i64.wrap ((N:Int).tdiv 32)=((N / 32:Nat):Int):=by
   rw [show (N:Int).tdiv 32=((N / 32:Nat):Int) from rfl,wrapI (by omega) (by omega)]
  have e2:IntKind.i64.wrap (((N / 32:Nat):Int)+1)=((N / 32+1:Nat):Int):=by rw [wrapI (by omega) (by omega)];omega
  rw [decide_eq_false (show ¬ (bitLen a:Int)-bitLen b<0 by omega),bsel_false,eN,e1,e2,decide_eq_true (show (0:Int)≤((N / 32+1:Nat):Int) by omega),decide_eq_true (Int.le_refl _),decide_eq_true (limit_ok4 (show N / 32+1≤3000 by omega)),Int.toNat_natCast]
  simp only [bsel_true]
  have hstart:a<b*2 ^ (N+1):=by
   refine Nat.lt_of_lt_of_le ua ?_
   rw [show bitLen a=bitLen b-1+(N+1) by omega,Nat.pow_add]
   exact Nat.mul_le_mul_right _ g1
  have hbN:b*2 ^ N<4294967296 ^ 700:=by
   refine Nat.lt_of_lt_of_le (Nat.mul_lt_mul_of_pos_right ub (Nat.two_pow_pos N)) ?_
   rw [← Nat.pow_add,← hN]
   exact Nat.le_of_lt (Nat.lt_of_le_of_lt (Nat.pow_le_pow_right (by omega) ba) p22)
  have hv0:val 4294967296 (List.replicate (N / 32+1) 0)=0:=val_zeros _ _
  have h:=div3_loop hb ha7 hbN (by omega) (by omega) (N+1) 40000 a (List.replicate (N / 32+1) 0) (fun _=>F.int .u32 0) (Nat.le_refl _) (by omega) (by rw [hv0];exact DivInv.start hstart) (by simp) (fun w hw=>by have:=(List.mem_replicate.1 hw).2;omega) (fun j hj=>by simp only [List.getD,List.getElem?_replicate,if_pos hj];rfl)
  rw [show ((N+1:Nat):Int)-1=(N:Int) by omega] at h
  exact ⟨_,_,h,.refl _,.refl _⟩
def isDivA (b:Nat):Bool:=!(Nat.beq b 0)
theorem isDivA_iff {b:Nat}:isDivA b=true ↔ 0<b:=by
 unfold isDivA
 cases hb:Nat.beq b 0 with
 | true=>have:=Nat.eq_of_beq_eq_true hb;simp;omega
 | false=>simp;exact Nat.pos_of_ne_zero fun e=>by subst e;cases hb
def preDivA:List F→Bool | [x,y]=>isTrimH 699 x&&isTrimH 699 y&&isDivA (val 4294967296 (unHalves y)) | _=>false
def resDivA:List F→F | [x,y]=>.tup [halvesF (digs 4294967296 (val 4294967296 (unHalves x) / val 4294967296 (unHalves y))),halvesF (digs 4294967296 (val 4294967296 (unHalves x) % val 4294967296 (unHalves y)))] | _=>.dflt
theorem okDivA:PureOK Tryz.prog 94 preDivA resDivA :=
 fn_pure_at (c:=bodyOf Tryz.f94) Tryz.func94 (by kernel_rfl) (by kernel_rfl) fun xs hp=>match xs,hp with
 | [x,y],hp=>by
  simp only [preDivA,Bool.and_eq_true] at hp
  obtain ⟨⟨hx,hy⟩,hd⟩:=hp
  obtain ⟨x1,x2,x3⟩:=isTrimH_iff hx
  obtain ⟨y1,y2,y3⟩:=isTrimH_iff hy
  obtain ⟨r1,r2,e,f1,f2⟩:=div3_law (isDivA_iff.1 hd) x2 y2
  rw [x3,y3] at e
  exact ⟨[halvesF (unHalves x),halvesF (unHalves y)],_,⟨(halves_eqv x1).1,(halves_eqv y1).1,trivial⟩,t94 40000 _ _ _ e,FLe.tup ⟨f1,f2,trivial⟩⟩
def envS4:Env:=((envS3.add 96 (.pure (preL2 800) resSubZ)).add 58 (.pure (preL2 900) resMulZ)).add 94 (.pure preDivA resDivA)
theorem envS4_ok:EnvOK Tryz.prog envS4:=(Env.add_ok (Env.add_ok (Env.add_ok envS3_ok okSubZ.sp) okMulZ.sp) okDivA.sp)
end
noncomputable section
/-! ### function 86 -/
def T86 {ρ:Type} (ret:(Int)→Option ρ) (x:Int) (y:Int):Option ρ :=
 (bsel (isNum 400 (numF x)&&isNum 400 (numF y))
 (bsel (isNum 400 (resLess2 [numF x,numF y]))
 (ret ((unNum (resLess2 [numF x,numF y])).sign))
 none)
 none)
def G86 (x:Int) (y:Int):Option (Int):=T86 some x y
theorem t86 (x:Int) (y:Int) (r:Int) (h:G86 x y=some r):Ends Tryz.prog Tryz.f86.results.toList [.code (bodyOf Tryz.f86)] (start Tryz.f86.ntmps ([numF x,numF y].map .f)) (F.int .i64 r):=by
 refine Ends.of_run tyOK envN17a_ok (T:=[]) (n:=200) ?_
 refine gE (Y:=T86 (fun r=>some (.ret (F.int .i64 r))) x y) (by kernel_rfl) ?_
 exact (gS h (fun _ h=>(gS h (fun _ h=>gR (by cases h;rfl)) gN)) gN)
theorem sub_bound {x y:Int} {n:Nat} (hx:x.natAbs<18446744073709551616 ^ n) (hy:y.natAbs<18446744073709551616 ^ n):(x-y).natAbs<18446744073709551616 ^ (n+1):=by
 rw [Nat.pow_succ]
 generalize 18446744073709551616 ^ n=t at *
 omega
theorem cmp_law {x y:Int} (hx:x.natAbs<18446744073709551616 ^ 399) (hy:y.natAbs<18446744073709551616 ^ 399):G86 x y=some (x-y).sign:=by
 have p:18446744073709551616 ^ 399≤18446744073709551616 ^ 400:=Nat.pow_le_pow_right (by omega) (by omega)
 have hs:(x-y).natAbs<18446744073709551616 ^ 400:=sub_bound hx hy
 unfold G86 T86
 simp only [isNum_numF (Nat.lt_of_lt_of_le hx p),isNum_numF (Nat.lt_of_lt_of_le hy p),isNum_numF hs,unNum_numF,resLess2,Bool.and_self,bsel_true]
def resCmpN:List F→F | [x,y]=>.int .i64 (unNum x-unNum y).sign | _=>.dflt
theorem okCmpN:PureOK Tryz.prog 86 (preN2 399) resCmpN :=
 fn_pure_at (c:=bodyOf Tryz.f86) Tryz.func86 (by kernel_rfl) (by kernel_rfl) fun xs hp=>match xs,hp with
 | [x,y],hp=>by
  obtain ⟨hx,hy⟩:=preN2_iff hp
  exact ⟨[numF (unNum x),numF (unNum y)],_,⟨(num_eqv hx).1,(num_eqv hy).1,trivial⟩,t86 _ _ _ (cmp_law (natAbs_of_isNum hx) (natAbs_of_isNum hy)),.refl _⟩
def envN17c:Env:=envN17a.add 86 (.pure (preN2 399) resCmpN)
theorem envN17c_ok:EnvOK Tryz.prog envN17c:=(Env.add_ok envN17a_ok okCmpN.sp)
end
noncomputable section
theorem mul_bound {x y:Int} {n m:Nat} (hx:x.natAbs<18446744073709551616 ^ n) (hy:y.natAbs<18446744073709551616 ^ m):(x*y).natAbs<18446744073709551616 ^ (n+m):=by
 rw [Int.natAbs_mul,Nat.pow_add]
 exact Nat.mul_lt_mul_of_lt_of_le hx (Nat.le_of_lt hy) (Nat.pow_pos (by omega))
theorem bound_up {x:Int} {n m:Nat} (h:x.natAbs<18446744073709551616 ^ n) (hn:n≤m):x.natAbs<18446744073709551616 ^ m:=Nat.lt_of_lt_of_le h (Nat.pow_le_pow_right (by omega) hn)
def gcdI (u d:Int):Int:=(Nat.gcd u.natAbs d.natAbs:Nat)
theorem gcdI_pos {u d:Int} (h:0<d):0<gcdI u d∧gcdI u d≤d:=by
 have h1:=Nat.gcd_pos_of_pos_right u.natAbs (show 0<d.natAbs by omega)
 have h2:=Nat.gcd_le_right u.natAbs (show 0<d.natAbs by omega)
 unfold gcdI
 omega
theorem mulb {a b:Int} (ha:-2000000≤a∧a≤2000000) (hb:-2000000≤b∧b≤2000000):-4000000000000≤a*b∧a*b≤4000000000000:=by
 have h:(a*b).natAbs≤2000000*2000000:=by rw [Int.natAbs_mul];exact Nat.mul_le_mul (by omega) (by omega)
 omega
theorem dotW {a b c d:Int} (ha:-2000000≤a∧a≤2000000) (hb:-2000000≤b∧b≤2000000) (hc:-2000000≤c∧c≤2000000) (hd:-2000000≤d∧d≤2000000) :
  IntKind.i64.wrap (IntKind.i64.wrap (a*b)+IntKind.i64.wrap (c*d))=a*b+c*d∧-8000000000000≤a*b+c*d∧a*b+c*d≤8000000000000:=by
 obtain ⟨h1,h2⟩:=mulb ha hb
 obtain ⟨h3,h4⟩:=mulb hc hd
 rw [wrapI (x:=a*b) (by omega) (by omega),wrapI (x:=c*d) (by omega) (by omega),wrapI (by omega) (by omega)]
 omega
def spotIn (x y:Int):Prop:=-1000000≤x∧x≤1000000∧-1000000≤y∧y≤1000000
def crossZ (x0 y0 x1 y1 x2 y2:Int):Int:=(x1-x0)*(y2-y0)-(y1-y0)*(x2-x0)
theorem crossW_eq {x0 y0 x1 y1 x2 y2:Int} (h0:spotIn x0 y0) (h1:spotIn x1 y1) (h2:spotIn x2 y2) :
  crossW x0 y0 x1 y1 x2 y2=crossZ x0 y0 x1 y1 x2 y2∧-8000000000000≤crossZ x0 y0 x1 y1 x2 y2∧crossZ x0 y0 x1 y1 x2 y2≤8000000000000:=by
 unfold spotIn at h0 h1 h2
 unfold crossW crossZ
 rw [wrapI (x:=x1-x0) (by omega) (by omega),wrapI (x:=y2-y0) (by omega) (by omega),wrapI (x:=y1-y0) (by omega) (by omega),wrapI (x:=x2-x0) (by omega) (by omega)]
 obtain ⟨h1,h2⟩:=mulb (a:=x1-x0) (b:=y2-y0) (by omega) (by omega)
 obtain ⟨h3,h4⟩:=mulb (a:=y1-y0) (b:=x2-x0) (by omega) (by omega)
 rw [wrapI (x:=(x1-x0)*(y2-y0)) (by omega) (by omega),wrapI (x:=(y1-y0)*(x2-x0)) (by omega) (by omega),wrapI (by omega) (by omega)]
 omega
def envN18:Env:=envN17c
theorem envN18_ok:EnvOK Tryz.prog envN18:=envN17c_ok
end
noncomputable section
theorem boundC_up {x:Int} {n m:Nat} (h:x.natAbs<4294967296 ^ n) (hn:n≤m):x.natAbs<4294967296 ^ m:=Nat.lt_of_lt_of_le h (Nat.pow_le_pow_right (by omega) hn)
theorem boundC_sub {x y:Int} {n:Nat} (hx:x.natAbs<4294967296 ^ n) (hy:y.natAbs<4294967296 ^ n):(x-y).natAbs<4294967296 ^ (n+1):=by
 rw [Nat.pow_succ]
 generalize 4294967296 ^ n=t at *
 omega
theorem boundC_mul {x y:Int} {n m:Nat} (hx:x.natAbs<4294967296 ^ n) (hy:y.natAbs<4294967296 ^ m):(x*y).natAbs<4294967296 ^ (n+m):=by
 rw [Int.natAbs_mul,Nat.pow_add]
 exact Nat.mul_lt_mul_of_lt_of_le hx (Nat.le_of_lt hy) (Nat.pow_pos (by omega))
/-! ### function 81 -/
def T81 {ρ:Type} (ret:(Int)→Option ρ) (x:Int) (y:Int):Option ρ :=
 (bsel (isL1n 800 (l1nF x)&&isL1n 800 (l1nF y))
 (bsel (isL1n 900 (resSubZ [l1nF x,l1nF y]))
 (ret ((unL1n (resSubZ [l1nF x,l1nF y])).sign))
 none)
 none)
def G81 (x:Int) (y:Int):Option (Int):=T81 some x y
theorem t81 (x:Int) (y:Int) (r:Int) (h:G81 x y=some r):Ends Tryz.prog Tryz.f81.results.toList [.code (bodyOf Tryz.f81)] (start Tryz.f81.ntmps ([l1nF x,l1nF y].map .f)) (F.int .i64 r):=by
 refine Ends.of_run tyOK envS4_ok (T:=[]) (n:=200) ?_
 refine gE (Y:=T81 (fun r=>some (.ret (F.int .i64 r))) x y) (by kernel_rfl) ?_
 exact (gS h (fun _ h=>(gS h (fun _ h=>gR (by cases h;rfl)) gN)) gN)
theorem cmpZ_law {x y:Int} (hx:x.natAbs<4294967296 ^ 800) (hy:y.natAbs<4294967296 ^ 800):G81 x y=some (x-y).sign:=by
 have hs:(x-y).natAbs<4294967296 ^ 900:=boundC_up (boundC_sub hx hy) (by omega)
 unfold G81 T81
 simp only [resSubZ,unL1n_l1nF,isL1n_l1nF hx,isL1n_l1nF hy,isL1n_l1nF hs,Bool.and_self,bsel_true]
def resCmpZ:List F→F | [x,y]=>.int .i64 (unL1n x-unL1n y).sign | _=>.dflt
theorem okCmpZ:PureOK Tryz.prog 81 (preL2 800) resCmpZ :=
 fn_pure_at (c:=bodyOf Tryz.f81) Tryz.func81 (by kernel_rfl) (by kernel_rfl) fun xs hp=>match xs,hp with
 | [x,y],hp=>by
  obtain ⟨hx,hy⟩:=preL2_iff hp
  exact ⟨[l1nF (unL1n x),l1nF (unL1n y)],_,⟨(l1n_eqv hx).1,(l1n_eqv hy).1,trivial⟩,t81 _ _ _ (cmpZ_law (natAbs_of_isL1n hx) (natAbs_of_isL1n hy)),.refl _⟩
/-! ### function 82 -/
def T82 {ρ:Type} (ret:KJ62 ρ) (x:Int) (y:Int):Option ρ :=
 (bsel (isTrimH 699 (halvesF (digs 4294967296 x.natAbs))&&isTrimH 699 (halvesF (digs 4294967296 y.natAbs))&&isDivA (val 4294967296 (unHalves (halvesF (digs 4294967296 y.natAbs)))))
 (bsel (isHalves (halvesF (digs 4294967296 (val 4294967296 (unHalves (halvesF (digs 4294967296 x.natAbs))) / val 4294967296 (unHalves (halvesF (digs 4294967296 y.natAbs))))))&&lenOk 2000 (halvesF (digs 4294967296 (val 4294967296 (unHalves (halvesF (digs 4294967296 x.natAbs))) / val 4294967296 (unHalves (halvesF (digs 4294967296 y.natAbs)))))))
 (bsel (isHalves (halvesF (digs 4294967296 (val 4294967296 (unHalves (halvesF (digs 4294967296 x.natAbs))) % val 4294967296 (unHalves (halvesF (digs 4294967296 y.natAbs))))))&&lenOk 2000 (halvesF (digs 4294967296 (val 4294967296 (unHalves (halvesF (digs 4294967296 x.natAbs))) % val 4294967296 (unHalves (halvesF (digs 4294967296 y.natAbs)))))))
 (bsel (decide (sgn (decide (x<0)) (val 4294967296 (unHalves (halvesF (digs 4294967296 (val 4294967296 (unHalves (halvesF (digs 4294967296 x.natAbs))) % val 4294967296 (unHalves (halvesF (digs 4294967296 y.natAbs))))))))<0))
 (bsel (decide (y<0))
 (bsel (isL1n 800 (l1nF (sgn (!decide (x<0)==decide (y<0)) (val 4294967296 (unHalves (halvesF (digs 4294967296 (val 4294967296 (unHalves (halvesF (digs 4294967296 x.natAbs))) / val 4294967296 (unHalves (halvesF (digs 4294967296 y.natAbs))))))))))&&true)
 (bsel (isL1n 800 (l1nF (sgn (decide (x<0)) (val 4294967296 (unHalves (halvesF (digs 4294967296 (val 4294967296 (unHalves (halvesF (digs 4294967296 x.natAbs))) % val 4294967296 (unHalves (halvesF (digs 4294967296 y.natAbs))))))))))&&isL1n 800 (l1nF y))
 (ret (F.tup [l1nF (unL1n (l1nF (sgn (!decide (x<0)==decide (y<0)) (val 4294967296 (unHalves (halvesF (digs 4294967296 (val 4294967296 (unHalves (halvesF (digs 4294967296 x.natAbs))) / val 4294967296 (unHalves (halvesF (digs 4294967296 y.natAbs))))))))))+unL1n (resInt3 [F.int .i64 1])),l1nF (unL1n (l1nF (sgn (decide (x<0)) (val 4294967296 (unHalves (halvesF (digs 4294967296 (val 4294967296 (unHalves (halvesF (digs 4294967296 x.natAbs))) % val 4294967296 (unHalves (halvesF (digs 4294967296 y.natAbs))))))))))-unL1n (l1nF y))]))
 none)
 none)
 (bsel (isL1n 800 (l1nF (sgn (!decide (x<0)==decide (y<0)) (val 4294967296 (unHalves (halvesF (digs 4294967296 (val 4294967296 (unHalves (halvesF (digs 4294967296 x.natAbs))) / val 4294967296 (unHalves (halvesF (digs 4294967296 y.natAbs))))))))))&&true)
 (bsel (isL1n 800 (l1nF (sgn (decide (x<0)) (val 4294967296 (unHalves (halvesF (digs 4294967296 (val 4294967296 (unHalves (halvesF (digs 4294967296 x.natAbs))) % val 4294967296 (unHalves (halvesF (digs 4294967296 y.natAbs))))))))))&&isL1n 800 (l1nF y))
 (ret (F.tup [l1nF (unL1n (l1nF (sgn (!decide (x<0)==decide (y<0)) (val 4294967296 (unHalves (halvesF (digs 4294967296 (val 4294967296 (unHalves (halvesF (digs 4294967296 x.natAbs))) / val 4294967296 (unHalves (halvesF (digs 4294967296 y.natAbs))))))))))-unL1n (resInt3 [F.int .i64 1])),l1nF (unL1n (l1nF (sgn (decide (x<0)) (val 4294967296 (unHalves (halvesF (digs 4294967296 (val 4294967296 (unHalves (halvesF (digs 4294967296 x.natAbs))) % val 4294967296 (unHalves (halvesF (digs 4294967296 y.natAbs))))))))))+unL1n (l1nF y))]))
 none)
 none))
 (ret (F.tup [l1nF (sgn (!decide (x<0)==decide (y<0)) (val 4294967296 (unHalves (halvesF (digs 4294967296 (val 4294967296 (unHalves (halvesF (digs 4294967296 x.natAbs))) / val 4294967296 (unHalves (halvesF (digs 4294967296 y.natAbs))))))))),l1nF (sgn (decide (x<0)) (val 4294967296 (unHalves (halvesF (digs 4294967296 (val 4294967296 (unHalves (halvesF (digs 4294967296 x.natAbs))) % val 4294967296 (unHalves (halvesF (digs 4294967296 y.natAbs)))))))))])))
 none)
 none)
 none)
def G82 (x:Int) (y:Int):Option (F):=T82 some x y
theorem t82 (x:Int) (y:Int) (r:F) (h:G82 x y=some r):Ends Tryz.prog Tryz.f82.results.toList [.code (bodyOf Tryz.f82)] (start Tryz.f82.ntmps ([l1nF x,l1nF y].map .f)) (r):=by
 refine Ends.of_run tyOK envS4_ok (T:=[]) (n:=200) ?_
 refine gE (Y:=T82 (fun r=>some (.ret (r))) x y) (by kernel_rfl) ?_
 exact (gS h (fun _ h=>(gS h (fun _ h=>(gS h (fun _ h=>(gS h (fun _ h=>(gS h (fun _ h=>(gS h (fun _ h=>(gS h (fun _ h=>gR (by cases h;rfl)) gN)) gN)) (fun _ h=>(gS h (fun _ h=>(gS h (fun _ h=>gR (by cases h;rfl)) gN)) gN)))) (fun _ h=>gR (by cases h;rfl)))) gN)) gN)) gN)
theorem divZ_law {x y:Int} (hy:y ≠ 0) (hx:x.natAbs<4294967296 ^ 699) (hyb:y.natAbs<4294967296 ^ 699):∃ a b,G82 x y=some (.tup [l1nF a,l1nF b])∧a=x / y∧b=x % y:=by
 have q1:x.natAbs / y.natAbs<4294967296 ^ 699:=Nat.lt_of_le_of_lt (Nat.div_le_self _ _) hx
 have q2:x.natAbs % y.natAbs<4294967296 ^ 699:=Nat.lt_of_le_of_lt (Nat.mod_le _ _) hx
 have q1':(x.tdiv y).natAbs<4294967296 ^ 800:=by rw [Int.natAbs_tdiv];exact bound_upC q1 (by omega)
 have q2':(x.tmod y).natAbs<4294967296 ^ 800:=by rw [Int.natAbs_tmod];exact bound_upC q2 (by omega)
 have d:isDivA y.natAbs=true:=isDivA_iff.2 (by omega)
 unfold G82 T82
 simp only [unHalves_digs,val_digsH,isTrimH_digs hx,isTrimH_digs hyb,d,isHalves_digs,lenOkH_digs q1 (show 699≤2000 by omega),lenOkH_digs q2 (show 699≤2000 by omega),Bool.and_self,Bool.and_true,bsel_true,sgn_div x y hy,sgn_mod,isL1n_l1nF (boundC_up hyb (show 699≤800 by omega)),isL1n_l1nF q1',isL1n_l1nF q2',resInt3,unL1n_l1nF]
 obtain ⟨f1,f2,f3⟩:=over_fix (x:=x) hy
 by_cases hr:x.tmod y<0
 ·rw [decide_eq_true hr,bsel_true]
  by_cases hn:y<0
  ·obtain ⟨g1,g2⟩:=f1 hr hn
   rw [decide_eq_true hn,bsel_true]
   exact ⟨_,_,rfl,g1,by rw [← g2];omega⟩
  ·obtain ⟨g1,g2⟩:=f2 hr hn
   rw [decide_eq_false hn,bsel_false]
   exact ⟨_,_,rfl,g1,by rw [← g2];omega⟩
 ·obtain ⟨g1,g2⟩:=f3 hr
  rw [decide_eq_false hr,bsel_false]
  exact ⟨_,_,rfl,g1,g2⟩
def isDivZ (y:Int):Bool:=isDivA y.natAbs
def preDivZ:List F→Bool | [x,y]=>isL1n 699 x&&isL1n 699 y&&isDivZ (unL1n y) | _=>false
def resDivZ:List F→F | [x,y]=>.tup [l1nF (unL1n x / unL1n y),l1nF (unL1n x % unL1n y)] | _=>.dflt
theorem okDivZ:PureOK Tryz.prog 82 preDivZ resDivZ :=
 fn_pure_at (c:=bodyOf Tryz.f82) Tryz.func82 (by kernel_rfl) (by kernel_rfl) fun xs hp=>match xs,hp with
 | [x,y],hp=>by
  simp only [preDivZ,Bool.and_eq_true] at hp
  obtain ⟨⟨hx,hy⟩,hd⟩:=hp
  have h0:=isDivA_iff.1 hd
  obtain ⟨a,b,e,rfl,rfl⟩:=divZ_law (x:=unL1n x) (y:=unL1n y) (by omega) (natAbs_of_isL1n hx) (natAbs_of_isL1n hy)
  exact ⟨[l1nF (unL1n x),l1nF (unL1n y)],_,⟨(l1n_eqv hx).1,(l1n_eqv hy).1,trivial⟩,t82 _ _ _ e,.refl _⟩
/-! ### function 80 -/
def S80_3 (x:List Nat) (y:List Nat):St:=⟨bads 4 ((U.hp 0 0) :: (U.f (halvesF x)) :: (U.f (halvesF y)) :: bads 19 []),[HO.box [(U.f (F.bool false)),U.nils]]⟩
def T80_3 {ρ:Type} (ret:KJ62 ρ) (c3:(List Nat)→(List Nat)→Option ρ) (x:List Nat) (y:List Nat):Option ρ :=
 (bsel (decide ((↑y.length:Int) > 0))
 (bsel (isTrimH 699 (halvesF x)&&isTrimH 699 (halvesF y)&&isDivA (val 4294967296 (unHalves (halvesF y))))
 (c3 (y) (digs 4294967296 (val 4294967296 (unHalves (halvesF x)) % val 4294967296 (unHalves (halvesF y)))))
 none)
 (bsel (isHalves (halvesF x)&&lenOk 2000 (halvesF x))
 (ret (l1nF (sgn false (val 4294967296 (unHalves (halvesF x))))))
 none))
def L80_3:Nat→(List Nat)→(List Nat)→Option (F)
 | 0,_,_=>none
 | k+1,x,y=>T80_3 some (L80_3 k) x y
def T80 {ρ:Type} (ret:KJ62 ρ) (c3:(List Nat)→(List Nat)→Option ρ) (x:Int) (y:Int):Option ρ :=
 (c3 (digs 4294967296 x.natAbs) (digs 4294967296 y.natAbs))
def G80 (k:Nat) (x:Int) (y:Int):Option (F):=T80 some (L80_3 k) x y
theorem t80_3:∀ (k:Nat) (x:List Nat) (y:List Nat) (r:F),L80_3 k x y=some r→Ends Tryz.prog Tryz.f80.results.toList (at_ Tryz.f80 3) (S80_3 x y) (r)
 | 0,_,_,_,h=>nomatch h
 | k+1,x,y,r,h=>by
  refine Ends.of_cut tyOK envS4_ok (T:=[(3,[4,5,6],1000)]) (n:=200) ?_
  refine gE (Y:=T80_3 (fun r=>some (.ret (r))) (fun x y=>some (.cut (at_ Tryz.f80 3) (S80_3 x y))) x y) (by kernel_rfl) ?_
  exact (gS h (fun _ h=>(gS h (fun _ h=>gC (t80_3 k _ _ r h)) gN)) (fun _ h=>(gS h (fun _ h=>gR (by cases h;rfl)) gN)))
theorem t80 (k:Nat) (x:Int) (y:Int) (r:F) (h:G80 k x y=some r):Ends Tryz.prog Tryz.f80.results.toList [.code (bodyOf Tryz.f80)] (start Tryz.f80.ntmps ([l1nF x,l1nF y].map .f)) (r):=by
 refine Ends.of_run tyOK envS4_ok (T:=[(3,[4,5,6],1000)]) (n:=200) ?_
 refine gE (Y:=T80 (fun r=>some (.ret (r))) (fun x y=>some (.cut (at_ Tryz.f80 3) (S80_3 x y))) x y) (by kernel_rfl) ?_
 exact gC (t80_3 k _ _ r h)
theorem gcd3_loop:∀ (y x k:Nat),y<4294967296 ^ 699→x<4294967296 ^ 699→y+1≤k→L80_3 k (digs 4294967296 x) (digs 4294967296 y)=some (l1nF ((Nat.gcd x y:Nat):Int)):=by
 intro y
 induction y using Nat.strongRecOn with
 | _ y ih =>
  intro x k hy hx hk
  obtain ⟨k,rfl⟩:∃ j,k=j+1:=⟨k-1,by omega⟩
  rw [L80_3]
  unfold T80_3
  by_cases h0:y=0
  ·subst h0
   rw [digs_zero,show decide (((([]:List Nat).length:Nat):Int) > 0)=false from rfl,bsel_false,isHalves_digs,lenOkH_digs hx (show 699≤2000 by omega),unHalves_digs,val_digsH,Nat.gcd_zero_right]
   rfl
  ·have hm:x % y<y:=Nat.mod_lt _ (by omega)
   rw [decide_eq_true (digsH_len_pos.2 h0),bsel_true,isTrimH_digs hx,isTrimH_digs hy]
   simp only [unHalves_digs,val_digsH,isDivA_iff.2 (show 0<y by omega),Bool.and_self,bsel_true]
   rw [ih (x % y) hm y k (Nat.lt_trans hm hy) hy (by omega),← gcd_step]
def resGcdZ:List F→F | [x,y]=>l1nF (gcdI (unL1n x) (unL1n y)) | _=>.dflt
theorem okGcdZ:PureOK Tryz.prog 80 (preL2 699) resGcdZ :=
 fn_pure_at (c:=bodyOf Tryz.f80) Tryz.func80 (by kernel_rfl) (by kernel_rfl) fun xs hp=>match xs,hp with
 | [x,y],hp=>by
  obtain ⟨hx,hy⟩:=preL2_iff hp
  exact ⟨[l1nF (unL1n x),l1nF (unL1n y)],_,⟨(l1n_eqv hx).1,(l1n_eqv hy).1,trivial⟩,t80 ((unL1n y).natAbs+1) _ _ _ (gcd3_loop _ _ _ (natAbs_of_isL1n hy) (natAbs_of_isL1n hx) (Nat.le_refl _)),.refl _⟩
def envS5:Env:=((envS4.add 81 (.pure (preL2 800) resCmpZ)).add 82 (.pure preDivZ resDivZ)).add 80 (.pure (preL2 699) resGcdZ)
theorem envS5_ok:EnvOK Tryz.prog envS5:=(Env.add_ok (Env.add_ok (Env.add_ok envS4_ok okCmpZ.sp) okDivZ.sp) okGcdZ.sp)
end
noncomputable section
def envS6:Env:=envS5
theorem envS6_ok:EnvOK Tryz.prog envS6:=envS5_ok
end
noncomputable section
structure NearOk (s:Int × Int × Int):Prop where
 idx:0≤s.1
 up0:0≤s.2.1
 up:s.2.1.natAbs<18446744073709551616 ^ 2
 down:0<s.2.2∧s.2.2≤8000000000000
def envN19:Env:=envN18
theorem envN19_ok:EnvOK Tryz.prog envN19:=envN18_ok
end
noncomputable section
def envS7:Env:=envS6
theorem envS7_ok:EnvOK Tryz.prog envS7:=envS6_ok
end
noncomputable section
def envS8:Env:=envS7
theorem envS8_ok:EnvOK Tryz.prog envS8:=envS7_ok
end
noncomputable section
def envN20:Env:=envN19
theorem envN20_ok:EnvOK Tryz.prog envN20:=envN19_ok
end
noncomputable section
def envS9:Env:=envS8.or envN20
theorem envS9_ok:EnvOK Tryz.prog envS9:=(Env.or_ok envS8_ok envN20_ok)
end
noncomputable section
def Fills {α:Type} (enc:α→F) (d:α) (z:F) (l:List α) (i:Nat) (g:Nat→F):Prop:=∀ j,(j<i→g j=enc (l.getD j d))∧(i≤j→g j=z)
theorem Fills.zero {α:Type} {enc:α→F} {d:α} {z:F} {l:List α}:Fills enc d z l 0 (fun _=>z):=fun j=>⟨fun h=>by omega,fun _=>rfl⟩
theorem Fills.set {α:Type} {enc:α→F} {d:α} {z:F} {l:List α} {i:Nat} {g:Nat→F} (h:Fills enc d z l i g):Fills enc d z l (i+1) (fun j=>if j=i then enc (l.getD i d) else g j):=fun j=>by
 by_cases e:j=i
 ·subst e;exact ⟨fun _=>by simp,fun h=>by omega⟩
 ·simp only [if_neg e];exact ⟨fun hj=>(h j).1 (by omega),fun hj=>(h j).2 (by omega)⟩
def envZ1:Env:=envS9
theorem envZ1_ok:EnvOK Tryz.prog envZ1:=envS9_ok
end
noncomputable section
def envZ2:Env:=envZ1
theorem envZ2_ok:EnvOK Tryz.prog envZ2:=envZ1_ok
end
noncomputable section
def envZ3:Env:=envZ2
theorem envZ3_ok:EnvOK Tryz.prog envZ3:=envZ2_ok
end
def lexLt (x0 y0 x1 y1:Int):Prop:=x0<x1 ∨ (x0=x1∧y0<y1)
def lexLe (x0 y0 x1 y1:Int):Prop:=x0<x1 ∨ (x0=x1∧y0≤y1)
theorem col_vec {p q f g e h:Int} (hD:p ≠ 0 ∨ q ≠ 0) (ha:p*g=q*f) (hb:p*h=q*e):h*f=e*g:=by
 by_cases hp:p=0
 ·subst hp
  have hq:q ≠ 0:=by rcases hD with h | h;exact absurd rfl h;exact h
  have hf:f=0:=by
   have:q*f=0:=by rw [← ha,Int.zero_mul]
   rcases Int.mul_eq_zero.1 this with h | h
   ·exact absurd h hq
   ·exact h
  have he:e=0:=by
   have:q*e=0:=by rw [← hb,Int.zero_mul]
   rcases Int.mul_eq_zero.1 this with h | h
   ·exact absurd h hq
   ·exact h
  rw [hf,he,Int.mul_zero,Int.zero_mul]
 ·have:p*(h*f)=p*(e*g):=by grind
  exact Int.eq_of_mul_eq_mul_left hp this
theorem collinear {x0 y0 x1 y1 u0 v0 u1 v1:Int} (hs:lexLt x0 y0 x1 y1) (ha:crossZ x0 y0 x1 y1 u0 v0=0) (hb:crossZ x0 y0 x1 y1 u1 v1=0):crossZ u0 v0 u1 v1 x0 y0=0∧crossZ u0 v0 u1 v1 x1 y1=0:=by
 unfold crossZ at *
 have hD:x1-x0 ≠ 0 ∨ y1-y0 ≠ 0:=by unfold lexLt at hs;omega
 have h1:(x1-x0)*(v0-y0)=(y1-y0)*(u0-x0):=by omega
 have h2:(x1-x0)*(v1-v0)=(y1-y0)*(u1-u0):=by grind
 have h3:=col_vec hD h1 h2
 constructor <;> grind
theorem weights {s0 s1 t0 t1 a b c d:Int} (ha:0≤a) (hb:0≤b) (hc:0≤c) (hd:0≤d) (hw:a+b=c+d) (h0:0<a+b) (he:t0*a+t1*b=s0*c+s1*d):¬ (s0<t0∧s0<t1∧s1<t0∧s1<t1):=by
 rintro ⟨h1,h2,h3,h4⟩
 have m:∃ m,s0≤m∧s1≤m∧m<t0∧m<t1:=by
  rcases Int.le_total s0 s1 with h | h
  ·exact ⟨s1,h,Int.le_refl _,h3,h4⟩
  ·exact ⟨s0,Int.le_refl _,h,h1,h2⟩
 obtain ⟨m,k1,k2,k3,k4⟩:=m
 have e1:(m+1)*a≤t0*a:=Int.mul_le_mul_of_nonneg_right (by omega) ha
 have e2:(m+1)*b≤t1*b:=Int.mul_le_mul_of_nonneg_right (by omega) hb
 have e3:s0*c≤m*c:=Int.mul_le_mul_of_nonneg_right k1 hc
 have e4:s1*d≤m*d:=Int.mul_le_mul_of_nonneg_right k2 hd
 have e5:(m+1)*a+(m+1)*b=(m+1)*(a+b):=by grind
 have e6:m*c+m*d=m*(a+b):=by rw [hw];grind
 have e7:(m+1)*(a+b)=m*(a+b)+(a+b):=by grind
 omega
def apart (a b:Int):Prop:=(a≤0∧0≤b) ∨ (0≤a∧b≤0)
theorem sep {s0 s1 t0 t1 a b c d:Int} (h1:apart a b) (h2:apart c d) (hn:¬ (a=0∧b=0)) (hw:a-b=d-c) (he:t1*a-t0*b=s0*d-s1*c) :
  ¬ (s0<t0∧s0<t1∧s1<t0∧s1<t1)∧¬ (t0<s0∧t0<s1∧t1<s0∧t1<s1):=by
 unfold apart at h1 h2
 rcases Int.lt_trichotomy (a-b) 0 with h | h | h
 ·have p1:0≤-a:=by omega
  have p2:0≤b:=by omega
  have p3:0≤c:=by omega
  have p4:0≤-d:=by omega
  exact ⟨weights (a:=b) (b:=-a) (c:=-d) (d:=c) p2 p1 p4 p3 (by omega) (by omega) (by rw [Int.mul_neg,Int.mul_neg];omega),
   fun ⟨k1,k2,k3,k4⟩=>weights (s0:=t0) (s1:=t1) (t0:=s0) (t1:=s1) (a:=-d) (b:=c) (c:=b) (d:=-a) p4 p3 p2 p1 (by omega) (by omega) (by rw [Int.mul_neg,Int.mul_neg];omega) ⟨k1,k2,k3,k4⟩⟩
 ·omega
 ·have p1:0≤a:=by omega
  have p2:0≤-b:=by omega
  have p3:0≤-c:=by omega
  have p4:0≤d:=by omega
  exact ⟨weights (a:=-b) (b:=a) (c:=d) (d:=-c) p2 p1 p4 p3 (by omega) (by omega) (by rw [Int.mul_neg,Int.mul_neg];omega),
   fun ⟨k1,k2,k3,k4⟩=>weights (s0:=t0) (s1:=t1) (t0:=s0) (t1:=s1) (a:=d) (b:=-c) (c:=-b) (d:=a) p4 p3 p2 p1 (by omega) (by omega) (by rw [Int.mul_neg,Int.mul_neg];omega) ⟨k1,k2,k3,k4⟩⟩
theorem between {p q f g:Int} (h:p*g=q*f) (h1:0<f ∨ (0=f∧0≤g)) (h2:f<p ∨ (f=p∧g≤q)):(0≤g∧g≤q) ∨ (q≤g∧g≤0):=by
 by_cases hp:p=0
 ·subst hp;omega
 ·have hp0:0<p:=by omega
  rcases Int.le_total 0 q with hq | hq
  ·left
   have a1:0≤q*f:=Int.mul_nonneg hq (by omega)
   have a2:q*f≤q*p:=Int.mul_le_mul_of_nonneg_left (by omega) hq
   constructor
   ·rcases Int.lt_or_le g 0 with hg | hg
    ·have:=Int.mul_neg_of_pos_of_neg hp0 hg;omega
    ·exact hg
   ·have:p*g≤p*q:=by rw [h,Int.mul_comm p q];exact a2
    exact Int.le_of_mul_le_mul_left this hp0
  ·right
   have a1:q*f≤0:=Int.mul_nonpos_of_nonpos_of_nonneg hq (by omega)
   have a2:q*p≤q*f:=Int.mul_le_mul_of_nonpos_left hq (by omega)
   constructor
   ·have:p*q≤p*g:=by rw [h,Int.mul_comm p q];exact a2
    exact Int.le_of_mul_le_mul_left this hp0
   ·rcases Int.lt_or_le 0 g with hg | hg
    ·have:=Int.mul_pos hp0 hg;omega
    ·exact hg
def meets (x0 y0 x1 y1 u0 v0 u1 v1:Int):Prop :=
 (crossZ x0 y0 x1 y1 u0 v0=0∧crossZ x0 y0 x1 y1 u1 v1=0∧lexLe u0 v0 x1 y1∧lexLe x0 y0 u1 v1) ∨
 (¬ (crossZ x0 y0 x1 y1 u0 v0=0∧crossZ x0 y0 x1 y1 u1 v1=0)∧apart (crossZ x0 y0 x1 y1 u0 v0) (crossZ x0 y0 x1 y1 u1 v1)∧apart (crossZ u0 v0 u1 v1 x0 y0) (crossZ u0 v0 u1 v1 x1 y1))
theorem meets_comm {x0 y0 x1 y1 u0 v0 u1 v1:Int} (hs:lexLt x0 y0 x1 y1) (ht:lexLt u0 v0 u1 v1) (h:meets x0 y0 x1 y1 u0 v0 u1 v1):meets u0 v0 u1 v1 x0 y0 x1 y1:=by
 rcases h with ⟨h1,h2,h3,h4⟩ | ⟨h1,h2,h3⟩
 ·obtain ⟨k1,k2⟩:=collinear hs h1 h2
  exact .inl ⟨k1,k2,h4,h3⟩
 ·exact .inr ⟨fun ⟨k1,k2⟩=>h1 (collinear ht k1 k2),h3,h2⟩
theorem on_range {x0 y0 x1 y1 p q:Int} (h:crossZ x0 y0 x1 y1 p q=0) (h1:lexLe x0 y0 p q) (h2:lexLe p q x1 y1):(y0≤q∧q≤y1) ∨ (y1≤q∧q≤y0):=by
 unfold crossZ at h
 unfold lexLe at h1 h2
 have:=between (p:=x1-x0) (q:=y1-y0) (f:=p-x0) (g:=q-y0) (by omega) (by omega) (by omega)
 omega
theorem meets_box {x0 y0 x1 y1 u0 v0 u1 v1:Int} (hs:lexLt x0 y0 x1 y1) (ht:lexLt u0 v0 u1 v1) (h:meets x0 y0 x1 y1 u0 v0 u1 v1) :
  (u0≤x1∧x0≤u1)∧¬ (y0<v0∧y0<v1∧y1<v0∧y1<v1)∧¬ (v0<y0∧v0<y1∧v1<y0∧v1<y1):=by
 rcases h with ⟨h1,h2,h3,h4⟩ | ⟨h1,h2,h3⟩
 ·obtain ⟨k1,k2⟩:=collinear hs h1 h2
  have hx:u0≤x1∧x0≤u1:=by unfold lexLe at h3 h4;omega
  refine ⟨hx,?_⟩
    -- the greater of the two beginnings lies on both
  by_cases hl:lexLe x0 y0 u0 v0
  ·have:=on_range h1 hl h3
   omega
  ·have hl':lexLe u0 v0 x0 y0:=by unfold lexLe at hl ⊢;omega
   have:=on_range k1 hl' h4
   omega
 ·have hw:crossZ x0 y0 x1 y1 u0 v0-crossZ x0 y0 x1 y1 u1 v1=crossZ u0 v0 u1 v1 x1 y1-crossZ u0 v0 u1 v1 x0 y0:=by unfold crossZ;grind
  have ex:u1*crossZ x0 y0 x1 y1 u0 v0-u0*crossZ x0 y0 x1 y1 u1 v1=x0*crossZ u0 v0 u1 v1 x1 y1-x1*crossZ u0 v0 u1 v1 x0 y0:=by unfold crossZ;grind
  have ey:v1*crossZ x0 y0 x1 y1 u0 v0-v0*crossZ x0 y0 x1 y1 u1 v1=y0*crossZ u0 v0 u1 v1 x1 y1-y1*crossZ u0 v0 u1 v1 x0 y0:=by unfold crossZ;grind
  have sx:=sep h2 h3 h1 hw ex
  have sy:=sep h2 h3 h1 hw ey
  refine ⟨?_,sy⟩
  unfold lexLt at hs ht
  omega
def onSg (x0 y0 x1 y1 p q:Int):Prop:=crossZ x0 y0 x1 y1 p q=0∧lexLe x0 y0 p q∧lexLe p q x1 y1
theorem apart_of {c d f g k:Int} (hf:0≤f) (hg:0≤g) (hp:0<f+g) (hc:(f+g)*c=f*k) (hd:(f+g)*d = -(g*k)):apart c d:=by
 unfold apart
 have sgn:∀ {z w:Int},(f+g)*z=w→(0≤w→0≤z)∧(w≤0→z≤0):=by
  intro z w h
  constructor
  ·intro hw
   rcases Int.lt_or_le z 0 with hz | hz
   ·have:=Int.mul_neg_of_pos_of_neg hp hz;omega
   ·exact hz
  ·intro hw
   rcases Int.lt_or_le 0 z with hz | hz
   ·have:=Int.mul_pos hp hz;omega
   ·exact hz
 rcases Int.le_total 0 k with hk | hk
 ·have a1:=Int.mul_nonneg hf hk
  have a2:=Int.mul_nonneg hg hk
  right
  exact ⟨(sgn hc).1 a1,(sgn hd).2 (by omega)⟩
 ·have a1:=Int.mul_nonpos_of_nonneg_of_nonpos hf hk
  have a2:=Int.mul_nonpos_of_nonneg_of_nonpos hg hk
  left
  exact ⟨(sgn hc).2 a1,(sgn hd).1 (by omega)⟩
theorem on_apart {x0 y0 x1 y1 p q e h:Int} (hs:lexLt x0 y0 x1 y1) (ho:onSg x0 y0 x1 y1 p q):apart (e*(y0-q)-h*(x0-p)) (e*(y1-q)-h*(x1-p)):=by
 obtain ⟨h1,h2,h3⟩:=ho
 unfold crossZ at h1
 unfold lexLe at h2 h3
 unfold lexLt at hs
 by_cases hx:x0=x1
 ·have e1:p=x0:=by omega
  subst e1;subst hx
  exact apart_of (f:=q-y0) (g:=y1-q) (k:=-(e*(y1-y0))) (by omega) (by omega) (by omega) (by grind) (by grind)
 ·exact apart_of (f:=p-x0) (g:=x1-p) (k:=h*(x1-x0)-e*(y1-y0)) (by omega) (by omega) (by omega) (by grind) (by grind)
theorem on_meets {x0 y0 x1 y1 u0 v0 u1 v1:Int} (hs:lexLt x0 y0 x1 y1) (ht:lexLt u0 v0 u1 v1) (h:onSg x0 y0 x1 y1 u0 v0 ∨ onSg x0 y0 x1 y1 u1 v1):meets x0 y0 x1 y1 u0 v0 u1 v1:=by
 by_cases hc:crossZ x0 y0 x1 y1 u0 v0=0∧crossZ x0 y0 x1 y1 u1 v1=0
 ·left
  refine ⟨hc.1,hc.2,?_⟩
  unfold lexLt at hs ht
  unfold onSg lexLe at h
  unfold lexLe
  omega
 ·right
  refine ⟨hc,?_,?_⟩
  ·unfold apart
   rcases h with h | h
   ·have:=h.1;omega
   ·have:=h.1;omega
  ·rcases h with h | h
   ·have:=on_apart (e:=u1-u0) (h:=v1-v0) hs h
    exact this
   ·have:=on_apart (e:=u1-u0) (h:=v1-v0) hs h
    have e1:crossZ u0 v0 u1 v1 x0 y0=(u1-u0)*(y0-v1)-(v1-v0)*(x0-u1):=by unfold crossZ;grind
    have e2:crossZ u0 v0 u1 v1 x1 y1=(u1-u0)*(y1-v1)-(v1-v0)*(x1-u1):=by unfold crossZ;grind
    rw [e1,e2]
    exact this
noncomputable section
def isL3p (n:Nat):F→Bool | .agg [a,b,c,d,e,f]=>isL1n n (.agg [a,b])&&(isL1n n (.agg [c,d])&&isL1n n (.agg [e,f])) | _=>false
def unX3:F→Int | .agg [a,b,_,_,_,_]=>unL1n (.agg [a,b]) | _=>0
def unY3:F→Int | .agg [_,_,a,b,_,_]=>unL1n (.agg [a,b]) | _=>0
def unW3:F→Int | .agg [_,_,_,_,a,b]=>unL1n (.agg [a,b]) | _=>0
theorem l3p_eqv {n:Nat} {x:F} (h:isL3p n x=true):FLe x (l3pF (unX3 x) (unY3 x) (unW3 x))∧FLe (l3pF (unX3 x) (unY3 x) (unW3 x)) x:=by
 unfold isL3p at h
 split at h
 ·rename_i a b c d e f
  rw [Bool.and_eq_true,Bool.and_eq_true] at h
  obtain ⟨s,y,e1,hy,f1⟩:=l1n_form h.1
  obtain ⟨t,z,e2,hz,f2⟩:=l1n_form h.2.1
  obtain ⟨r,o,e3,ho,f3⟩:=l1n_form h.2.2
  cases e1;cases e2;cases e3
  have g:l3pF (unX3 (.agg [.bool s,b,.bool t,d,.bool r,f])) (unY3 (.agg [.bool s,b,.bool t,d,.bool r,f])) (unW3 (.agg [.bool s,b,.bool t,d,.bool r,f]))=.agg [.bool s,halvesF (unHalves b),.bool t,halvesF (unHalves d),.bool r,halvesF (unHalves f)]:=by
   unfold l1nF at f1 f2 f3
   injection f1 with f1
   injection f2 with f2
   injection f3 with f3
   simp only [List.cons.injEq,and_true] at f1 f2 f3
   show F.agg [_,_,_,_,_,_]=_
   rw [show unX3 (.agg [.bool s,b,.bool t,d,.bool r,f])=unL1n (.agg [.bool s,b]) from rfl,show unY3 (.agg [.bool s,b,.bool t,d,.bool r,f])=unL1n (.agg [.bool t,d]) from rfl,show unW3 (.agg [.bool s,b,.bool t,d,.bool r,f])=unL1n (.agg [.bool r,f]) from rfl,f1.1,f1.2,f2.1,f2.2,f3.1,f3.2]
  rw [g]
  exact ⟨FLe.agg ⟨.refl _,(halves_eqv hy).1,.refl _,(halves_eqv hz).1,.refl _,(halves_eqv ho).1,trivial⟩,FLe.agg ⟨.refl _,(halves_eqv hy).2,.refl _,(halves_eqv hz).2,.refl _,(halves_eqv ho).2,trivial⟩⟩
 ·cases h
/-! ### function 55 -/
def T55 {ρ:Type} (ret:KJ62 ρ) (x:Int) (y:Int):Option ρ :=
 (bsel (isI64 x)
 (bsel (isI64 y)
 (ret (l3pF x y 1))
 none)
 none)
def G55 (x:Int) (y:Int):Option (F):=T55 some x y
theorem t55 (x:Int) (y:Int) (r:F) (h:G55 x y=some r):Ends Tryz.prog Tryz.f55.results.toList [.code (bodyOf Tryz.f55)] (start Tryz.f55.ntmps ([F.agg [F.int .i64 x,F.int .i64 y]].map .f)) (r):=by
 refine Ends.of_run tyOK envS9_ok (T:=[]) (n:=200) ?_
 refine gE (Y:=T55 (fun r=>some (.ret (r))) x y) (by kernel_rfl) ?_
 exact (gS h (fun _ h=>(gS h (fun _ h=>gR (by cases h;rfl)) gN)) gN)
def resSpot3:List F→F | [.agg [.int .i64 a,.int .i64 b]]=>l3pF a b 1 | _=>.dflt
theorem boundC_add {x y:Int} {n:Nat} (hx:x.natAbs<4294967296 ^ n) (hy:y.natAbs<4294967296 ^ n):(x+y).natAbs<4294967296 ^ (n+1):=by
 rw [Nat.pow_succ]
 generalize 4294967296 ^ n=m at *
 omega
theorem resMulZ_eq (x y:Int):resMulZ [l1nF x,l1nF y]=l1nF (x*y):=by
 show l1nF (unL1n (l1nF x)*unL1n (l1nF y))=_
 rw [unL1n_l1nF,unL1n_l1nF]
theorem l3spot_law {x y:Int} (hx:isI64 x=true) (hy:isI64 y=true):G55 x y=some (l3pF x y 1):=by
 unfold G55 T55
 rw [hx,hy];rfl
def preSp3:List F→Bool | [.agg [.int .i64 a,.int .i64 b]]=>isI64 a&&isI64 b | _=>false
theorem okSpot3:PureOK Tryz.prog 55 preSp3 resSpot3 :=
 fn_pure (c:=bodyOf Tryz.f55) Tryz.func55 (by kernel_rfl) (by kernel_rfl) fun xs hp=>match xs,hp with
 | [.agg [.int .i64 a,.int .i64 b]],hp=>by
  simp only [preSp3,Bool.and_eq_true] at hp
  exact t55 a b _ (l3spot_law hp.1 hp.2)
def envH1:Env:=envS9.add 55 (.pure preSp3 resSpot3)
theorem envH1_ok:EnvOK Tryz.prog envH1:=(Env.add_ok envS9_ok okSpot3.sp)
end
noncomputable section
def cmp3V (x y w u v t:Int):Int:=bif (x*t-u*w).sign != 0 then (x*t-u*w).sign else (y*t-v*w).sign
/-! ### function 59 -/
def T59 {ρ:Type} (ret:KJ62 ρ) (x:Int) (y:Int) (w:Int):Option ρ :=
 (bsel (decide (w<0))
 (bsel (isL1n 800 (l1nF x))
 (bsel (isL1n 800 (l1nF y))
 (bsel (isL1n 800 (l1nF w))
 (bsel (isL1n 699 (l1nF (-unL1n (l1nF x)))&&isL1n 699 (l1nF (-unL1n (l1nF y))))
 (bsel (isL1n 699 (resGcdZ [l1nF (-unL1n (l1nF x)),l1nF (-unL1n (l1nF y))])&&isL1n 699 (l1nF (-unL1n (l1nF w))))
 (bsel (isL1n 800 (l1nF (gcdI (unL1n (resGcdZ [l1nF (-unL1n (l1nF x)),l1nF (-unL1n (l1nF y))])) (unL1n (l1nF (-unL1n (l1nF w))))))&&true)
 (bsel ((unL1n (l1nF (gcdI (unL1n (resGcdZ [l1nF (-unL1n (l1nF x)),l1nF (-unL1n (l1nF y))])) (unL1n (l1nF (-unL1n (l1nF w))))))-unL1n (resInt3 [F.int .i64 1])).sign != 0)
 (bsel (isL1n 699 (l1nF (-unL1n (l1nF x)))&&isL1n 699 (l1nF (gcdI (unL1n (resGcdZ [l1nF (-unL1n (l1nF x)),l1nF (-unL1n (l1nF y))])) (unL1n (l1nF (-unL1n (l1nF w))))))&&isDivZ (unL1n (l1nF (gcdI (unL1n (resGcdZ [l1nF (-unL1n (l1nF x)),l1nF (-unL1n (l1nF y))])) (unL1n (l1nF (-unL1n (l1nF w))))))))
 (bsel (isL1n 699 (l1nF (-unL1n (l1nF y)))&&isL1n 699 (l1nF (gcdI (unL1n (resGcdZ [l1nF (-unL1n (l1nF x)),l1nF (-unL1n (l1nF y))])) (unL1n (l1nF (-unL1n (l1nF w))))))&&isDivZ (unL1n (l1nF (gcdI (unL1n (resGcdZ [l1nF (-unL1n (l1nF x)),l1nF (-unL1n (l1nF y))])) (unL1n (l1nF (-unL1n (l1nF w))))))))
 (bsel (isL1n 699 (l1nF (-unL1n (l1nF w)))&&isL1n 699 (l1nF (gcdI (unL1n (resGcdZ [l1nF (-unL1n (l1nF x)),l1nF (-unL1n (l1nF y))])) (unL1n (l1nF (-unL1n (l1nF w))))))&&isDivZ (unL1n (l1nF (gcdI (unL1n (resGcdZ [l1nF (-unL1n (l1nF x)),l1nF (-unL1n (l1nF y))])) (unL1n (l1nF (-unL1n (l1nF w))))))))
 (ret (l3pF (unL1n (l1nF (-unL1n (l1nF x))) / unL1n (l1nF (gcdI (unL1n (resGcdZ [l1nF (-unL1n (l1nF x)),l1nF (-unL1n (l1nF y))])) (unL1n (l1nF (-unL1n (l1nF w))))))) (unL1n (l1nF (-unL1n (l1nF y))) / unL1n (l1nF (gcdI (unL1n (resGcdZ [l1nF (-unL1n (l1nF x)),l1nF (-unL1n (l1nF y))])) (unL1n (l1nF (-unL1n (l1nF w))))))) (unL1n (l1nF (-unL1n (l1nF w))) / unL1n (l1nF (gcdI (unL1n (resGcdZ [l1nF (-unL1n (l1nF x)),l1nF (-unL1n (l1nF y))])) (unL1n (l1nF (-unL1n (l1nF w)))))))))
 none)
 none)
 none)
 (ret (l3pF (-unL1n (l1nF x)) (-unL1n (l1nF y)) (-unL1n (l1nF w)))))
 none)
 none)
 none)
 none)
 none)
 none)
 (bsel (isL1n 699 (l1nF x)&&isL1n 699 (l1nF y))
 (bsel (isL1n 699 (resGcdZ [l1nF x,l1nF y])&&isL1n 699 (l1nF w))
 (bsel (isL1n 800 (l1nF (gcdI (unL1n (resGcdZ [l1nF x,l1nF y])) (unL1n (l1nF w))))&&true)
 (bsel ((unL1n (l1nF (gcdI (unL1n (resGcdZ [l1nF x,l1nF y])) (unL1n (l1nF w))))-unL1n (resInt3 [F.int .i64 1])).sign != 0)
 (bsel (isL1n 699 (l1nF x)&&isL1n 699 (l1nF (gcdI (unL1n (resGcdZ [l1nF x,l1nF y])) (unL1n (l1nF w))))&&isDivZ (unL1n (l1nF (gcdI (unL1n (resGcdZ [l1nF x,l1nF y])) (unL1n (l1nF w))))))
 (bsel (isL1n 699 (l1nF y)&&isL1n 699 (l1nF (gcdI (unL1n (resGcdZ [l1nF x,l1nF y])) (unL1n (l1nF w))))&&isDivZ (unL1n (l1nF (gcdI (unL1n (resGcdZ [l1nF x,l1nF y])) (unL1n (l1nF w))))))
 (bsel (isL1n 699 (l1nF w)&&isL1n 699 (l1nF (gcdI (unL1n (resGcdZ [l1nF x,l1nF y])) (unL1n (l1nF w))))&&isDivZ (unL1n (l1nF (gcdI (unL1n (resGcdZ [l1nF x,l1nF y])) (unL1n (l1nF w))))))
 (ret (l3pF (unL1n (l1nF x) / unL1n (l1nF (gcdI (unL1n (resGcdZ [l1nF x,l1nF y])) (unL1n (l1nF w))))) (unL1n (l1nF y) / unL1n (l1nF (gcdI (unL1n (resGcdZ [l1nF x,l1nF y])) (unL1n (l1nF w))))) (unL1n (l1nF w) / unL1n (l1nF (gcdI (unL1n (resGcdZ [l1nF x,l1nF y])) (unL1n (l1nF w)))))))
 none)
 none)
 none)
 (ret (l3pF x y w)))
 none)
 none)
 none))
def G59 (x:Int) (y:Int) (w:Int):Option (F):=T59 some x y w
theorem t59 (x:Int) (y:Int) (w:Int) (r:F) (h:G59 x y w=some r):Ends Tryz.prog Tryz.f59.results.toList [.code (bodyOf Tryz.f59)] (start Tryz.f59.ntmps ([l1nF x,l1nF y,l1nF w].map .f)) (r):=by
 refine Ends.of_run tyOK envH1_ok (T:=[]) (n:=200) ?_
 refine gE (Y:=T59 (fun r=>some (.ret (r))) x y w) (by kernel_rfl) ?_
 exact (gS h (fun _ h=>(gS h (fun _ h=>(gS h (fun _ h=>(gS h (fun _ h=>(gS h (fun _ h=>(gS h (fun _ h=>(gS h (fun _ h=>(gS h (fun _ h=>(gS h (fun _ h=>(gS h (fun _ h=>(gS h (fun _ h=>gR (by cases h;rfl)) gN)) gN)) gN)) (fun _ h=>gR (by cases h;rfl)))) gN)) gN)) gN)) gN)) gN)) gN)) (fun _ h=>(gS h (fun _ h=>(gS h (fun _ h=>(gS h (fun _ h=>(gS h (fun _ h=>(gS h (fun _ h=>(gS h (fun _ h=>(gS h (fun _ h=>gR (by cases h;rfl)) gN)) gN)) gN)) (fun _ h=>gR (by cases h;rfl)))) gN)) gN)) gN)))
theorem gcdI_bound {x y:Int} {m:Nat} (hx:x.natAbs<m) (hy:y.natAbs<m):(gcdI x y).natAbs<m:=by
 unfold gcdI
 rw [Int.natAbs_natCast]
 by_cases h:y.natAbs=0
 ·rw [h,Nat.gcd_zero_right];exact hx
 ·exact Nat.lt_of_le_of_lt (Nat.gcd_le_right x.natAbs (by omega)) hy
def g3 (x y w:Int):Int:=gcdI (gcdI x y) w
def mkXV (x y w:Int):Int:=if w<0 then -x / g3 (-x) (-y) (-w) else x / g3 x y w
def mkYV (x y w:Int):Int:=if w<0 then -y / g3 (-x) (-y) (-w) else y / g3 x y w
def mkWV (x y w:Int):Int:=if w<0 then -w / g3 (-x) (-y) (-w) else w / g3 x y w
theorem resGcdZ_eq (x y:Int):resGcdZ [l1nF x,l1nF y]=l1nF (gcdI x y):=by
 show l1nF (gcdI (unL1n (l1nF x)) (unL1n (l1nF y)))=_
 rw [unL1n_l1nF,unL1n_l1nF]
theorem l3make_law {x y w:Int} (hw0:w ≠ 0) (hx:x.natAbs<4294967296 ^ 600) (hy:y.natAbs<4294967296 ^ 600) (hw:w.natAbs<4294967296 ^ 600) :
  G59 x y w=some (l3pF (mkXV x y w) (mkYV x y w) (mkWV x y w)):=by
 unfold mkXV mkYV mkWV
 have key:∀ {g:Int},¬ (g-1).sign ≠ 0→∀ z:Int,z / g=z:=fun {g} h z=>by
  have h1:=Int.sign_eq_zero_iff_zero.1 (Classical.byContradiction h)
  obtain rfl:g=1:=by omega
  exact Int.ediv_one z
 unfold G59 T59
 simp only [resGcdZ_eq,unL1n_l1nF]
 by_cases hn:w<0
 ·have gxy:=gcdI_bound (x:=-x) (y:=-y) (by rw [Int.natAbs_neg];exact hx) (by rw [Int.natAbs_neg];exact hy)
  obtain ⟨g1,g2⟩:=gcdI_pos (u:=gcdI (-x) (-y)) (show 0 < -w by omega)
  have hg:(gcdI (gcdI (-x) (-y)) (-w)).natAbs<4294967296 ^ 600:=by omega
  have dz:isDivZ (gcdI (gcdI (-x) (-y)) (-w))=true:=isDivA_iff.2 (by omega)
  have nx:(-x).natAbs<4294967296 ^ 600:=by rw [Int.natAbs_neg];exact hx
  have ny:(-y).natAbs<4294967296 ^ 600:=by rw [Int.natAbs_neg];exact hy
  have nw:(-w).natAbs<4294967296 ^ 600:=by rw [Int.natAbs_neg];exact hw
  have i7:∀ {z:Int},z.natAbs<4294967296 ^ 600→isL1n 699 (l1nF z)=true:=fun h=>isL1n_l1nF (boundC_up h (by omega))
  have i8:∀ {z:Int},z.natAbs<4294967296 ^ 600→isL1n 800 (l1nF z)=true:=fun h=>isL1n_l1nF (boundC_up h (by omega))
  rw [decide_eq_true hn,if_pos hn,if_pos hn,if_pos hn]
  simp only [i8 hx,i8 hy,i8 hw,i7 nx,i7 ny,i7 nw,i7 gxy,i7 hg,i8 hg,dz,resInt3,unL1n_l1nF,Bool.and_self,bsel_true]
  unfold g3
  by_cases h:(gcdI (gcdI (-x) (-y)) (-w)-1).sign ≠ 0
  ·rw [show ((gcdI (gcdI (-x) (-y)) (-w)-1).sign != 0)=true by simpa using h,bsel_true]
  ·rw [show ((gcdI (gcdI (-x) (-y)) (-w)-1).sign != 0)=false by simpa using h,bsel_false,key h,key h,key h]
 ·have gxy:=gcdI_bound hx hy
  obtain ⟨g1,g2⟩:=gcdI_pos (u:=gcdI x y) (show 0<w by omega)
  have hg:(gcdI (gcdI x y) w).natAbs<4294967296 ^ 600:=by omega
  have dz:isDivZ (gcdI (gcdI x y) w)=true:=isDivA_iff.2 (by omega)
  have i7:∀ {z:Int},z.natAbs<4294967296 ^ 600→isL1n 699 (l1nF z)=true:=fun h=>isL1n_l1nF (boundC_up h (by omega))
  have i8:∀ {z:Int},z.natAbs<4294967296 ^ 600→isL1n 800 (l1nF z)=true:=fun h=>isL1n_l1nF (boundC_up h (by omega))
  rw [decide_eq_false hn,if_neg hn,if_neg hn,if_neg hn]
  simp only [i8 hx,i8 hy,i8 hw,i7 hx,i7 hy,i7 hw,i7 gxy,i7 hg,i8 hg,dz,resInt3,unL1n_l1nF,Bool.and_self,bsel_true,bsel_false]
  unfold g3
  by_cases h:(gcdI (gcdI x y) w-1).sign ≠ 0
  ·rw [show ((gcdI (gcdI x y) w-1).sign != 0)=true by simpa using h,bsel_true]
  ·rw [show ((gcdI (gcdI x y) w-1).sign != 0)=false by simpa using h,bsel_false,key h,key h,key h]
def isNon0 (w:Int):Bool:=!(w==0)
def preMake3p:List F→Bool | [x,y,w]=>isL1n 600 x&&isL1n 600 y&&isL1n 600 w&&isNon0 (unL1n w) | _=>false
def resMake3p:List F→F | [x,y,w]=>l3pF (mkXV (unL1n x) (unL1n y) (unL1n w)) (mkYV (unL1n x) (unL1n y) (unL1n w)) (mkWV (unL1n x) (unL1n y) (unL1n w)) | _=>.dflt
theorem okMake3p:PureOK Tryz.prog 59 preMake3p resMake3p :=
 fn_pure_at (c:=bodyOf Tryz.f59) Tryz.func59 (by kernel_rfl) (by kernel_rfl) fun xs hp=>match xs,hp with
 | [x,y,w],hp=>by
  simp only [preMake3p,isNon0,Bool.and_eq_true,Bool.not_eq_true',beq_eq_false_iff_ne,ne_eq] at hp
  obtain ⟨⟨⟨h1,h2⟩,h3⟩,h4⟩:=hp
  exact ⟨[l1nF (unL1n x),l1nF (unL1n y),l1nF (unL1n w)],_,⟨(l1n_eqv h1).1,(l1n_eqv h2).1,(l1n_eqv h3).1,trivial⟩,t59 _ _ _ _ (l3make_law h4 (natAbs_of_isL1n h1) (natAbs_of_isL1n h2) (natAbs_of_isL1n h3)),.refl _⟩
def envH2:Env:=envH1.add 59 (.pure preMake3p resMake3p)
theorem envH2_ok:EnvOK Tryz.prog envH2:=(Env.add_ok envH1_ok okMake3p.sp)
end
noncomputable section
def envH3:Env:=envH2
theorem envH3_ok:EnvOK Tryz.prog envH3:=envH2_ok
end
noncomputable section
def envH4a:Env:=envH3
theorem envH4a_ok:EnvOK Tryz.prog envH4a:=envH3_ok
end
theorem cmp3_one (x y u v:Int):(cmp3V x y 1 u v 1≤0 ↔ lexLe x y u v)∧(cmp3V x y 1 u v 1 > 0 ↔ lexLt u v x y):=by
 unfold cmp3V lexLe lexLt
 rw [Int.mul_one,Int.mul_one,Int.mul_one,Int.mul_one]
 rcases Int.lt_trichotomy (x-u) 0 with h | h | h
 ·rw [Int.sign_eq_neg_one_of_neg h,show ((-1:Int) != 0)=true from rfl,cond_true]
  omega
 ·rw [h,show ((Int.sign 0) != 0)=false from rfl,cond_false]
  rcases Int.lt_trichotomy (y-v) 0 with k | k | k
  ·rw [Int.sign_eq_neg_one_of_neg k];omega
  ·rw [k,show Int.sign 0=0 from rfl];omega
  ·rw [Int.sign_eq_one_of_pos k];omega
 ·rw [Int.sign_eq_one_of_pos h,show ((1:Int) != 0)=true from rfl,cond_true]
  omega
noncomputable section
set_option maxHeartbeats 1000000
/-! ### function 36 -/
def T36 {ρ:Type} (ret:KJ62 ρ) (x0:Int) (y0:Int) (x1:Int) (y1:Int) (u0:Int) (v0:Int) (u1:Int) (v1:Int):Option ρ :=
 (bsel ((turnV x0 y0 x1 y1 u0 v0==0)==true)
 (bsel (turnV x0 y0 x1 y1 u1 v1==0)
 (bsel (lessV x0 y0 u0 v0)
 (bsel (lessV u1 v1 x1 y1)
 (bsel (lessV u1 v1 u0 v0)
 (ret (F.tup [F.int .i64 0,F.agg [F.bool false,F.sl 0 fun x ↦ F.bool false,F.bool false,F.sl 0 fun x ↦ F.bool false,F.bool false,F.sl 0 fun x ↦ F.bool false],F.agg [F.bool false,F.sl 0 fun x ↦ F.bool false,F.bool false,F.sl 0 fun x ↦ F.bool false,F.bool false,F.sl 0 fun x ↦ F.bool false]]))
 (bsel (u0==u1&&(v0==v1&&true))
 (bsel (isI64 u0&&isI64 v0)
 (ret (F.tup [F.int .i64 1,l3pF u0 v0 1,F.agg [F.bool false,F.sl 0 fun x ↦ F.bool false,F.bool false,F.sl 0 fun x ↦ F.bool false,F.bool false,F.sl 0 fun x ↦ F.bool false]]))
 none)
 (bsel (isI64 u0&&isI64 v0)
 (bsel (isI64 u1&&isI64 v1)
 (ret (F.tup [F.int .i64 2,l3pF u0 v0 1,l3pF u1 v1 1]))
 none)
 none)))
 (bsel (lessV x1 y1 u0 v0)
 (ret (F.tup [F.int .i64 0,F.agg [F.bool false,F.sl 0 fun x ↦ F.bool false,F.bool false,F.sl 0 fun x ↦ F.bool false,F.bool false,F.sl 0 fun x ↦ F.bool false],F.agg [F.bool false,F.sl 0 fun x ↦ F.bool false,F.bool false,F.sl 0 fun x ↦ F.bool false,F.bool false,F.sl 0 fun x ↦ F.bool false]]))
 (bsel (u0==x1&&(v0==y1&&true))
 (bsel (isI64 u0&&isI64 v0)
 (ret (F.tup [F.int .i64 1,l3pF u0 v0 1,F.agg [F.bool false,F.sl 0 fun x ↦ F.bool false,F.bool false,F.sl 0 fun x ↦ F.bool false,F.bool false,F.sl 0 fun x ↦ F.bool false]]))
 none)
 (bsel (isI64 u0&&isI64 v0)
 (bsel (isI64 x1&&isI64 y1)
 (ret (F.tup [F.int .i64 2,l3pF u0 v0 1,l3pF x1 y1 1]))
 none)
 none))))
 (bsel (lessV u1 v1 x1 y1)
 (bsel (lessV u1 v1 x0 y0)
 (ret (F.tup [F.int .i64 0,F.agg [F.bool false,F.sl 0 fun x ↦ F.bool false,F.bool false,F.sl 0 fun x ↦ F.bool false,F.bool false,F.sl 0 fun x ↦ F.bool false],F.agg [F.bool false,F.sl 0 fun x ↦ F.bool false,F.bool false,F.sl 0 fun x ↦ F.bool false,F.bool false,F.sl 0 fun x ↦ F.bool false]]))
 (bsel (x0==u1&&(y0==v1&&true))
 (bsel (isI64 x0&&isI64 y0)
 (ret (F.tup [F.int .i64 1,l3pF x0 y0 1,F.agg [F.bool false,F.sl 0 fun x ↦ F.bool false,F.bool false,F.sl 0 fun x ↦ F.bool false,F.bool false,F.sl 0 fun x ↦ F.bool false]]))
 none)
 (bsel (isI64 x0&&isI64 y0)
 (bsel (isI64 u1&&isI64 v1)
 (ret (F.tup [F.int .i64 2,l3pF x0 y0 1,l3pF u1 v1 1]))
 none)
 none)))
 (bsel (lessV x1 y1 x0 y0)
 (ret (F.tup [F.int .i64 0,F.agg [F.bool false,F.sl 0 fun x ↦ F.bool false,F.bool false,F.sl 0 fun x ↦ F.bool false,F.bool false,F.sl 0 fun x ↦ F.bool false],F.agg [F.bool false,F.sl 0 fun x ↦ F.bool false,F.bool false,F.sl 0 fun x ↦ F.bool false,F.bool false,F.sl 0 fun x ↦ F.bool false]]))
 (bsel (x0==x1&&(y0==y1&&true))
 (bsel (isI64 x0&&isI64 y0)
 (ret (F.tup [F.int .i64 1,l3pF x0 y0 1,F.agg [F.bool false,F.sl 0 fun x ↦ F.bool false,F.bool false,F.sl 0 fun x ↦ F.bool false,F.bool false,F.sl 0 fun x ↦ F.bool false]]))
 none)
 (bsel (isI64 x0&&isI64 y0)
 (bsel (isI64 x1&&isI64 y1)
 (ret (F.tup [F.int .i64 2,l3pF x0 y0 1,l3pF x1 y1 1]))
 none)
 none)))))
 (bsel (decide (IntKind.i64.wrap (turnV x0 y0 x1 y1 u0 v0*turnV x0 y0 x1 y1 u1 v1) > 0)==false)
 (bsel (decide (IntKind.i64.wrap (turnV u0 v0 u1 v1 x0 y0*turnV u0 v0 u1 v1 x1 y1) > 0))
 (ret (F.tup [F.int .i64 0,F.agg [F.bool false,F.sl 0 fun x ↦ F.bool false,F.bool false,F.sl 0 fun x ↦ F.bool false,F.bool false,F.sl 0 fun x ↦ F.bool false],F.agg [F.bool false,F.sl 0 fun x ↦ F.bool false,F.bool false,F.sl 0 fun x ↦ F.bool false,F.bool false,F.sl 0 fun x ↦ F.bool false]]))
 (bsel (isI64 (IntKind.i64.wrap (IntKind.i64.wrap (IntKind.i64.wrap (x1-x0)*IntKind.i64.wrap (v1-v0))-IntKind.i64.wrap (IntKind.i64.wrap (y1-y0)*IntKind.i64.wrap (u1-u0)))))
 (bsel (isI64 (IntKind.i64.wrap (IntKind.i64.wrap (IntKind.i64.wrap (u0-x0)*IntKind.i64.wrap (v1-v0))-IntKind.i64.wrap (IntKind.i64.wrap (v0-y0)*IntKind.i64.wrap (u1-u0)))))
 (bsel (isI64 x0)
 (bsel (isL1n 900 (resInt3 [F.int .i64 x0])&&isL1n 900 (l1nF (IntKind.i64.wrap (IntKind.i64.wrap (IntKind.i64.wrap (x1-x0)*IntKind.i64.wrap (v1-v0))-IntKind.i64.wrap (IntKind.i64.wrap (y1-y0)*IntKind.i64.wrap (u1-u0))))))
 (bsel (isI64 (IntKind.i64.wrap (x1-x0)))
 (bsel (isL1n 900 (resInt3 [F.int .i64 (IntKind.i64.wrap (x1-x0))])&&isL1n 900 (l1nF (IntKind.i64.wrap (IntKind.i64.wrap (IntKind.i64.wrap (u0-x0)*IntKind.i64.wrap (v1-v0))-IntKind.i64.wrap (IntKind.i64.wrap (v0-y0)*IntKind.i64.wrap (u1-u0))))))
 (bsel (isL1n 800 (resMulZ [resInt3 [F.int .i64 x0],l1nF (IntKind.i64.wrap (IntKind.i64.wrap (IntKind.i64.wrap (x1-x0)*IntKind.i64.wrap (v1-v0))-IntKind.i64.wrap (IntKind.i64.wrap (y1-y0)*IntKind.i64.wrap (u1-u0))))])&&isL1n 800 (resMulZ [resInt3 [F.int .i64 (IntKind.i64.wrap (x1-x0))],l1nF (IntKind.i64.wrap (IntKind.i64.wrap (IntKind.i64.wrap (u0-x0)*IntKind.i64.wrap (v1-v0))-IntKind.i64.wrap (IntKind.i64.wrap (v0-y0)*IntKind.i64.wrap (u1-u0))))]))
 (bsel (isI64 y0)
 (bsel (isL1n 900 (resInt3 [F.int .i64 y0])&&isL1n 900 (l1nF (IntKind.i64.wrap (IntKind.i64.wrap (IntKind.i64.wrap (x1-x0)*IntKind.i64.wrap (v1-v0))-IntKind.i64.wrap (IntKind.i64.wrap (y1-y0)*IntKind.i64.wrap (u1-u0))))))
 (bsel (isI64 (IntKind.i64.wrap (y1-y0)))
 (bsel (isL1n 900 (resInt3 [F.int .i64 (IntKind.i64.wrap (y1-y0))])&&isL1n 900 (l1nF (IntKind.i64.wrap (IntKind.i64.wrap (IntKind.i64.wrap (u0-x0)*IntKind.i64.wrap (v1-v0))-IntKind.i64.wrap (IntKind.i64.wrap (v0-y0)*IntKind.i64.wrap (u1-u0))))))
 (bsel (isL1n 800 (resMulZ [resInt3 [F.int .i64 y0],l1nF (IntKind.i64.wrap (IntKind.i64.wrap (IntKind.i64.wrap (x1-x0)*IntKind.i64.wrap (v1-v0))-IntKind.i64.wrap (IntKind.i64.wrap (y1-y0)*IntKind.i64.wrap (u1-u0))))])&&isL1n 800 (resMulZ [resInt3 [F.int .i64 (IntKind.i64.wrap (y1-y0))],l1nF (IntKind.i64.wrap (IntKind.i64.wrap (IntKind.i64.wrap (u0-x0)*IntKind.i64.wrap (v1-v0))-IntKind.i64.wrap (IntKind.i64.wrap (v0-y0)*IntKind.i64.wrap (u1-u0))))]))
 (bsel (isL1n 600 (l1nF (unL1n (resMulZ [resInt3 [F.int .i64 x0],l1nF (IntKind.i64.wrap (IntKind.i64.wrap (IntKind.i64.wrap (x1-x0)*IntKind.i64.wrap (v1-v0))-IntKind.i64.wrap (IntKind.i64.wrap (y1-y0)*IntKind.i64.wrap (u1-u0))))])+unL1n (resMulZ [resInt3 [F.int .i64 (IntKind.i64.wrap (x1-x0))],l1nF (IntKind.i64.wrap (IntKind.i64.wrap (IntKind.i64.wrap (u0-x0)*IntKind.i64.wrap (v1-v0))-IntKind.i64.wrap (IntKind.i64.wrap (v0-y0)*IntKind.i64.wrap (u1-u0))))])))&&isL1n 600 (l1nF (unL1n (resMulZ [resInt3 [F.int .i64 y0],l1nF (IntKind.i64.wrap (IntKind.i64.wrap (IntKind.i64.wrap (x1-x0)*IntKind.i64.wrap (v1-v0))-IntKind.i64.wrap (IntKind.i64.wrap (y1-y0)*IntKind.i64.wrap (u1-u0))))])+unL1n (resMulZ [resInt3 [F.int .i64 (IntKind.i64.wrap (y1-y0))],l1nF (IntKind.i64.wrap (IntKind.i64.wrap (IntKind.i64.wrap (u0-x0)*IntKind.i64.wrap (v1-v0))-IntKind.i64.wrap (IntKind.i64.wrap (v0-y0)*IntKind.i64.wrap (u1-u0))))])))&&isL1n 600 (l1nF (IntKind.i64.wrap (IntKind.i64.wrap (IntKind.i64.wrap (x1-x0)*IntKind.i64.wrap (v1-v0))-IntKind.i64.wrap (IntKind.i64.wrap (y1-y0)*IntKind.i64.wrap (u1-u0)))))&&isNon0 (unL1n (l1nF (IntKind.i64.wrap (IntKind.i64.wrap (IntKind.i64.wrap (x1-x0)*IntKind.i64.wrap (v1-v0))-IntKind.i64.wrap (IntKind.i64.wrap (y1-y0)*IntKind.i64.wrap (u1-u0)))))))
 (ret (F.tup [F.int .i64 1,l3pF (mkXV (unL1n (l1nF (unL1n (resMulZ [resInt3 [F.int .i64 x0],l1nF (IntKind.i64.wrap (IntKind.i64.wrap (IntKind.i64.wrap (x1-x0)*IntKind.i64.wrap (v1-v0))-IntKind.i64.wrap (IntKind.i64.wrap (y1-y0)*IntKind.i64.wrap (u1-u0))))])+unL1n (resMulZ [resInt3 [F.int .i64 (IntKind.i64.wrap (x1-x0))],l1nF (IntKind.i64.wrap (IntKind.i64.wrap (IntKind.i64.wrap (u0-x0)*IntKind.i64.wrap (v1-v0))-IntKind.i64.wrap (IntKind.i64.wrap (v0-y0)*IntKind.i64.wrap (u1-u0))))])))) (unL1n (l1nF (unL1n (resMulZ [resInt3 [F.int .i64 y0],l1nF (IntKind.i64.wrap (IntKind.i64.wrap (IntKind.i64.wrap (x1-x0)*IntKind.i64.wrap (v1-v0))-IntKind.i64.wrap (IntKind.i64.wrap (y1-y0)*IntKind.i64.wrap (u1-u0))))])+unL1n (resMulZ [resInt3 [F.int .i64 (IntKind.i64.wrap (y1-y0))],l1nF (IntKind.i64.wrap (IntKind.i64.wrap (IntKind.i64.wrap (u0-x0)*IntKind.i64.wrap (v1-v0))-IntKind.i64.wrap (IntKind.i64.wrap (v0-y0)*IntKind.i64.wrap (u1-u0))))])))) (unL1n (l1nF (IntKind.i64.wrap (IntKind.i64.wrap (IntKind.i64.wrap (x1-x0)*IntKind.i64.wrap (v1-v0))-IntKind.i64.wrap (IntKind.i64.wrap (y1-y0)*IntKind.i64.wrap (u1-u0))))))) (mkYV (unL1n (l1nF (unL1n (resMulZ [resInt3 [F.int .i64 x0],l1nF (IntKind.i64.wrap (IntKind.i64.wrap (IntKind.i64.wrap (x1-x0)*IntKind.i64.wrap (v1-v0))-IntKind.i64.wrap (IntKind.i64.wrap (y1-y0)*IntKind.i64.wrap (u1-u0))))])+unL1n (resMulZ [resInt3 [F.int .i64 (IntKind.i64.wrap (x1-x0))],l1nF (IntKind.i64.wrap (IntKind.i64.wrap (IntKind.i64.wrap (u0-x0)*IntKind.i64.wrap (v1-v0))-IntKind.i64.wrap (IntKind.i64.wrap (v0-y0)*IntKind.i64.wrap (u1-u0))))])))) (unL1n (l1nF (unL1n (resMulZ [resInt3 [F.int .i64 y0],l1nF (IntKind.i64.wrap (IntKind.i64.wrap (IntKind.i64.wrap (x1-x0)*IntKind.i64.wrap (v1-v0))-IntKind.i64.wrap (IntKind.i64.wrap (y1-y0)*IntKind.i64.wrap (u1-u0))))])+unL1n (resMulZ [resInt3 [F.int .i64 (IntKind.i64.wrap (y1-y0))],l1nF (IntKind.i64.wrap (IntKind.i64.wrap (IntKind.i64.wrap (u0-x0)*IntKind.i64.wrap (v1-v0))-IntKind.i64.wrap (IntKind.i64.wrap (v0-y0)*IntKind.i64.wrap (u1-u0))))])))) (unL1n (l1nF (IntKind.i64.wrap (IntKind.i64.wrap (IntKind.i64.wrap (x1-x0)*IntKind.i64.wrap (v1-v0))-IntKind.i64.wrap (IntKind.i64.wrap (y1-y0)*IntKind.i64.wrap (u1-u0))))))) (mkWV (unL1n (l1nF (unL1n (resMulZ [resInt3 [F.int .i64 x0],l1nF (IntKind.i64.wrap (IntKind.i64.wrap (IntKind.i64.wrap (x1-x0)*IntKind.i64.wrap (v1-v0))-IntKind.i64.wrap (IntKind.i64.wrap (y1-y0)*IntKind.i64.wrap (u1-u0))))])+unL1n (resMulZ [resInt3 [F.int .i64 (IntKind.i64.wrap (x1-x0))],l1nF (IntKind.i64.wrap (IntKind.i64.wrap (IntKind.i64.wrap (u0-x0)*IntKind.i64.wrap (v1-v0))-IntKind.i64.wrap (IntKind.i64.wrap (v0-y0)*IntKind.i64.wrap (u1-u0))))])))) (unL1n (l1nF (unL1n (resMulZ [resInt3 [F.int .i64 y0],l1nF (IntKind.i64.wrap (IntKind.i64.wrap (IntKind.i64.wrap (x1-x0)*IntKind.i64.wrap (v1-v0))-IntKind.i64.wrap (IntKind.i64.wrap (y1-y0)*IntKind.i64.wrap (u1-u0))))])+unL1n (resMulZ [resInt3 [F.int .i64 (IntKind.i64.wrap (y1-y0))],l1nF (IntKind.i64.wrap (IntKind.i64.wrap (IntKind.i64.wrap (u0-x0)*IntKind.i64.wrap (v1-v0))-IntKind.i64.wrap (IntKind.i64.wrap (v0-y0)*IntKind.i64.wrap (u1-u0))))])))) (unL1n (l1nF (IntKind.i64.wrap (IntKind.i64.wrap (IntKind.i64.wrap (x1-x0)*IntKind.i64.wrap (v1-v0))-IntKind.i64.wrap (IntKind.i64.wrap (y1-y0)*IntKind.i64.wrap (u1-u0))))))),F.agg [F.bool false,F.sl 0 fun x ↦ F.bool false,F.bool false,F.sl 0 fun x ↦ F.bool false,F.bool false,F.sl 0 fun x ↦ F.bool false]]))
 none)
 none)
 none)
 none)
 none)
 none)
 none)
 none)
 none)
 none)
 none)
 none)
 none))
 (ret (F.tup [F.int .i64 0,F.agg [F.bool false,F.sl 0 fun x ↦ F.bool false,F.bool false,F.sl 0 fun x ↦ F.bool false,F.bool false,F.sl 0 fun x ↦ F.bool false],F.agg [F.bool false,F.sl 0 fun x ↦ F.bool false,F.bool false,F.sl 0 fun x ↦ F.bool false,F.bool false,F.sl 0 fun x ↦ F.bool false]]))))
 (bsel (decide (IntKind.i64.wrap (turnV x0 y0 x1 y1 u0 v0*turnV x0 y0 x1 y1 u1 v1) > 0)==false)
 (bsel (decide (IntKind.i64.wrap (turnV u0 v0 u1 v1 x0 y0*turnV u0 v0 u1 v1 x1 y1) > 0))
 (ret (F.tup [F.int .i64 0,F.agg [F.bool false,F.sl 0 fun x ↦ F.bool false,F.bool false,F.sl 0 fun x ↦ F.bool false,F.bool false,F.sl 0 fun x ↦ F.bool false],F.agg [F.bool false,F.sl 0 fun x ↦ F.bool false,F.bool false,F.sl 0 fun x ↦ F.bool false,F.bool false,F.sl 0 fun x ↦ F.bool false]]))
 (bsel (isI64 (IntKind.i64.wrap (IntKind.i64.wrap (IntKind.i64.wrap (x1-x0)*IntKind.i64.wrap (v1-v0))-IntKind.i64.wrap (IntKind.i64.wrap (y1-y0)*IntKind.i64.wrap (u1-u0)))))
 (bsel (isI64 (IntKind.i64.wrap (IntKind.i64.wrap (IntKind.i64.wrap (u0-x0)*IntKind.i64.wrap (v1-v0))-IntKind.i64.wrap (IntKind.i64.wrap (v0-y0)*IntKind.i64.wrap (u1-u0)))))
 (bsel (isI64 x0)
 (bsel (isL1n 900 (resInt3 [F.int .i64 x0])&&isL1n 900 (l1nF (IntKind.i64.wrap (IntKind.i64.wrap (IntKind.i64.wrap (x1-x0)*IntKind.i64.wrap (v1-v0))-IntKind.i64.wrap (IntKind.i64.wrap (y1-y0)*IntKind.i64.wrap (u1-u0))))))
 (bsel (isI64 (IntKind.i64.wrap (x1-x0)))
 (bsel (isL1n 900 (resInt3 [F.int .i64 (IntKind.i64.wrap (x1-x0))])&&isL1n 900 (l1nF (IntKind.i64.wrap (IntKind.i64.wrap (IntKind.i64.wrap (u0-x0)*IntKind.i64.wrap (v1-v0))-IntKind.i64.wrap (IntKind.i64.wrap (v0-y0)*IntKind.i64.wrap (u1-u0))))))
 (bsel (isL1n 800 (resMulZ [resInt3 [F.int .i64 x0],l1nF (IntKind.i64.wrap (IntKind.i64.wrap (IntKind.i64.wrap (x1-x0)*IntKind.i64.wrap (v1-v0))-IntKind.i64.wrap (IntKind.i64.wrap (y1-y0)*IntKind.i64.wrap (u1-u0))))])&&isL1n 800 (resMulZ [resInt3 [F.int .i64 (IntKind.i64.wrap (x1-x0))],l1nF (IntKind.i64.wrap (IntKind.i64.wrap (IntKind.i64.wrap (u0-x0)*IntKind.i64.wrap (v1-v0))-IntKind.i64.wrap (IntKind.i64.wrap (v0-y0)*IntKind.i64.wrap (u1-u0))))]))
 (bsel (isI64 y0)
 (bsel (isL1n 900 (resInt3 [F.int .i64 y0])&&isL1n 900 (l1nF (IntKind.i64.wrap (IntKind.i64.wrap (IntKind.i64.wrap (x1-x0)*IntKind.i64.wrap (v1-v0))-IntKind.i64.wrap (IntKind.i64.wrap (y1-y0)*IntKind.i64.wrap (u1-u0))))))
 (bsel (isI64 (IntKind.i64.wrap (y1-y0)))
 (bsel (isL1n 900 (resInt3 [F.int .i64 (IntKind.i64.wrap (y1-y0))])&&isL1n 900 (l1nF (IntKind.i64.wrap (IntKind.i64.wrap (IntKind.i64.wrap (u0-x0)*IntKind.i64.wrap (v1-v0))-IntKind.i64.wrap (IntKind.i64.wrap (v0-y0)*IntKind.i64.wrap (u1-u0))))))
 (bsel (isL1n 800 (resMulZ [resInt3 [F.int .i64 y0],l1nF (IntKind.i64.wrap (IntKind.i64.wrap (IntKind.i64.wrap (x1-x0)*IntKind.i64.wrap (v1-v0))-IntKind.i64.wrap (IntKind.i64.wrap (y1-y0)*IntKind.i64.wrap (u1-u0))))])&&isL1n 800 (resMulZ [resInt3 [F.int .i64 (IntKind.i64.wrap (y1-y0))],l1nF (IntKind.i64.wrap (IntKind.i64.wrap (IntKind.i64.wrap (u0-x0)*IntKind.i64.wrap (v1-v0))-IntKind.i64.wrap (IntKind.i64.wrap (v0-y0)*IntKind.i64.wrap (u1-u0))))]))
 (bsel (isL1n 600 (l1nF (unL1n (resMulZ [resInt3 [F.int .i64 x0],l1nF (IntKind.i64.wrap (IntKind.i64.wrap (IntKind.i64.wrap (x1-x0)*IntKind.i64.wrap (v1-v0))-IntKind.i64.wrap (IntKind.i64.wrap (y1-y0)*IntKind.i64.wrap (u1-u0))))])+unL1n (resMulZ [resInt3 [F.int .i64 (IntKind.i64.wrap (x1-x0))],l1nF (IntKind.i64.wrap (IntKind.i64.wrap (IntKind.i64.wrap (u0-x0)*IntKind.i64.wrap (v1-v0))-IntKind.i64.wrap (IntKind.i64.wrap (v0-y0)*IntKind.i64.wrap (u1-u0))))])))&&isL1n 600 (l1nF (unL1n (resMulZ [resInt3 [F.int .i64 y0],l1nF (IntKind.i64.wrap (IntKind.i64.wrap (IntKind.i64.wrap (x1-x0)*IntKind.i64.wrap (v1-v0))-IntKind.i64.wrap (IntKind.i64.wrap (y1-y0)*IntKind.i64.wrap (u1-u0))))])+unL1n (resMulZ [resInt3 [F.int .i64 (IntKind.i64.wrap (y1-y0))],l1nF (IntKind.i64.wrap (IntKind.i64.wrap (IntKind.i64.wrap (u0-x0)*IntKind.i64.wrap (v1-v0))-IntKind.i64.wrap (IntKind.i64.wrap (v0-y0)*IntKind.i64.wrap (u1-u0))))])))&&isL1n 600 (l1nF (IntKind.i64.wrap (IntKind.i64.wrap (IntKind.i64.wrap (x1-x0)*IntKind.i64.wrap (v1-v0))-IntKind.i64.wrap (IntKind.i64.wrap (y1-y0)*IntKind.i64.wrap (u1-u0)))))&&isNon0 (unL1n (l1nF (IntKind.i64.wrap (IntKind.i64.wrap (IntKind.i64.wrap (x1-x0)*IntKind.i64.wrap (v1-v0))-IntKind.i64.wrap (IntKind.i64.wrap (y1-y0)*IntKind.i64.wrap (u1-u0)))))))
 (ret (F.tup [F.int .i64 1,l3pF (mkXV (unL1n (l1nF (unL1n (resMulZ [resInt3 [F.int .i64 x0],l1nF (IntKind.i64.wrap (IntKind.i64.wrap (IntKind.i64.wrap (x1-x0)*IntKind.i64.wrap (v1-v0))-IntKind.i64.wrap (IntKind.i64.wrap (y1-y0)*IntKind.i64.wrap (u1-u0))))])+unL1n (resMulZ [resInt3 [F.int .i64 (IntKind.i64.wrap (x1-x0))],l1nF (IntKind.i64.wrap (IntKind.i64.wrap (IntKind.i64.wrap (u0-x0)*IntKind.i64.wrap (v1-v0))-IntKind.i64.wrap (IntKind.i64.wrap (v0-y0)*IntKind.i64.wrap (u1-u0))))])))) (unL1n (l1nF (unL1n (resMulZ [resInt3 [F.int .i64 y0],l1nF (IntKind.i64.wrap (IntKind.i64.wrap (IntKind.i64.wrap (x1-x0)*IntKind.i64.wrap (v1-v0))-IntKind.i64.wrap (IntKind.i64.wrap (y1-y0)*IntKind.i64.wrap (u1-u0))))])+unL1n (resMulZ [resInt3 [F.int .i64 (IntKind.i64.wrap (y1-y0))],l1nF (IntKind.i64.wrap (IntKind.i64.wrap (IntKind.i64.wrap (u0-x0)*IntKind.i64.wrap (v1-v0))-IntKind.i64.wrap (IntKind.i64.wrap (v0-y0)*IntKind.i64.wrap (u1-u0))))])))) (unL1n (l1nF (IntKind.i64.wrap (IntKind.i64.wrap (IntKind.i64.wrap (x1-x0)*IntKind.i64.wrap (v1-v0))-IntKind.i64.wrap (IntKind.i64.wrap (y1-y0)*IntKind.i64.wrap (u1-u0))))))) (mkYV (unL1n (l1nF (unL1n (resMulZ [resInt3 [F.int .i64 x0],l1nF (IntKind.i64.wrap (IntKind.i64.wrap (IntKind.i64.wrap (x1-x0)*IntKind.i64.wrap (v1-v0))-IntKind.i64.wrap (IntKind.i64.wrap (y1-y0)*IntKind.i64.wrap (u1-u0))))])+unL1n (resMulZ [resInt3 [F.int .i64 (IntKind.i64.wrap (x1-x0))],l1nF (IntKind.i64.wrap (IntKind.i64.wrap (IntKind.i64.wrap (u0-x0)*IntKind.i64.wrap (v1-v0))-IntKind.i64.wrap (IntKind.i64.wrap (v0-y0)*IntKind.i64.wrap (u1-u0))))])))) (unL1n (l1nF (unL1n (resMulZ [resInt3 [F.int .i64 y0],l1nF (IntKind.i64.wrap (IntKind.i64.wrap (IntKind.i64.wrap (x1-x0)*IntKind.i64.wrap (v1-v0))-IntKind.i64.wrap (IntKind.i64.wrap (y1-y0)*IntKind.i64.wrap (u1-u0))))])+unL1n (resMulZ [resInt3 [F.int .i64 (IntKind.i64.wrap (y1-y0))],l1nF (IntKind.i64.wrap (IntKind.i64.wrap (IntKind.i64.wrap (u0-x0)*IntKind.i64.wrap (v1-v0))-IntKind.i64.wrap (IntKind.i64.wrap (v0-y0)*IntKind.i64.wrap (u1-u0))))])))) (unL1n (l1nF (IntKind.i64.wrap (IntKind.i64.wrap (IntKind.i64.wrap (x1-x0)*IntKind.i64.wrap (v1-v0))-IntKind.i64.wrap (IntKind.i64.wrap (y1-y0)*IntKind.i64.wrap (u1-u0))))))) (mkWV (unL1n (l1nF (unL1n (resMulZ [resInt3 [F.int .i64 x0],l1nF (IntKind.i64.wrap (IntKind.i64.wrap (IntKind.i64.wrap (x1-x0)*IntKind.i64.wrap (v1-v0))-IntKind.i64.wrap (IntKind.i64.wrap (y1-y0)*IntKind.i64.wrap (u1-u0))))])+unL1n (resMulZ [resInt3 [F.int .i64 (IntKind.i64.wrap (x1-x0))],l1nF (IntKind.i64.wrap (IntKind.i64.wrap (IntKind.i64.wrap (u0-x0)*IntKind.i64.wrap (v1-v0))-IntKind.i64.wrap (IntKind.i64.wrap (v0-y0)*IntKind.i64.wrap (u1-u0))))])))) (unL1n (l1nF (unL1n (resMulZ [resInt3 [F.int .i64 y0],l1nF (IntKind.i64.wrap (IntKind.i64.wrap (IntKind.i64.wrap (x1-x0)*IntKind.i64.wrap (v1-v0))-IntKind.i64.wrap (IntKind.i64.wrap (y1-y0)*IntKind.i64.wrap (u1-u0))))])+unL1n (resMulZ [resInt3 [F.int .i64 (IntKind.i64.wrap (y1-y0))],l1nF (IntKind.i64.wrap (IntKind.i64.wrap (IntKind.i64.wrap (u0-x0)*IntKind.i64.wrap (v1-v0))-IntKind.i64.wrap (IntKind.i64.wrap (v0-y0)*IntKind.i64.wrap (u1-u0))))])))) (unL1n (l1nF (IntKind.i64.wrap (IntKind.i64.wrap (IntKind.i64.wrap (x1-x0)*IntKind.i64.wrap (v1-v0))-IntKind.i64.wrap (IntKind.i64.wrap (y1-y0)*IntKind.i64.wrap (u1-u0))))))),F.agg [F.bool false,F.sl 0 fun x ↦ F.bool false,F.bool false,F.sl 0 fun x ↦ F.bool false,F.bool false,F.sl 0 fun x ↦ F.bool false]]))
 none)
 none)
 none)
 none)
 none)
 none)
 none)
 none)
 none)
 none)
 none)
 none)
 none))
 (ret (F.tup [F.int .i64 0,F.agg [F.bool false,F.sl 0 fun x ↦ F.bool false,F.bool false,F.sl 0 fun x ↦ F.bool false,F.bool false,F.sl 0 fun x ↦ F.bool false],F.agg [F.bool false,F.sl 0 fun x ↦ F.bool false,F.bool false,F.sl 0 fun x ↦ F.bool false,F.bool false,F.sl 0 fun x ↦ F.bool false]]))))
def G36 (x0:Int) (y0:Int) (x1:Int) (y1:Int) (u0:Int) (v0:Int) (u1:Int) (v1:Int):Option (F):=T36 some x0 y0 x1 y1 u0 v0 u1 v1
theorem t36 (x0:Int) (y0:Int) (x1:Int) (y1:Int) (u0:Int) (v0:Int) (u1:Int) (v1:Int) (r:F) (h:G36 x0 y0 x1 y1 u0 v0 u1 v1=some r):Ends Tryz.prog Tryz.f36.results.toList [.code (bodyOf Tryz.f36)] (start Tryz.f36.ntmps ([F.agg [F.int .i64 x0,F.int .i64 y0,F.int .i64 x1,F.int .i64 y1],F.agg [F.int .i64 u0,F.int .i64 v0,F.int .i64 u1,F.int .i64 v1]].map .f)) (r):=by
 refine Ends.of_run tyOK envH4a_ok (T:=[]) (n:=200) ?_
 refine gE (Y:=T36 (fun r=>some (.ret (r))) x0 y0 x1 y1 u0 v0 u1 v1) (by kernel_rfl) ?_
 exact (gS h (fun _ h=>(gS h (fun _ h=>(gS h (fun _ h=>(gS h (fun _ h=>(gS h (fun _ h=>gR (by cases h;rfl)) (fun _ h=>(gS h (fun _ h=>(gS h (fun _ h=>gR (by cases h;rfl)) gN)) (fun _ h=>(gS h (fun _ h=>(gS h (fun _ h=>gR (by cases h;rfl)) gN)) gN)))))) (fun _ h=>(gS h (fun _ h=>gR (by cases h;rfl)) (fun _ h=>(gS h (fun _ h=>(gS h (fun _ h=>gR (by cases h;rfl)) gN)) (fun _ h=>(gS h (fun _ h=>(gS h (fun _ h=>gR (by cases h;rfl)) gN)) gN)))))))) (fun _ h=>(gS h (fun _ h=>(gS h (fun _ h=>gR (by cases h;rfl)) (fun _ h=>(gS h (fun _ h=>(gS h (fun _ h=>gR (by cases h;rfl)) gN)) (fun _ h=>(gS h (fun _ h=>(gS h (fun _ h=>gR (by cases h;rfl)) gN)) gN)))))) (fun _ h=>(gS h (fun _ h=>gR (by cases h;rfl)) (fun _ h=>(gS h (fun _ h=>(gS h (fun _ h=>gR (by cases h;rfl)) gN)) (fun _ h=>(gS h (fun _ h=>(gS h (fun _ h=>gR (by cases h;rfl)) gN)) gN)))))))))) (fun _ h=>(gS h (fun _ h=>(gS h (fun _ h=>gR (by cases h;rfl)) (fun _ h=>(gS h (fun _ h=>(gS h (fun _ h=>(gS h (fun _ h=>(gS h (fun _ h=>(gS h (fun _ h=>(gS h (fun _ h=>(gS h (fun _ h=>(gS h (fun _ h=>(gS h (fun _ h=>(gS h (fun _ h=>(gS h (fun _ h=>(gS h (fun _ h=>(gS h (fun _ h=>gR (by cases h;rfl)) gN)) gN)) gN)) gN)) gN)) gN)) gN)) gN)) gN)) gN)) gN)) gN)) gN)))) (fun _ h=>gR (by cases h;rfl)))))) (fun _ h=>(gS h (fun _ h=>(gS h (fun _ h=>gR (by cases h;rfl)) (fun _ h=>(gS h (fun _ h=>(gS h (fun _ h=>(gS h (fun _ h=>(gS h (fun _ h=>(gS h (fun _ h=>(gS h (fun _ h=>(gS h (fun _ h=>(gS h (fun _ h=>(gS h (fun _ h=>(gS h (fun _ h=>(gS h (fun _ h=>(gS h (fun _ h=>(gS h (fun _ h=>gR (by cases h;rfl)) gN)) gN)) gN)) gN)) gN)) gN)) gN)) gN)) gN)) gN)) gN)) gN)) gN)))) (fun _ h=>gR (by cases h;rfl)))))
theorem signV_sign (n:Int):signV n=n.sign:=by
 unfold signV
 rcases Int.lt_trichotomy n 0 with h | h | h
 ·rw [decide_eq_true h,Int.sign_eq_neg_one_of_neg h];rfl
 ·subst h;rfl
 ·rw [decide_eq_false (show ¬ n<0 by omega),decide_eq_true (show n > 0 by omega),Int.sign_eq_one_of_pos h];rfl
theorem turnV_eq {x0 y0 x1 y1 u v:Int} (h0:spotIn x0 y0) (h1:spotIn x1 y1) (h2:spotIn u v):turnV x0 y0 x1 y1 u v=(crossZ x0 y0 x1 y1 u v).sign:=by
 unfold turnV
 rw [(crossW_eq h0 h1 h2).1,signV_sign]
theorem sign3 (a:Int):(a<0∧a.sign = -1) ∨ (a=0∧a.sign=0) ∨ (0<a∧a.sign=1):=by
 rcases Int.lt_trichotomy a 0 with h | h | h
 ·exact .inl ⟨h,Int.sign_eq_neg_one_of_neg h⟩
 ·subst h;exact .inr (.inl ⟨rfl,rfl⟩)
 ·exact .inr (.inr ⟨h,Int.sign_eq_one_of_pos h⟩)
theorem apart_yes {a b:Int} (h:apart a b):decide (IntKind.i64.wrap (a.sign*b.sign) > 0)=false:=by
 unfold apart at h
 rcases sign3 a with ⟨k,e⟩ | ⟨k,e⟩ | ⟨k,e⟩ <;> rcases sign3 b with ⟨m,f⟩ | ⟨m,f⟩ | ⟨m,f⟩ <;> rw [e,f] <;> first | rfl | (exfalso;omega)
theorem apart_no {a b:Int} (h:¬ apart a b):decide (IntKind.i64.wrap (a.sign*b.sign) > 0)=true:=by
 unfold apart at h
 rcases sign3 a with ⟨k,e⟩ | ⟨k,e⟩ | ⟨k,e⟩ <;> rcases sign3 b with ⟨m,f⟩ | ⟨m,f⟩ | ⟨m,f⟩ <;> rw [e,f] <;> first | rfl | (exfalso;omega)
theorem lessV_lt {a b c d:Int}:lessV a b c d=true ↔ lexLt a b c d:=by
 unfold lessV lexLt
 rw [Bool.or_eq_true,Bool.and_eq_true,decide_eq_true_eq,decide_eq_true_eq,beq_iff_eq]
theorem lessV_no {a b c d:Int}:lessV a b c d=false ↔ lexLe c d a b:=by
 rw [← Bool.not_eq_true,lessV_lt]
 unfold lexLt lexLe
 omega
def spans (x0 y0 x1 y1 u0 v0 u1 v1:Int):Prop:=crossZ x0 y0 x1 y1 u0 v0=0∧crossZ x0 y0 x1 y1 u1 v1=0∧lexLt u0 v0 x1 y1∧lexLt x0 y0 u1 v1
def kindOk (k:Int) (M S:Prop):Prop:=(k=0 ∨ k=1 ∨ k=2)∧(k ≠ 0 ↔ M)∧(k=2 ↔ S)
theorem kindOk_eq {k m:Int} {M S:Prop} (h:kindOk k M S) (g:kindOk m M S):k=m:=by
 obtain ⟨h1,h2,h3⟩:=h
 obtain ⟨g1,g2,g3⟩:=g
 by_cases hM:M <;> by_cases hS:S <;> simp only [hM,hS,iff_true,iff_false] at h2 h3 g2 g3 <;> omega
theorem kindOk_of {k:Int} {M S:Prop} (h:∀ j,j=k→((j=0 ∨ j=1 ∨ j=2)∧(j ≠ 0 ↔ M)∧(j=2 ↔ S))):kindOk k M S:=h k rfl
def is3 (p:F):Prop:=∃ X Y W,FLe p (l3pF X Y W)
theorem is3_pt (X Y W:Int):is3 (l3pF X Y W):=⟨X,Y,W,.refl _⟩
theorem is3_zero:is3 (F.agg [F.bool false,F.sl 0 fun x ↦ F.bool false,F.bool false,F.sl 0 fun x ↦ F.bool false,F.bool false,F.sl 0 fun x ↦ F.bool false]):=⟨_,_,_,(l3p_eqv (n:=100) (by rfl)).1⟩
def goodM (X:Option F) (M S:Prop):Prop:=∃ k p q,X=some (F.tup [F.int .i64 k,p,q])∧kindOk k M S∧is3 p∧is3 q
theorem ends3 {c e:Bool} {X Y:Option F} {M S:Prop} (h1:c=true→goodM X M S) (h2:c=false→goodM Y M S):goodM (bsel c X Y) M S:=by
 cases c
 ·exact h2 rfl
 ·exact h1 rfl
theorem good_pt {k:Int} {X Y W:Int} {M S:Prop} (h:kindOk k M S):goodM (some (F.tup [F.int .i64 k,l3pF X Y W,F.agg [F.bool false,F.sl 0 fun x ↦ F.bool false,F.bool false,F.sl 0 fun x ↦ F.bool false,F.bool false,F.sl 0 fun x ↦ F.bool false]])) M S:=⟨_,_,_,rfl,h,is3_pt _ _ _,is3_zero⟩
theorem good_two {k:Int} {X Y W X' Y' W':Int} {M S:Prop} (h:kindOk k M S):goodM (some (F.tup [F.int .i64 k,l3pF X Y W,l3pF X' Y' W'])) M S:=⟨_,_,_,rfl,h,is3_pt _ _ _,is3_pt _ _ _⟩
theorem good_no {k:Int} {M S:Prop} (h:kindOk k M S):goodM (some (F.tup [F.int .i64 k,F.agg [F.bool false,F.sl 0 fun x ↦ F.bool false,F.bool false,F.sl 0 fun x ↦ F.bool false,F.bool false,F.sl 0 fun x ↦ F.bool false],F.agg [F.bool false,F.sl 0 fun x ↦ F.bool false,F.bool false,F.sl 0 fun x ↦ F.bool false,F.bool false,F.sl 0 fun x ↦ F.bool false]])) M S:=⟨_,_,_,rfl,h,is3_zero,is3_zero⟩
theorem l4meet_col {x0 y0 x1 y1 u0 v0 u1 v1:Int} (h0:spotIn x0 y0) (h1:spotIn x1 y1) (k0:spotIn u0 v0) (k1:spotIn u1 v1) (hs:lexLt x0 y0 x1 y1) (ht:lexLt u0 v0 u1 v1) (ha:crossZ x0 y0 x1 y1 u0 v0=0) (hb:crossZ x0 y0 x1 y1 u1 v1=0) :
  goodM (G36 x0 y0 x1 y1 u0 v0 u1 v1) (meets x0 y0 x1 y1 u0 v0 u1 v1) (spans x0 y0 x1 y1 u0 v0 u1 v1):=by
 have i:∀ {x y:Int},spotIn x y→isI64 x=true∧isI64 y=true:=fun h=>by
  unfold spotIn at h
  exact ⟨isI64_iff.2 (by omega),isI64_iff.2 (by omega)⟩
 have hm:meets x0 y0 x1 y1 u0 v0 u1 v1 ↔ (lexLe u0 v0 x1 y1∧lexLe x0 y0 u1 v1):=by
  unfold meets
  rw [ha,hb]
  constructor
  ·rintro (⟨_,_,h⟩ | ⟨h,_⟩)
   ·exact h
   ·exact absurd ⟨rfl,rfl⟩ h
  ·exact fun h=>.inl ⟨rfl,rfl,h⟩
 unfold G36 T36
 rw [turnV_eq h0 h1 k0,turnV_eq h0 h1 k1,ha,hb]
 simp only [Int.sign_zero,beq_self_eq_true,bsel_true,i h0,i h1,i k0,i k1,Bool.and_self]
 unfold lexLt at hs ht
 have hsp:spans x0 y0 x1 y1 u0 v0 u1 v1 ↔ (lexLt u0 v0 x1 y1∧lexLt x0 y0 u1 v1):=by
  unfold spans
  rw [ha,hb]
  exact ⟨fun h=>h.2.2,fun h=>⟨rfl,rfl,h⟩⟩
 repeat' first
  | (refine ends3 (e:=true) (fun _=>?_) (fun _=>?_))
  | (refine good_no ?_;refine kindOk_of fun j hj=>?_;rw [hm,hsp];clear hm hsp ha hb i h0 h1 k0 k1;simp only [lessV_lt,lessV_no,Bool.and_true,Bool.and_eq_true,Bool.and_eq_false_iff,beq_iff_eq,beq_eq_false_iff_ne,ne_eq] at *;unfold lexLe at *;unfold lexLt at *;omega)
  | (refine good_pt ?_;refine kindOk_of fun j hj=>?_;rw [hm,hsp];clear hm hsp ha hb i h0 h1 k0 k1;simp only [lessV_lt,lessV_no,Bool.and_true,Bool.and_eq_true,Bool.and_eq_false_iff,beq_iff_eq,beq_eq_false_iff_ne,ne_eq] at *;unfold lexLe at *;unfold lexLt at *;omega)
  | (refine good_two ?_;refine kindOk_of fun j hj=>?_;rw [hm,hsp];clear hm hsp ha hb i h0 h1 k0 k1;simp only [lessV_lt,lessV_no,Bool.and_true,Bool.and_eq_true,Bool.and_eq_false_iff,beq_iff_eq,beq_eq_false_iff_ne,ne_eq] at *;unfold lexLe at *;unfold lexLt at *;omega)
theorem sign_eq0 (a:Int):(a.sign==0)=(a==0):=by
 rcases sign3 a with ⟨h,e⟩ | ⟨h,e⟩ | ⟨h,e⟩
 ·rw [e,show (a==0)=false by simp only [beq_eq_false_iff_ne,ne_eq];omega];rfl
 ·rw [h];rfl
 ·rw [e,show (a==0)=false by simp only [beq_eq_false_iff_ne,ne_eq];omega];rfl
theorem l4meet_off {x0 y0 x1 y1 u0 v0 u1 v1:Int} (h0:spotIn x0 y0) (h1:spotIn x1 y1) (k0:spotIn u0 v0) (k1:spotIn u1 v1) (hn:¬ (crossZ x0 y0 x1 y1 u0 v0=0∧crossZ x0 y0 x1 y1 u1 v1=0))
  (ho:¬ (apart (crossZ x0 y0 x1 y1 u0 v0) (crossZ x0 y0 x1 y1 u1 v1)∧apart (crossZ u0 v0 u1 v1 x0 y0) (crossZ u0 v0 u1 v1 x1 y1))) :
  goodM (G36 x0 y0 x1 y1 u0 v0 u1 v1) (meets x0 y0 x1 y1 u0 v0 u1 v1) (spans x0 y0 x1 y1 u0 v0 u1 v1):=by
 have hm:¬ meets x0 y0 x1 y1 u0 v0 u1 v1:=by
  unfold meets
  rintro (⟨a,b,_⟩ | ⟨_,h⟩)
  ·exact hn ⟨a,b⟩
  ·exact ho h
 have hsp:¬ spans x0 y0 x1 y1 u0 v0 u1 v1:=fun h=>hn ⟨h.1,h.2.1⟩
 have z:kindOk 0 (meets x0 y0 x1 y1 u0 v0 u1 v1) (spans x0 y0 x1 y1 u0 v0 u1 v1):=⟨.inl rfl,by simp [hm],by simp [hsp]⟩
 have tt:(true==true)=true:=rfl
 have ft:(false==true)=false:=rfl
 have tf:(true==false)=false:=rfl
 have ff:(false==false)=true:=rfl
 unfold G36 T36
 rw [turnV_eq h0 h1 k0,turnV_eq h0 h1 k1,turnV_eq k0 k1 h0,turnV_eq k0 k1 h1]
 simp only [sign_eq0]
 generalize crossZ x0 y0 x1 y1 u0 v0=A at *
 generalize crossZ x0 y0 x1 y1 u1 v1=B at *
 generalize crossZ u0 v0 u1 v1 x0 y0=C at *
 generalize crossZ u0 v0 u1 v1 x1 y1=D at *
 by_cases ap:apart A B
 ·have cd:¬ apart C D:=fun h=>ho ⟨ap,h⟩
  rw [apart_yes ap,apart_no cd]
  by_cases hA:A=0
  ·have hB:¬ B=0:=fun h=>hn ⟨hA,h⟩
   rw [show (A==0)=true from beq_iff_eq.2 hA,show (B==0)=false from beq_eq_false_iff_ne.2 hB]
   simp only [tt,ff,bsel_true,bsel_false]
   exact good_no z
  ·rw [show (A==0)=false from beq_eq_false_iff_ne.2 hA]
   simp only [ft,ff,bsel_true,bsel_false]
   exact good_no z
 ·rw [apart_no ap]
  by_cases hA:A=0
  ·exact absurd (show apart A B by unfold apart;omega) ap
  ·rw [show (A==0)=false from beq_eq_false_iff_ne.2 hA]
   simp only [ft,tf,bsel_true,bsel_false]
   exact good_no z
theorem mulB {a b:Int} (ha:-2000000≤a∧a≤2000000) (hb:-2000000≤b∧b≤2000000):-8000000000000≤a*b∧a*b≤8000000000000:=by
 have:=(dotW (a:=a) (b:=b) (c:=0) (d:=0) (by omega) (by omega) (by omega) (by omega)).2
 simp only [Int.mul_zero,Int.add_zero] at this
 exact this
theorem diffW {a b c d:Int} (ha:-2000000≤a∧a≤2000000) (hb:-2000000≤b∧b≤2000000) (hc:-2000000≤c∧c≤2000000) (hd:-2000000≤d∧d≤2000000) :
  IntKind.i64.wrap (IntKind.i64.wrap (IntKind.i64.wrap a*IntKind.i64.wrap b)-IntKind.i64.wrap (IntKind.i64.wrap c*IntKind.i64.wrap d))=a*b-c*d∧isI64 (a*b-c*d)=true:=by
 have m1:=mulB ha hb
 have m2:=mulB hc hd
 rw [wrapI (x:=a) (by omega) (by omega),wrapI (x:=b) (by omega) (by omega),wrapI (x:=c) (by omega) (by omega),wrapI (x:=d) (by omega) (by omega),wrapI (x:=a*b) (by omega) (by omega),wrapI (x:=c*d) (by omega) (by omega),wrapI (by omega) (by omega)]
 exact ⟨rfl,isI64_iff.2 (by omega)⟩
theorem l4meet_in {x0 y0 x1 y1 u0 v0 u1 v1:Int} (h0:spotIn x0 y0) (h1:spotIn x1 y1) (k0:spotIn u0 v0) (k1:spotIn u1 v1) (hn:¬ (crossZ x0 y0 x1 y1 u0 v0=0∧crossZ x0 y0 x1 y1 u1 v1=0))
  (ho:apart (crossZ x0 y0 x1 y1 u0 v0) (crossZ x0 y0 x1 y1 u1 v1)∧apart (crossZ u0 v0 u1 v1 x0 y0) (crossZ u0 v0 u1 v1 x1 y1)) :
  goodM (G36 x0 y0 x1 y1 u0 v0 u1 v1) (meets x0 y0 x1 y1 u0 v0 u1 v1) (spans x0 y0 x1 y1 u0 v0 u1 v1):=by
 have hm:meets x0 y0 x1 y1 u0 v0 u1 v1:=.inr ⟨hn,ho⟩
 have hsp:¬ spans x0 y0 x1 y1 u0 v0 u1 v1:=fun h=>hn ⟨h.1,h.2.1⟩
 have z:kindOk 1 (meets x0 y0 x1 y1 u0 v0 u1 v1) (spans x0 y0 x1 y1 u0 v0 u1 v1):=⟨.inr (.inl rfl),by simp [hm],by simp [hsp]⟩
 have tt:(true==true)=true:=rfl
 have ft:(false==true)=false:=rfl
 have ff:(false==false)=true:=rfl
 have hden:crossZ x0 y0 x1 y1 u1 v1-crossZ x0 y0 x1 y1 u0 v0=(x1-x0)*(v1-v0)-(y1-y0)*(u1-u0):=by unfold crossZ;grind
 have hne:(x1-x0)*(v1-v0)-(y1-y0)*(u1-u0) ≠ 0:=by
  rw [← hden]
  have:=ho.1
  unfold apart at this
  omega
 have s0:=h0
 have s1:=h1
 have t0:=k0
 have t1:=k1
 unfold spotIn at s0 s1 t0 t1
 obtain ⟨d1,d2⟩:=diffW (a:=x1-x0) (b:=v1-v0) (c:=y1-y0) (d:=u1-u0) (by omega) (by omega) (by omega) (by omega)
 obtain ⟨e1,e2⟩:=diffW (a:=u0-x0) (b:=v1-v0) (c:=v0-y0) (d:=u1-u0) (by omega) (by omega) (by omega) (by omega)
 have b2:∀ {w:Int},isI64 w=true→w.natAbs<4294967296 ^ 2:=fun h=>by have:=isI64_iff.1 h;omega
 have i9:∀ {w:Int},isI64 w=true→isL1n 900 (l1nF w)=true:=fun h=>isL1n_l1nF (boundC_up (b2 h) (by omega))
 have p8:∀ {w r:Int},isI64 w=true→isI64 r=true→isL1n 800 (l1nF (w*r))=true:=fun h g=>isL1n_l1nF (boundC_up (boundC_mul (b2 h) (b2 g)) (by omega))
 have p6:∀ {w r m o:Int},isI64 w=true→isI64 r=true→isI64 m=true→isI64 o=true→isL1n 600 (l1nF (w*r+m*o))=true:=fun h g i j=>isL1n_l1nF (boundC_up (boundC_add (boundC_mul (b2 h) (b2 g)) (boundC_mul (b2 i) (b2 j))) (by omega))
 have ix:isI64 x0=true:=isI64_iff.2 (by omega)
 have iy:isI64 y0=true:=isI64_iff.2 (by omega)
 have wx:IntKind.i64.wrap (x1-x0)=x1-x0:=wrapI (by omega) (by omega)
 have wy:IntKind.i64.wrap (y1-y0)=y1-y0:=wrapI (by omega) (by omega)
 have jx:isI64 (x1-x0)=true:=isI64_iff.2 (by omega)
 have jy:isI64 (y1-y0)=true:=isI64_iff.2 (by omega)
 have r3:∀ n:Int,resInt3 [F.int .i64 n]=l1nF n:=fun _=>rfl
 unfold G36 T36
 rw [turnV_eq h0 h1 k0,turnV_eq h0 h1 k1,turnV_eq k0 k1 h0,turnV_eq k0 k1 h1,apart_yes ho.1,apart_yes ho.2]
 simp only [sign_eq0,d1,e1]
 simp only [wx,wy,r3,resMulZ_eq,unL1n_l1nF]
 generalize (x1-x0)*(v1-v0)-(y1-y0)*(u1-u0)=dn at *
 generalize (u0-x0)*(v1-v0)-(v0-y0)*(u1-u0)=nm at *
 have nz:isNon0 dn=true:=by unfold isNon0;rw [show (dn==0)=false from beq_eq_false_iff_ne.2 hne];rfl
 simp only [ix,iy,jx,jy,d2,e2,i9 ix,i9 iy,i9 jx,i9 jy,i9 d2,i9 e2,p8 ix d2,p8 iy d2,p8 jx e2,p8 jy e2,p6 ix d2 jx e2,p6 iy d2 jy e2,nz,isL1n_l1nF (boundC_up (b2 d2) (show 2≤600 by omega)),Bool.and_self,bsel_true,ff,bsel_false]
 by_cases hA:crossZ x0 y0 x1 y1 u0 v0=0
 ·have hB:¬ crossZ x0 y0 x1 y1 u1 v1=0:=fun h=>hn ⟨hA,h⟩
  rw [show (crossZ x0 y0 x1 y1 u0 v0==0)=true from beq_iff_eq.2 hA,show (crossZ x0 y0 x1 y1 u1 v1==0)=false from beq_eq_false_iff_ne.2 hB]
  simp only [tt,ff,bsel_true,bsel_false]
  exact good_pt z
 ·rw [show (crossZ x0 y0 x1 y1 u0 v0==0)=false from beq_eq_false_iff_ne.2 hA]
  simp only [ft,ff,bsel_true,bsel_false]
  exact good_pt z
theorem l4meet_law {x0 y0 x1 y1 u0 v0 u1 v1:Int} (h0:spotIn x0 y0) (h1:spotIn x1 y1) (k0:spotIn u0 v0) (k1:spotIn u1 v1) (hs:lexLt x0 y0 x1 y1) (ht:lexLt u0 v0 u1 v1) :
  goodM (G36 x0 y0 x1 y1 u0 v0 u1 v1) (meets x0 y0 x1 y1 u0 v0 u1 v1) (spans x0 y0 x1 y1 u0 v0 u1 v1):=by
 by_cases hn:crossZ x0 y0 x1 y1 u0 v0=0∧crossZ x0 y0 x1 y1 u1 v1=0
 ·exact l4meet_col h0 h1 k0 k1 hs ht hn.1 hn.2
 ·by_cases ho:apart (crossZ x0 y0 x1 y1 u0 v0) (crossZ x0 y0 x1 y1 u1 v1)∧apart (crossZ u0 v0 u1 v1 x0 y0) (crossZ u0 v0 u1 v1 x1 y1)
  ·exact l4meet_in h0 h1 k0 k1 hn ho
  ·exact l4meet_off h0 h1 k0 k1 hn ho
theorem sgOk_parts {x0 y0 x1 y1:Int} (h:segOkV x0 y0 x1 y1=true):spotIn x0 y0∧spotIn x1 y1∧lexLt x0 y0 x1 y1:=by
 unfold segOkV at h
 simp only [Bool.and_eq_true] at h
 exact ⟨spotOk_iff.1 h.1,spotOk_iff.1 h.2.1,lessV_lt.1 h.2.2⟩
open Classical in
def of3 (p:F):Int × Int × Int:=if h:is3 p then ⟨h.choose,h.choose_spec.choose,h.choose_spec.choose_spec.choose⟩ else (0,0,0)
theorem of3_le {p:F} (h:is3 p):FLe p (l3pF (of3 p).1 (of3 p).2.1 (of3 p).2.2):=by
 unfold of3
 rw [dif_pos h]
 exact h.choose_spec.choose_spec.choose_spec
def kind3V (x0 y0 x1 y1 u0 v0 u1 v1:Int):Int:=match G36 x0 y0 x1 y1 u0 v0 u1 v1 with | some (.tup [.int _ k,_,_])=>k | _=>0
def pick3V (i:Nat) (x0 y0 x1 y1 u0 v0 u1 v1:Int):Int:=match G36 x0 y0 x1 y1 u0 v0 u1 v1 with | some (.tup [_,p,q])=>([(of3 p).1,(of3 p).2.1,(of3 p).2.2,(of3 q).1,(of3 q).2.1,(of3 q).2.2]:List Int).getD i 0 | _=>0
theorem kind3_ok {x0 y0 x1 y1 u0 v0 u1 v1:Int} (hs:segOkV x0 y0 x1 y1=true) (ht:segOkV u0 v0 u1 v1=true):kindOk (kind3V x0 y0 x1 y1 u0 v0 u1 v1) (meets x0 y0 x1 y1 u0 v0 u1 v1) (spans x0 y0 x1 y1 u0 v0 u1 v1):=by
 obtain ⟨h0,h1,h2⟩:=sgOk_parts hs
 obtain ⟨k0,k1,k2⟩:=sgOk_parts ht
 obtain ⟨k,p,q,e,h,_⟩:=l4meet_law h0 h1 k0 k1 h2 k2
 unfold kind3V
 rw [e]
 exact h
def preMeet3:List F→Bool | [.agg [.int .i64 a,.int .i64 b,.int .i64 c,.int .i64 d],.agg [.int .i64 e,.int .i64 f,.int .i64 g,.int .i64 h]]=>segOkV a b c d&&segOkV e f g h | _=>false
def resMeet3:List F→F | [.agg [.int .i64 a,.int .i64 b,.int .i64 c,.int .i64 d],.agg [.int .i64 e,.int .i64 f,.int .i64 g,.int .i64 h]]=>.tup [.int .i64 (kind3V a b c d e f g h),l3pF (pick3V 0 a b c d e f g h) (pick3V 1 a b c d e f g h) (pick3V 2 a b c d e f g h),l3pF (pick3V 3 a b c d e f g h) (pick3V 4 a b c d e f g h) (pick3V 5 a b c d e f g h)] | _=>.dflt
theorem okMeet3:PureOK Tryz.prog 36 preMeet3 resMeet3 :=
 fn_pure_at (c:=bodyOf Tryz.f36) Tryz.func36 (by kernel_rfl) (by kernel_rfl) fun xs hp=>match xs,hp with
 | [.agg [.int .i64 a,.int .i64 b,.int .i64 c,.int .i64 d],.agg [.int .i64 e,.int .i64 f,.int .i64 g,.int .i64 h]],hp=>by
  simp only [preMeet3,Bool.and_eq_true] at hp
  obtain ⟨h0,h1,h2⟩:=sgOk_parts hp.1
  obtain ⟨k0,k1,k2⟩:=sgOk_parts hp.2
  obtain ⟨k,p,q,ek,_,hp3,hq3⟩:=l4meet_law h0 h1 k0 k1 h2 k2
  refine ⟨[_,_],_,⟨.refl _,.refl _,trivial⟩,t36 a b c d e f g h _ ek,?_⟩
  show FLe _ (.tup [.int .i64 (kind3V a b c d e f g h),l3pF (pick3V 0 a b c d e f g h) (pick3V 1 a b c d e f g h) (pick3V 2 a b c d e f g h),l3pF (pick3V 3 a b c d e f g h) (pick3V 4 a b c d e f g h) (pick3V 5 a b c d e f g h)])
  have e1:kind3V a b c d e f g h=k:=by unfold kind3V;rw [ek]
  have e2:∀ i,pick3V i a b c d e f g h=([(of3 p).1,(of3 p).2.1,(of3 p).2.2,(of3 q).1,(of3 q).2.1,(of3 q).2.2]:List Int).getD i 0:=fun i=>by unfold pick3V;rw [ek]
  rw [e1,e2,e2,e2,e2,e2,e2]
  exact FLe.tup ⟨.refl _,of3_le hp3,of3_le hq3,trivial⟩
def envH4b:Env:=envH4a.add 36 (.pure preMeet3 resMeet3)
theorem envH4b_ok:EnvOK Tryz.prog envH4b:=(Env.add_ok envH4a_ok okMeet3.sp)
end
noncomputable section
structure Pt where
 x:Int
 y:Int
def Pt.zero:Pt:=⟨0,0⟩
def ptF (s:Pt):F:=.agg [.int .i64 s.x,.int .i64 s.y]
def isPt:F→Bool
 | .agg [.int .i64 _,.int .i64 _]=>true
 | _=>false
def unPt:F→Pt
 | .agg [.int .i64 a,.int .i64 b]=>⟨a,b⟩
 | _=>.zero
def ptsF (l:List Pt):F:=slF ptF .zero l
def isPts (x:F):Bool:=isSl isPt x
def unPts (x:F):List Pt:=unSl unPt x
theorem unPts_ptsF (l:List Pt):unPts (ptsF l)=l:=unSl_slF (fun _=>rfl) l
theorem isPts_ptsF (l:List Pt):isPts (ptsF l)=true:=isSl_slF l fun _ _=>rfl
theorem pt_eq {x:F} (h:isPt x=true):ptF (unPt x)=x:=by
 unfold isPt at h
 split at h
 ·rfl
 ·cases h
theorem pts_eqv {x:F} (hx:isPts x=true):FLe x (ptsF (unPts x))∧FLe (ptsF (unPts x)) x:=slF_eqv (fun _ h=>pt_eq h) hx
theorem pt_ext {a b:Pt} (h1:a.x=b.x) (h2:a.y=b.y):a=b:=by
 cases a;cases b;simp only at h1 h2;rw [h1,h2]
theorem pt_eta (a:Pt):(⟨a.x,a.y⟩:Pt)=a:=rfl
theorem pt_ne {a b:Pt} (h:a ≠ b):a.x ≠ b.x ∨ a.y ≠ b.y:=by
 by_cases hx:a.x=b.x
 ·right;intro hy;exact h (pt_ext hx hy)
 ·exact .inl hx
def allUp (f:Nat→Bool):Nat→Nat→Bool
 | _,0=>true
 | i,d+1=>f i&&allUp f (i+1) d
theorem allUp_iff (f:Nat→Bool):∀ (d i:Nat),allUp f i d=true ↔ ∀ j,i≤j→j<i+d→f j=true
 | 0,i=>⟨fun _ j h1 h2=>by omega,fun _=>rfl⟩
 | d+1,i=>by
  rw [allUp,Bool.and_eq_true,allUp_iff f d (i+1)]
  constructor
  ·rintro ⟨h1,h2⟩ j h3 h4
   by_cases e:j=i
   ·subst e;exact h1
   ·exact h2 j (by omega) (by omega)
  ·exact fun h=>⟨h i (by omega) (by omega),fun j h1 h2=>h j (by omega) (by omega)⟩
theorem allUp_cut (f:Nat→Bool) (i d:Nat):allUp f i (d+1)=(f i&&allUp f (i+1) d):=rfl
def legOf (a b:Pt):Sg:=bif lessV b.x b.y a.x a.y then ⟨b.x,b.y,a.x,a.y⟩ else ⟨a.x,a.y,b.x,b.y⟩
theorem leg_cases (a b:Pt) (h:a ≠ b):(lexLt a.x a.y b.x b.y∧legOf a b=⟨a.x,a.y,b.x,b.y⟩) ∨ (lexLt b.x b.y a.x a.y∧legOf a b=⟨b.x,b.y,a.x,a.y⟩):=by
 unfold legOf
 cases hl:lessV b.x b.y a.x a.y with
 | true=>exact .inr ⟨lessV_lt.1 hl,rfl⟩
 | false =>
  refine .inl ⟨?_,rfl⟩
  have:=lessV_no.1 hl
  have:=pt_ne h
  unfold lexLe at *
  unfold lexLt
  omega
def onS (s:Sg) (p:Pt):Prop:=onSg s.x0 s.y0 s.x1 s.y1 p.x p.y
def meetS (s t:Sg):Prop:=meets s.x0 s.y0 s.x1 s.y1 t.x0 t.y0 t.x1 t.y1
def riseS (s:Sg):Prop:=lexLt s.x0 s.y0 s.x1 s.y1
theorem leg_rise {a b:Pt} (h:a ≠ b):riseS (legOf a b):=by
 unfold riseS
 rcases leg_cases a b h with ⟨h1,h2⟩ | ⟨h1,h2⟩ <;> rw [h2] <;> exact h1
theorem leg_on {a b:Pt} (h:a ≠ b) {s:Sg} (hs:riseS s) (ho:onS s a):meetS s (legOf a b):=by
 unfold onS at ho
 unfold riseS at hs
 unfold meetS
 rcases leg_cases a b h with ⟨h1,h2⟩ | ⟨h1,h2⟩ <;> rw [h2]
 ·exact on_meets hs h1 (.inl ho)
 ·exact on_meets hs h1 (.inr ho)
theorem meetS_comm {s t:Sg} (hs:riseS s) (ht:riseS t):meetS s t ↔ meetS t s:=⟨meets_comm hs ht,meets_comm ht hs⟩
end
noncomputable section
/-! ### function 97 -/
def S97_5 (m:Nat) (g:Nat→F) (n:Int) (i:Int):St:=⟨bads 2 ((U.hp 0 0) :: (U.hs 1 m 0 m) :: bads 17 ((U.f (F.int .i64 n)) :: (U.f (F.int .i64 i)) :: bads 16 [])),[HO.box [(U.f (F.bool false)),U.nils],HO.arr 1 m g]⟩
def T97_5 {ρ:Type} (ret:KJ62 ρ) (c5:(Nat)→(Nat→F)→(Int)→(Int)→Option ρ) (m:Nat) (g:Nat→F) (n:Int) (i:Int):Option ρ :=
 (bsel (decide (i<n))
 (bsel (decide (m=m))
 (bsel (decide (0≤i))
 (bsel (decide (i<(↑m:Int)))
 (bsel (decide (m=m))
 (bsel (decide (0+i.toNat<m))
 (bsel (decide ((g (0+i.toNat)).cells.length=1))
 (bsel (okV (Value.int IntKind.u64 0) ((List.drop 0 (g (0+i.toNat)).cells).headD F.dflt)&&true)
 (bsel (decide (m=m))
 (bsel (decide (0≤i))
 (bsel (decide (i<(↑m:Int)))
 (bsel (decide (m=m))
 (bsel (decide (0+i.toNat<m))
 (bsel (decide ((g (0+i.toNat)).cells.length=1))
 (bsel ((isAggF (g (0+i.toNat)) || true)&&true)
 (c5 (m) (fun j ↦ if j=0+i.toNat then F.int .u64 (bitsOp BinOp.xor IntKind.u64 (if IntKind.u64.signed=true then -1 else IntKind.u64.max) (intOf ((List.drop 0 (g (0+i.toNat)).cells).headD F.dflt))) else g j) (n) (IntKind.i64.wrap (i+1)))
 none)
 none)
 none)
 none)
 none)
 none)
 none)
 none)
 none)
 none)
 none)
 none)
 none)
 none)
 (bsel (decide (m=m))
 (bsel (isWords (F.sl m (offF 0 g))&&decide ((unWords (F.sl m (offF 0 g))).length≤1000))
 (bsel (isWords (resTrim [F.sl m (offF 0 g)])&&lenOk 900 (resTrim [F.sl m (offF 0 g)])&&true)
 (bsel (isWords (resAddW [resTrim [F.sl m (offF 0 g)],F.sl 1 (lget [F.int .u64 1])])&&lenOk 1000 (resAddW [resTrim [F.sl m (offF 0 g)],F.sl 1 (lget [F.int .u64 1])]))
 (ret (numF (sgn true (val 18446744073709551616 (unWords (resAddW [resTrim [F.sl m (offF 0 g)],F.sl 1 (lget [F.int .u64 1])]))))))
 none)
 none)
 none)
 none))
def L97_5:Nat→(Nat)→(Nat→F)→(Int)→(Int)→Option (F)
 | 0,_,_,_,_=>none
 | k+1,m,g,n,i=>T97_5 some (L97_5 k) m g n i
def T97 {ρ:Type} (ret:KJ62 ρ) (c5:(Nat)→(Nat→F)→(Int)→(Int)→Option ρ) (a:Int) (b:Int) (c:Int) (d:Int):Option ρ :=
 (bsel (a.fdiv (2 ^ min (Int.toNat 63) IntKind.u64.bits)==0)
 (bsel (isWords (F.sl 4 (offF 0 (lget [F.int .u64 d,F.int .u64 c,F.int .u64 b,F.int .u64 a])))&&true)
 (ret (numF (sgn false (val 18446744073709551616 (unWords (F.sl 4 (offF 0 (lget [F.int .u64 d,F.int .u64 c,F.int .u64 b,F.int .u64 a]))))))))
 none)
 (c5 (4) (lget [F.int .u64 d,F.int .u64 c,F.int .u64 b,F.int .u64 a]) (((4:Nat):Int)) (0)))
def G97 (k:Nat) (a:Int) (b:Int) (c:Int) (d:Int):Option (F):=T97 some (L97_5 k) a b c d
theorem t97_5:∀ (k:Nat) (m:Nat) (g:Nat→F) (n:Int) (i:Int) (r:F),L97_5 k m g n i=some r→Ends Tryz.prog Tryz.f97.results.toList (at_ Tryz.f97 5) (S97_5 m g n i) (r)
 | 0,_,_,_,_,_,h=>nomatch h
 | k+1,m,g,n,i,r,h=>by
  refine Ends.of_cut tyOK envH4b_ok (T:=[(5,[2,3,21,22],1000)]) (n:=200) ?_
  refine gE (Y:=T97_5 (fun r=>some (.ret (r))) (fun m g n i=>some (.cut (at_ Tryz.f97 5) (S97_5 m g n i))) m g n i) (by kernel_rfl) ?_
  exact (gS h (fun _ h=>(gS h (fun _ h=>(gS h (fun _ h=>(gS h (fun _ h=>(gS h (fun _ h=>(gS h (fun _ h=>(gS h (fun _ h=>(gS h (fun _ h=>(gS h (fun _ h=>(gS h (fun _ h=>(gS h (fun _ h=>(gS h (fun _ h=>(gS h (fun _ h=>(gS h (fun _ h=>(gS h (fun _ h=>gC (t97_5 k _ _ _ _ r h)) gN)) gN)) gN)) gN)) gN)) gN)) gN)) gN)) gN)) gN)) gN)) gN)) gN)) gN)) (fun _ h=>(gS h (fun _ h=>(gS h (fun _ h=>(gS h (fun _ h=>(gS h (fun _ h=>gR (by cases h;rfl)) gN)) gN)) gN)) gN)))
theorem t97 (k:Nat) (a:Int) (b:Int) (c:Int) (d:Int) (r:F) (h:G97 k a b c d=some r):Ends Tryz.prog Tryz.f97.results.toList [.code (bodyOf Tryz.f97)] (start Tryz.f97.ntmps ([F.agg [F.int .u64 a,F.int .u64 b,F.int .u64 c,F.int .u64 d]].map .f)) (r):=by
 refine Ends.of_run tyOK envH4b_ok (T:=[(5,[2,3,21,22],1000)]) (n:=200) ?_
 refine gE (Y:=T97 (fun r=>some (.ret (r))) (fun m g n i=>some (.cut (at_ Tryz.f97 5) (S97_5 m g n i))) a b c d) (by kernel_rfl) ?_
 exact (gS h (fun _ h=>(gS h (fun _ h=>gR (by cases h;rfl)) gN)) (fun _ h=>gC (t97_5 k _ _ _ _ r h)))
def isU4 (a b c d:Int):Bool:=isWd a&&isWd b&&(isWd c&&isWd d)
theorem isU4_iff {a b c d:Int}:isU4 a b c d=true ↔ ((0≤a∧a<18446744073709551616)∧(0≤b∧b<18446744073709551616))∧(0≤c∧c<18446744073709551616)∧(0≤d∧d<18446744073709551616):=by
 simp only [isU4,Bool.and_eq_true,isWd_iff]
def wdsS (a b c d:Int):Int:=if a<9223372036854775808 then d+18446744073709551616*(c+18446744073709551616*(b+18446744073709551616*a)) else d+18446744073709551616*(c+18446744073709551616*(b+18446744073709551616*a))-115792089237316195423570985008687907853269984665640564039457584007913129639936
theorem wdsS_bound {a b c d:Int} (h:isU4 a b c d=true):isWide (wdsS a b c d)=true:=by
 have:=isU4_iff.1 h
 rw [isWide_iff]
 unfold wdsS
 split <;> omega
theorem wdsS_wd {z:Int} (h:isWide z=true):wdsS (wd3 z) (wd2 z) (wd1 z) (wd0 z)=z∧isU4 (wd3 z) (wd2 z) (wd1 z) (wd0 z)=true:=by
 have hw:=isWide_iff.1 h
 rw [isU4_iff]
 simp only [wdsS,wd3,wd2,wd1,wd0,h,cond_true]
 refine ⟨?_,by omega⟩
 split <;> omega
def valV (v:Nat→Nat):Nat:=v 0+18446744073709551616*(v 1+18446744073709551616*(v 2+18446744073709551616*v 3))
theorem wnum_loop {v:Nat→Nat} (hv:∀ j,v j<18446744073709551616):∀ (d i k:Nat) (g:Nat→F),i+d=4→d+1<k→(∀ j,j<4→g j=u64F (if j<i then 18446744073709551616-1-v j else v j)) →
  L97_5 k 4 g ((4:Nat):Int) i=some (numF (-((115792089237316195423570985008687907853269984665640564039457584007913129639936-valV v:Nat):Int)))
 | 0,i,k,g,hi,hk,hg=>by
  obtain ⟨k,rfl⟩:∃ j,k=j+2:=⟨k-2,by omega⟩
  have hg':∀ j,j<4→g j=u64F ([18446744073709551616-1-v 0,18446744073709551616-1-v 1,18446744073709551616-1-v 2,18446744073709551616-1-v 3].getD j 0):=fun j hj=>by
   rw [hg j hj,if_pos (by omega)]
   match j,hj with
   | 0,_=>rfl
   | 1,_=>rfl
   | 2,_=>rfl
   | 3,_=>rfl
  have ho:okD 18446744073709551616 [18446744073709551616-1-v 0,18446744073709551616-1-v 1,18446744073709551616-1-v 2,18446744073709551616-1-v 3]:=fun w hw=>by
   simp at hw
   omega
  have e1:isWords (F.sl 4 (offF 0 g))=true:=isWords_read rfl hg' ho
  have e2:unWords (F.sl 4 (offF 0 g))=[18446744073709551616-1-v 0,18446744073709551616-1-v 1,18446744073709551616-1-v 2,18446744073709551616-1-v 3]:=unWords_read rfl hg'
  have e3:resTrim [F.sl 4 (offF 0 g)]=wordsF (trimL [18446744073709551616-1-v 0,18446744073709551616-1-v 1,18446744073709551616-1-v 2,18446744073709551616-1-v 3]):=by
   show wordsF (trimL (unWords _))=_
   rw [e2]
  have ot:=okD_trimL _ ho
  have e4:isWords (wordsF (trimL [18446744073709551616-1-v 0,18446744073709551616-1-v 1,18446744073709551616-1-v 2,18446744073709551616-1-v 3]))=true:=isWords_wordsF ot
  have hl:(trimL [18446744073709551616-1-v 0,18446744073709551616-1-v 1,18446744073709551616-1-v 2,18446744073709551616-1-v 3]).length≤4:=by
   rw [trimL_take]
   simp only [List.length_take,List.length_cons,List.length_nil]
   omega
  have e5:lenOk 900 (wordsF (trimL [18446744073709551616-1-v 0,18446744073709551616-1-v 1,18446744073709551616-1-v 2,18446744073709551616-1-v 3]))=true:=by
   rw [lenOk_wordsF,Nat.ble_eq]
   omega
  have h0:=hv 0
  have h1:=hv 1
  have h2:=hv 2
  have h3:=hv 3
  have e6:resAddW [wordsF (trimL [18446744073709551616-1-v 0,18446744073709551616-1-v 1,18446744073709551616-1-v 2,18446744073709551616-1-v 3]),F.sl 1 (lget [F.int .u64 1])]=wordsF (digs 18446744073709551616 (115792089237316195423570985008687907853269984665640564039457584007913129639936-valV v)):=by
   have:unWords (F.sl 1 (lget [F.int .u64 1]))=[1]:=rfl
   simp only [resAddW,this,unWords_wordsF,val_trimL]
   congr 2
   simp only [val,valV]
   omega
  have hb:115792089237316195423570985008687907853269984665640564039457584007913129639936-valV v<18446744073709551616 ^ 5:=by
   have:(18446744073709551616:Nat) ^ 5=18446744073709551616*115792089237316195423570985008687907853269984665640564039457584007913129639936:=rfl
   omega
  rw [L97_5]
  unfold T97_5
  rw [decide_eq_false (show ¬ (i:Int)<((4:Nat):Int) by omega),bsel_false,e1,e2,e3,e4,e5,e6,isWords_digs,lenOk_digs hb (show 5≤1000 by omega),unWords_digs,val_digsB]
  rfl
 | d+1,i,k,g,hi,hk,hg=>by
  obtain ⟨k,rfl⟩:∃ j,k=j+1:=⟨k-1,by omega⟩
  have hx:g i=u64F (v i):=by rw [hg i (by omega),if_neg (by omega)]
  rw [L97_5]
  unfold T97_5
  rw [Int.toNat_natCast,Nat.zero_add,hx,decide_eq_true (show (i:Int)<((4:Nat):Int) by omega),decide_eq_true (show 4=4 from rfl),decide_eq_true (show (0:Int)≤i by omega),decide_eq_true (show i<4 by omega),decide_eq_true (u64_cells _),isAgg_or,cell_of,okV_u64,intOf_u64,not64 (hv i),wrapI (by omega) (by omega)]
  simp only [bsel_true,Bool.and_true]
  rw [show (i:Int)+1=((i+1:Nat):Int) by omega]
  refine wnum_loop hv d (i+1) k _ (by omega) (by omega) fun j hj=>?_
  by_cases hji:j=i
  ·subst hji
   rw [if_pos rfl,if_pos (by omega)]
   rfl
  ·rw [if_neg hji,hg j hj]
   by_cases hlt:j<i
   ·rw [if_pos hlt,if_pos (by omega)]
   ·rw [if_neg hlt,if_neg (by omega)]
theorem wnumS_law {a b c d:Int} (h:isU4 a b c d=true):G97 10 a b c d=some (numF (wdsS a b c d)):=by
 obtain ⟨⟨⟨a1,a2⟩,b1,b2⟩,⟨c1,c2⟩,d1,d2⟩:=isU4_iff.1 h
 obtain ⟨a,rfl⟩:∃ n:Nat,a=n:=⟨a.toNat,by omega⟩
 obtain ⟨b,rfl⟩:∃ n:Nat,b=n:=⟨b.toNat,by omega⟩
 obtain ⟨c,rfl⟩:∃ n:Nat,c=n:=⟨c.toNat,by omega⟩
 obtain ⟨d,rfl⟩:∃ n:Nat,d=n:=⟨d.toNat,by omega⟩
 have hg:∀ j,j<4→lget [F.int .u64 d,F.int .u64 c,F.int .u64 b,F.int .u64 a] j=u64F ([d,c,b,a].getD j 0):=fun j hj=>by
  match j,hj with
  | 0,_=>rfl
  | 1,_=>rfl
  | 2,_=>rfl
  | 3,_=>rfl
 have ho:okD 18446744073709551616 [d,c,b,a]:=fun w hw=>by
  simp at hw
  omega
 unfold G97 T97
 rw [show ((2:Int) ^ min (Int.toNat 63) IntKind.u64.bits)=9223372036854775808 from rfl,Int.fdiv_eq_ediv_of_nonneg _ (by omega)]
 by_cases hc:a<9223372036854775808
 ·rw [show ((a:Int) / 9223372036854775808==0)=true by rw [beq_iff_eq];omega,bsel_true,show isWords (F.sl 4 (offF 0 (lget [F.int .u64 d,F.int .u64 c,F.int .u64 b,F.int .u64 a])))=true from isWords_read rfl hg ho,show unWords (F.sl 4 (offF 0 (lget [F.int .u64 d,F.int .u64 c,F.int .u64 b,F.int .u64 a])))=[d,c,b,a] from unWords_read rfl hg]
  simp only [Bool.and_true,bsel_true,sgn,val,Bool.false_eq_true,if_false]
  refine congrArg some (congrArg numF ?_)
  unfold wdsS
  rw [if_pos (by omega)]
  omega
 ·rw [show ((a:Int) / 9223372036854775808==0)=false by rw [beq_eq_false_iff_ne];omega,bsel_false]
  have hv:∀ j,[d,c,b,a].getD j 0<18446744073709551616:=getD_lt' (by omega) ho
  have hgo:=wnum_loop hv 4 0 10 (lget [F.int .u64 d,F.int .u64 c,F.int .u64 b,F.int .u64 a]) rfl (by omega) fun j hj=>by rw [if_neg (by omega)];exact hg j hj
  refine hgo.trans ?_
  refine congrArg some (congrArg numF ?_)
  unfold wdsS valV
  rw [if_neg (by omega)]
  show -((115792089237316195423570985008687907853269984665640564039457584007913129639936-(d+18446744073709551616*(c+18446744073709551616*(b+18446744073709551616*a))):Nat):Int)=_
  omega
def preWs:List F→Bool | [.agg [.int .u64 a,.int .u64 b,.int .u64 c,.int .u64 d]]=>isU4 a b c d | _=>false
def resWs:List F→F | [.agg [.int .u64 a,.int .u64 b,.int .u64 c,.int .u64 d]]=>numF (wdsS a b c d) | _=>.dflt
theorem okWs:PureOK Tryz.prog 97 preWs resWs :=
 fn_pure (c:=bodyOf Tryz.f97) Tryz.func97 (by kernel_rfl) (by kernel_rfl) fun xs hp=>match xs,hp with
 | [.agg [.int .u64 a,.int .u64 b,.int .u64 c,.int .u64 d]],hp=>t97 10 a b c d _ (wnumS_law hp)
/-! ### function 62 -/
def T62 {ρ:Type} (ret:KJ62 ρ) (n:Int):Option ρ :=
 (bsel (isI64 n)
 (bsel (isNum 399 (resWhole [F.int .i64 n]))
 (ret (F.agg [F.int .u64 (wd3 (unNum (resWhole [F.int .i64 n]))),F.int .u64 (wd2 (unNum (resWhole [F.int .i64 n]))),F.int .u64 (wd1 (unNum (resWhole [F.int .i64 n]))),F.int .u64 (wd0 (unNum (resWhole [F.int .i64 n])))]))
 none)
 none)
def G62 (n:Int):Option (F):=T62 some n
theorem t62 (n:Int) (r:F) (h:G62 n=some r):Ends Tryz.prog Tryz.f62.results.toList [.code (bodyOf Tryz.f62)] (start Tryz.f62.ntmps ([F.int .i64 n].map .f)) (r):=by
 refine Ends.of_run tyOK envH4b_ok (T:=[]) (n:=200) ?_
 refine gE (Y:=T62 (fun r=>some (.ret (r))) n) (by kernel_rfl) ?_
 exact (gS h (fun _ h=>(gS h (fun _ h=>gR (by cases h;rfl)) gN)) gN)
theorem wideOf_law {n:Int} (h:isI64 n=true):G62 n=some (wideF n):=by
 have r:resWhole [F.int .i64 n]=numF n:=rfl
 have hn:n.natAbs<18446744073709551616 ^ 1:=by have:=isI64_iff.1 h;omega
 unfold G62 T62
 rw [r,h,isNum_numF (bound_up hn (show 1≤399 by omega)),unNum_numF]
 rfl
def resWideOf:List F→F | [.int .i64 n]=>wideF n | _=>.dflt
theorem okWideOf:PureOK Tryz.prog 62 preI64 resWideOf :=
 fn_pure (c:=bodyOf Tryz.f62) Tryz.func62 (by kernel_rfl) (by kernel_rfl) fun xs hp=>match xs,hp with
 | [.int .i64 n],hp=>t62 n _ (wideOf_law hp)
/-! ### function 43 -/
def T43 {ρ:Type} (ret:KJ62 ρ) (x0:Int) (y0:Int) (x1:Int) (y1:Int):Option ρ :=
 (bsel (decide (cmpV x0 y0 x1 y1 > 0))
 (ret (F.agg [F.int .i64 x1,F.int .i64 y1,F.int .i64 x0,F.int .i64 y0]))
 (ret (F.agg [F.int .i64 x0,F.int .i64 y0,F.int .i64 x1,F.int .i64 y1])))
def G43 (x0:Int) (y0:Int) (x1:Int) (y1:Int):Option (F):=T43 some x0 y0 x1 y1
theorem t43 (x0:Int) (y0:Int) (x1:Int) (y1:Int) (r:F) (h:G43 x0 y0 x1 y1=some r):Ends Tryz.prog Tryz.f43.results.toList [.code (bodyOf Tryz.f43)] (start Tryz.f43.ntmps ([F.agg [F.int .i64 x0,F.int .i64 y0],F.agg [F.int .i64 x1,F.int .i64 y1]].map .f)) (r):=by
 refine Ends.of_run tyOK envH4b_ok (T:=[]) (n:=200) ?_
 refine gE (Y:=T43 (fun r=>some (.ret (r))) x0 y0 x1 y1) (by kernel_rfl) ?_
 exact (gS h (fun _ h=>gR (by cases h;rfl)) (fun _ h=>gR (by cases h;rfl)))
theorem cmpV_pos (x0 y0 x1 y1:Int):decide (cmpV x0 y0 x1 y1 > 0)=lessV x1 y1 x0 y0:=by
 unfold cmpV
 cases h1:(x0==x1&&y0==y1) with
 | true =>
  simp only [Bool.and_eq_true,beq_iff_eq] at h1
  cases h2:lessV x1 y1 x0 y0 with
  | false=>rfl
  | true =>
   have:=lessV_lt.1 h2
   unfold lexLt at this
   omega
 | false =>
  have hn:¬ (x0=x1∧y0=y1):=fun ⟨e1,e2⟩=>by rw [e1,e2,beq_self_eq_true,beq_self_eq_true] at h1;cases h1
  cases h2:lessV x0 y0 x1 y1 <;> cases h3:lessV x1 y1 x0 y0 <;> first | rfl | skip
  ·have h2:=lessV_no.1 h2
   have h3:=lessV_no.1 h3
   unfold lexLe at h2 h3
   omega
  ·have h2:=lessV_lt.1 h2
   have h3:=lessV_lt.1 h3
   unfold lexLt at h2 h3
   omega
def resLeg:List F→F | [.agg [.int .i64 a,.int .i64 b],.agg [.int .i64 c,.int .i64 d]]=>sgF (legOf ⟨a,b⟩ ⟨c,d⟩) | _=>.dflt
theorem okLeg:PureOK Tryz.prog 43 pre2p resLeg :=
 fn_pure (c:=bodyOf Tryz.f43) Tryz.func43 (by kernel_rfl) (by kernel_rfl) fun xs hp=>match xs,hp with
 | [.agg [.int .i64 a,.int .i64 b],.agg [.int .i64 c,.int .i64 d]],hp=>t43 a b c d _ (by
   unfold G43 T43
   rw [cmpV_pos]
   show _=some (sgF (legOf ⟨a,b⟩ ⟨c,d⟩))
   unfold legOf
   cases lessV c d a b <;> rfl)
def envH5:Env:=((envH4b.add 97 (.pure preWs resWs)).add 62 (.pure preI64 resWideOf)).add 43 (.pure pre2p resLeg)
theorem envH5_ok:EnvOK Tryz.prog envH5:=(Env.add_ok (Env.add_ok (Env.add_ok envH4b_ok okWs.sp) okWideOf.sp) okLeg.sp)
end
noncomputable section
/-! ### function 39 -/
def T39 {ρ:Type} (ret:KJ62 ρ) (x:Int) (y:Int):Option ρ :=
 (bsel (isI64 x)
 (bsel (isI64 y)
 (ret (F.agg [F.int .u64 (wd3 x),F.int .u64 (wd2 x),F.int .u64 (wd1 x),F.int .u64 (wd0 x),F.int .u64 (wd3 y),F.int .u64 (wd2 y),F.int .u64 (wd1 y),F.int .u64 (wd0 y),F.int .u64 (wd3 1),F.int .u64 (wd2 1),F.int .u64 (wd1 1),F.int .u64 (wd0 1)]))
 none)
 none)
def G39 (x:Int) (y:Int):Option (F):=T39 some x y
theorem t39 (x:Int) (y:Int) (r:F) (h:G39 x y=some r):Ends Tryz.prog Tryz.f39.results.toList [.code (bodyOf Tryz.f39)] (start Tryz.f39.ntmps ([F.agg [F.int .i64 x,F.int .i64 y]].map .f)) (r):=by
 refine Ends.of_run tyOK envH5_ok (T:=[]) (n:=200) ?_
 refine gE (Y:=T39 (fun r=>some (.ret (r))) x y) (by kernel_rfl) ?_
 exact (gS h (fun _ h=>(gS h (fun _ h=>gR (by cases h;rfl)) gN)) gN)
def preI2:List F→Bool | [.agg [.int .i64 x,.int .i64 y]]=>isI64 x&&isI64 y | _=>false
def resPtOf:List F→F | [.agg [.int .i64 x,.int .i64 y]]=>.agg [.int .u64 (wd3 x),.int .u64 (wd2 x),.int .u64 (wd1 x),.int .u64 (wd0 x),.int .u64 (wd3 y),.int .u64 (wd2 y),.int .u64 (wd1 y),.int .u64 (wd0 y),.int .u64 (wd3 1),.int .u64 (wd2 1),.int .u64 (wd1 1),.int .u64 (wd0 1)] | _=>.dflt
theorem okPtOf:PureOK Tryz.prog 39 preI2 resPtOf :=
 fn_pure (c:=bodyOf Tryz.f39) Tryz.func39 (by kernel_rfl) (by kernel_rfl) fun xs hp=>match xs,hp with
 | [.agg [.int .i64 x,.int .i64 y]],hp=>by
  simp only [preI2,Bool.and_eq_true] at hp
  exact t39 x y _ (by unfold G39 T39;rw [hp.1,hp.2];rfl)
/-! ### function 85 -/
def T85 {ρ:Type} (ret:KJ62 ρ) (a0:Int) (a1:Int) (a2:Int) (a3:Int) (a4:Int) (a5:Int) (a6:Int) (a7:Int) (a8:Int) (a9:Int) (a10:Int) (a11:Int):Option ρ :=
 (bsel (isU4 a0 a1 a2 a3)
 (bsel (isU4 a4 a5 a6 a7)
 (bsel (isU4 a8 a9 a10 a11)
 (ret (F.agg [F.bool (decide (wdsS a0 a1 a2 a3<0)),wordsF (digs 18446744073709551616 (wdsS a0 a1 a2 a3).natAbs),F.bool (decide (wdsS a4 a5 a6 a7<0)),wordsF (digs 18446744073709551616 (wdsS a4 a5 a6 a7).natAbs),F.bool (decide (wdsS a8 a9 a10 a11<0)),wordsF (digs 18446744073709551616 (wdsS a8 a9 a10 a11).natAbs)]))
 none)
 none)
 none)
def G85 (a0:Int) (a1:Int) (a2:Int) (a3:Int) (a4:Int) (a5:Int) (a6:Int) (a7:Int) (a8:Int) (a9:Int) (a10:Int) (a11:Int):Option (F):=T85 some a0 a1 a2 a3 a4 a5 a6 a7 a8 a9 a10 a11
theorem t85 (a0:Int) (a1:Int) (a2:Int) (a3:Int) (a4:Int) (a5:Int) (a6:Int) (a7:Int) (a8:Int) (a9:Int) (a10:Int) (a11:Int) (r:F) (h:G85 a0 a1 a2 a3 a4 a5 a6 a7 a8 a9 a10 a11=some r):Ends Tryz.prog Tryz.f85.results.toList [.code (bodyOf Tryz.f85)] (start Tryz.f85.ntmps ([F.agg [F.int .u64 a0,F.int .u64 a1,F.int .u64 a2,F.int .u64 a3,F.int .u64 a4,F.int .u64 a5,F.int .u64 a6,F.int .u64 a7,F.int .u64 a8,F.int .u64 a9,F.int .u64 a10,F.int .u64 a11]].map .f)) (r):=by
 refine Ends.of_run tyOK envH5_ok (T:=[]) (n:=200) ?_
 refine gE (Y:=T85 (fun r=>some (.ret (r))) a0 a1 a2 a3 a4 a5 a6 a7 a8 a9 a10 a11) (by kernel_rfl) ?_
 exact (gS h (fun _ h=>(gS h (fun _ h=>(gS h (fun _ h=>gR (by cases h;rfl)) gN)) gN)) gN)
def isPw (a0 a1 a2 a3 a4 a5 a6 a7 a8 a9 a10 a11:Int):Bool:=isU4 a0 a1 a2 a3&&isU4 a4 a5 a6 a7&&isU4 a8 a9 a10 a11
def prePw:List F→Bool | [.agg [.int .u64 a0,.int .u64 a1,.int .u64 a2,.int .u64 a3,.int .u64 a4,.int .u64 a5,.int .u64 a6,.int .u64 a7,.int .u64 a8,.int .u64 a9,.int .u64 a10,.int .u64 a11]]=>isPw a0 a1 a2 a3 a4 a5 a6 a7 a8 a9 a10 a11 | _=>false
def resSpotN:List F→F | [.agg [.int .u64 a0,.int .u64 a1,.int .u64 a2,.int .u64 a3,.int .u64 a4,.int .u64 a5,.int .u64 a6,.int .u64 a7,.int .u64 a8,.int .u64 a9,.int .u64 a10,.int .u64 a11]]=>.agg [.bool (decide (wdsS a0 a1 a2 a3<0)),wordsF (digs 18446744073709551616 (wdsS a0 a1 a2 a3).natAbs),.bool (decide (wdsS a4 a5 a6 a7<0)),wordsF (digs 18446744073709551616 (wdsS a4 a5 a6 a7).natAbs),.bool (decide (wdsS a8 a9 a10 a11<0)),wordsF (digs 18446744073709551616 (wdsS a8 a9 a10 a11).natAbs)] | _=>.dflt
theorem okSpotN:PureOK Tryz.prog 85 prePw resSpotN :=
 fn_pure (c:=bodyOf Tryz.f85) Tryz.func85 (by kernel_rfl) (by kernel_rfl) fun xs hp=>match xs,hp with
 | [.agg [.int .u64 a0,.int .u64 a1,.int .u64 a2,.int .u64 a3,.int .u64 a4,.int .u64 a5,.int .u64 a6,.int .u64 a7,.int .u64 a8,.int .u64 a9,.int .u64 a10,.int .u64 a11]],hp=>by
  simp only [prePw,isPw,Bool.and_eq_true] at hp
  exact t85 a0 a1 a2 a3 a4 a5 a6 a7 a8 a9 a10 a11 _ (by unfold G85 T85;rw [hp.1.1,hp.1.2,hp.2];rfl)
def envH6:Env:=(envH5.add 39 (.pure preI2 resPtOf)).add 85 (.pure prePw resSpotN)
theorem envH6_ok:EnvOK Tryz.prog envH6:=(Env.add_ok (Env.add_ok envH5_ok okPtOf.sp) okSpotN.sp)
end
end Go.Proofs.YtkjjmmgddehbhaaGreat.R
