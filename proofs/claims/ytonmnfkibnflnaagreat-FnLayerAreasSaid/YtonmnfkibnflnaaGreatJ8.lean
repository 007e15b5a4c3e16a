/-
 The own walk and what it shows,part 8 of 10.
-/
import Derived.Test.YtonmnfkibnflnaaGreatJ1
import Derived.Test.YtonmnfkibnflnaaGreatJ2
import Derived.Test.YtonmnfkibnflnaaGreatJ3
import Derived.Test.YtonmnfkibnflnaaGreatJ4
import Derived.Test.YtonmnfkibnflnaaGreatJ5
import Derived.Test.YtonmnfkibnflnaaGreatJ6
import Derived.Test.YtonmnfkibnflnaaGreatJ7
set_option linter.unusedVariables false
set_option linter.unusedSimpArgs false
set_option maxRecDepth 100000
set_option exponentiation.threshold 30000
namespace Go.Proofs.YtonmnfkibnflnaaGreat.R
open Go
noncomputable section
set_option maxHeartbeats 1000000
/-! ### function 17 -/
def Vw (q:List Pt) (n:Int) (i:Int) (m:Int):St:=⟨Al 1 ((U.hp 0 0) :: Al 1 ((U.f (F.int .i64 n)) :: Al 23 ((U.f (Ac q)) :: (U.f (F.int .i64 m)) :: (U.f (F.int .i64 i)) :: Al 73 []))),[HO.box [(U.f (Ac q))]]⟩
def PX (q:List Pt) (n:Int) (i:Int) (m:Int):St:=⟨Al 1 ((U.hp 0 0) :: Al 1 ((U.f (F.int .i64 n)) :: Al 34 ((U.f (Ac q)) :: (U.f (F.int .i64 m)) :: (U.f (F.int .i64 i)) :: Al 62 []))),[HO.box [(U.f (Ac q))]]⟩
def PW (l:List Sg) (n:Int) (m:Int) (i:Int):St:=⟨Al 3 ((U.f (F.int .i64 n)) :: Al 4 ((U.f (Mc l)) :: Al 45 ((U.f (Mc l)) :: (U.f (F.int .i64 m)) :: (U.f (F.int .i64 i)) :: Al 46 []))),[]⟩
def PV (l:List Sg) (n:Int) (m:Int) (i:Int) (a:Int) (b:Int) (c:Int) (d:Int) (w:Nat) (u:Int) (j:Int):St:=⟨Al 3 ((U.f (F.int .i64 n)) :: Al 4 ((U.f (Mc l)) :: (U.f (F.int .i64 i)) :: (U.hp 0 0) :: Al 43 ((U.f (Mc l)) :: (U.f (F.int .i64 m)) :: (U.f (F.int .i64 i)) :: Al 6 ((U.f (F.sl w fun o=>F.agg [F.int .i64 (l.getD (0+o) Sg.zero).x0,F.int .i64 (l.getD (0+o) Sg.zero).y0,F.int .i64 (l.getD (0+o) Sg.zero).x1,F.int .i64 (l.getD (0+o) Sg.zero).y1])) :: (U.f (F.int .i64 u)) :: (U.f (F.int .i64 j)) :: Al 37 [])))),[HO.box [(U.f (F.int .i64 a)),(U.f (F.int .i64 b)),(U.f (F.int .i64 c)),(U.f (F.int .i64 d))]]⟩
abbrev xN (ρ:Type):=(List Sg)→(Int)→(Int)→(Int)→(Int)→(Int)→(Int)→(Int)→(Nat)→(Int)→(Int)→Option ρ
abbrev TH (ρ:Type):=(List Pt)→(Int)→(Int)→(Int)→Option ρ
abbrev NQ (ρ:Type):=(Int)→Option ρ
abbrev xM (ρ:Type):=(List Sg)→(Int)→(Int)→(Int)→Option ρ
def kJ {ρ:Type} (ret:NQ ρ) (c7:TH ρ) (c13:TH ρ) (c20:xM ρ) (c23:xN ρ) (q:List Pt) (n:Int) (i:Int) (m:Int):Option ρ :=
 (AD (decide (i<m))
 (AD (decide (0≤i))
 (AD (decide (i<(↑q.length:Int)))
 (AD (!By (q.getD i.toNat Pt.zero).x (q.getD i.toNat Pt.zero).y)
 (ret (3))
 (c7 (q) (n) (IntKind.i64.wrap (i+1)) (m)))
 none)
 none)
 (c13 (q) (n) (0) ((↑q.length:Int))))
def XU {ρ:Type} (ret:NQ ρ) (c7:TH ρ) (c13:TH ρ) (c20:xM ρ) (c23:xN ρ) (q:List Pt) (n:Int) (i:Int) (m:Int):Option ρ :=
 (AD (decide (i<m))
 (AD (decide (0≤i))
 (AD (decide (i<(↑q.length:Int)))
 (AD (decide (0≤i))
 (AD (decide (i≤(↑q.length:Int)))
 (AD (Da (F.sl (i.toNat-Int.toNat 0) fun j ↦ ptF (q.getD (Int.toNat 0+j) Pt.zero))&&Gb (BS (F.sl (i.toNat-Int.toNat 0) fun j ↦ ptF (q.getD (Int.toNat 0+j) Pt.zero))))
 (AD (dU (BS (F.sl (i.toNat-Int.toNat 0) fun j ↦ ptF (q.getD (Int.toNat 0+j) Pt.zero))) (q.getD i.toNat Pt.zero).x (q.getD i.toNat Pt.zero).y)
 (ret (4))
 (c13 (q) (n) (IntKind.i64.wrap (i+1)) (m)))
 none)
 none)
 none)
 none)
 none)
 (AD (BJ (F.agg [Ac q])&&Gb (AR (F.agg [Ac q])))
 (c20 (Cp (AR (F.agg [Ac q]))) (n) ((↑(Cp (AR (F.agg [Ac q]))).length:Int)) (0))
 none))
def XT {ρ:Type} (ret:NQ ρ) (c7:TH ρ) (c13:TH ρ) (c20:xM ρ) (c23:xN ρ) (l:List Sg) (n:Int) (m:Int) (i:Int):Option ρ :=
 (AD (decide (i<m))
 (AD (decide (0≤i))
 (AD (decide (i<(↑l.length:Int)))
 (AD (decide (0≤i))
 (AD (decide (i≤(↑l.length:Int)))
 (c23 (l) (n) (m) (i) ((l.getD i.toNat Sg.zero).x0) ((l.getD i.toNat Sg.zero).y0) ((l.getD i.toNat Sg.zero).x1) ((l.getD i.toNat Sg.zero).y1) (i.toNat-0) ((↑(i.toNat-Int.toNat 0):Int)) (0))
 none)
 none)
 none)
 none)
 (ret (0)))
def XS {ρ:Type} (ret:NQ ρ) (c7:TH ρ) (c13:TH ρ) (c20:xM ρ) (c23:xN ρ) (l:List Sg) (n:Int) (m:Int) (i:Int) (a:Int) (b:Int) (c:Int) (d:Int) (w:Nat) (u:Int) (j:Int):Option ρ :=
 (AD (decide (j<u))
 (AD (decide (0≤j))
 (AD (decide (j<(↑w:Int)))
 (AD (Df a b c d&&Df (l.getD (0+j.toNat) Sg.zero).x0 (l.getD (0+j.toNat) Sg.zero).y0 (l.getD (0+j.toNat) Sg.zero).x1 (l.getD (0+j.toNat) Sg.zero).y1)
 (AD ((j==IntKind.i64.wrap (i-1))==false)
 (AD ((j==0)==true)
 (AD ((EA a b c d (l.getD (0+j.toNat) Sg.zero).x0 (l.getD (0+j.toNat) Sg.zero).y0 (l.getD (0+j.toNat) Sg.zero).x1 (l.getD (0+j.toNat) Sg.zero).y1==2)==false)
 (AD ((EA a b c d (l.getD (0+j.toNat) Sg.zero).x0 (l.getD (0+j.toNat) Sg.zero).y0 (l.getD (0+j.toNat) Sg.zero).x1 (l.getD (0+j.toNat) Sg.zero).y1==1)==true)
 (AD (!i==IntKind.i64.wrap (n-1))
 (ret (5))
 (c23 (l) (n) (m) (i) (a) (b) (c) (d) (w) (u) (IntKind.i64.wrap (j+1))))
 (c23 (l) (n) (m) (i) (a) (b) (c) (d) (w) (u) (IntKind.i64.wrap (j+1))))
 (ret (5)))
 (AD ((EA a b c d (l.getD (0+j.toNat) Sg.zero).x0 (l.getD (0+j.toNat) Sg.zero).y0 (l.getD (0+j.toNat) Sg.zero).x1 (l.getD (0+j.toNat) Sg.zero).y1==2)==false)
 (AD ((EA a b c d (l.getD (0+j.toNat) Sg.zero).x0 (l.getD (0+j.toNat) Sg.zero).y0 (l.getD (0+j.toNat) Sg.zero).x1 (l.getD (0+j.toNat) Sg.zero).y1==1)==true)
 (ret (5))
 (c23 (l) (n) (m) (i) (a) (b) (c) (d) (w) (u) (IntKind.i64.wrap (j+1))))
 (ret (5))))
 (AD ((EA a b c d (l.getD (0+j.toNat) Sg.zero).x0 (l.getD (0+j.toNat) Sg.zero).y0 (l.getD (0+j.toNat) Sg.zero).x1 (l.getD (0+j.toNat) Sg.zero).y1==2)==false)
 (AD ((EA a b c d (l.getD (0+j.toNat) Sg.zero).x0 (l.getD (0+j.toNat) Sg.zero).y0 (l.getD (0+j.toNat) Sg.zero).x1 (l.getD (0+j.toNat) Sg.zero).y1==1)==true)
 (c23 (l) (n) (m) (i) (a) (b) (c) (d) (w) (u) (IntKind.i64.wrap (j+1)))
 (c23 (l) (n) (m) (i) (a) (b) (c) (d) (w) (u) (IntKind.i64.wrap (j+1))))
 (ret (5))))
 none)
 none)
 none)
 (c20 (l) (n) (m) (IntKind.i64.wrap (i+1))))
mutual
def OW:Nat→(List Pt)→(Int)→(Int)→(Int)→Option (Int)
 | 0,_,_,_,_=>none
 | k+1,q,n,i,m=>kJ some (OW k) (JG k) (Ih k) (Km k) q n i m
 termination_by structural k=>k
def JG:Nat→(List Pt)→(Int)→(Int)→(Int)→Option (Int)
 | 0,_,_,_,_=>none
 | k+1,q,n,i,m=>XU some (OW k) (JG k) (Ih k) (Km k) q n i m
 termination_by structural k=>k
def Ih:Nat→(List Sg)→(Int)→(Int)→(Int)→Option (Int)
 | 0,_,_,_,_=>none
 | k+1,l,n,m,i=>XT some (OW k) (JG k) (Ih k) (Km k) l n m i
 termination_by structural k=>k
def Km:Nat→(List Sg)→(Int)→(Int)→(Int)→(Int)→(Int)→(Int)→(Int)→(Nat)→(Int)→(Int)→Option (Int)
 | 0,_,_,_,_,_,_,_,_,_,_,_=>none
 | k+1,l,n,m,i,a,b,c,d,w,u,j=>XS some (OW k) (JG k) (Ih k) (Km k) l n m i a b c d w u j
 termination_by structural k=>k
end
def T17 {ρ:Type} (ret:NQ ρ) (c7:TH ρ) (c13:TH ρ) (c20:xM ρ) (c23:xN ρ) (q:List Pt):Option ρ :=
 (AD (decide ((↑q.length:Int)<3))
 (ret (1))
 (AD (decide ((↑q.length:Int) > 12))
 (ret (2))
 (c7 (q) ((↑q.length:Int)) (0) ((↑q.length:Int)))))
def G17 (k:Nat) (q:List Pt):Option (Int):=T17 some (OW k) (JG k) (Ih k) (Km k) q
mutual
theorem t17_7:∀ (k:Nat) (q:List Pt) (n:Int) (i:Int) (m:Int) (r:Int),OW k q n i m=some r→AX Tryz.prog Tryz.f17.results.toList (at_ Tryz.f17 7) (Vw q n i m) (F.int .i64 r)
 | 0,_,_,_,_,_,h=>nomatch h
 | k+1,q,n,i,m,r,h=>by
  refine AX.of_cut Au Jl (T:=[(7,[1,3,27,28,29],1000),(13,[1,3,38,39,40],1000),(20,[3,8,54,55,56],1000),(23,[3,8,9,10,54,55,56,63,64,65],1000)]) (n:=200) ?_
  refine gE (Y:=kJ (fun r=>some (.ret (F.int .i64 r))) (fun q n i m=>some (.cut (at_ Tryz.f17 7) (Vw q n i m))) (fun q n i m=>some (.cut (at_ Tryz.f17 13) (PX q n i m))) (fun l n m i=>some (.cut (at_ Tryz.f17 20) (PW l n m i))) (fun l n m i a b c d w u j=>some (.cut (at_ Tryz.f17 23) (PV l n m i a b c d w u j))) q n i m) (by kernel_rfl) ?_
  exact (gS h (fun _ h=>(gS h (fun _ h=>(gS h (fun _ h=>(gS h (fun _ h=>gR (by cases h;rfl)) (fun _ h=>gC (t17_7 k _ _ _ _ r h)))) gN)) gN)) (fun _ h=>gC (pN k _ _ _ _ r h)))
theorem pN:∀ (k:Nat) (q:List Pt) (n:Int) (i:Int) (m:Int) (r:Int),JG k q n i m=some r→AX Tryz.prog Tryz.f17.results.toList (at_ Tryz.f17 13) (PX q n i m) (F.int .i64 r)
 | 0,_,_,_,_,_,h=>nomatch h
 | k+1,q,n,i,m,r,h=>by
  refine AX.of_cut Au Jl (T:=[(7,[1,3,27,28,29],1000),(13,[1,3,38,39,40],1000),(20,[3,8,54,55,56],1000),(23,[3,8,9,10,54,55,56,63,64,65],1000)]) (n:=200) ?_
  refine gE (Y:=XU (fun r=>some (.ret (F.int .i64 r))) (fun q n i m=>some (.cut (at_ Tryz.f17 7) (Vw q n i m))) (fun q n i m=>some (.cut (at_ Tryz.f17 13) (PX q n i m))) (fun l n m i=>some (.cut (at_ Tryz.f17 20) (PW l n m i))) (fun l n m i a b c d w u j=>some (.cut (at_ Tryz.f17 23) (PV l n m i a b c d w u j))) q n i m) (by kernel_rfl) ?_
  exact (gS h (fun _ h=>(gS h (fun _ h=>(gS h (fun _ h=>(gS h (fun _ h=>(gS h (fun _ h=>(gS h (fun _ h=>(gS h (fun _ h=>gR (by cases h;rfl)) (fun _ h=>gC (pN k _ _ _ _ r h)))) gN)) gN)) gN)) gN)) gN)) (fun _ h=>(gS h (fun _ h=>gC (pM k _ _ _ _ r h)) gN)))
theorem pM:∀ (k:Nat) (l:List Sg) (n:Int) (m:Int) (i:Int) (r:Int),Ih k l n m i=some r→AX Tryz.prog Tryz.f17.results.toList (at_ Tryz.f17 20) (PW l n m i) (F.int .i64 r)
 | 0,_,_,_,_,_,h=>nomatch h
 | k+1,l,n,m,i,r,h=>by
  refine AX.of_cut Au Jl (T:=[(7,[1,3,27,28,29],1000),(13,[1,3,38,39,40],1000),(20,[3,8,54,55,56],1000),(23,[3,8,9,10,54,55,56,63,64,65],1000)]) (n:=200) ?_
  refine gE (Y:=XT (fun r=>some (.ret (F.int .i64 r))) (fun q n i m=>some (.cut (at_ Tryz.f17 7) (Vw q n i m))) (fun q n i m=>some (.cut (at_ Tryz.f17 13) (PX q n i m))) (fun l n m i=>some (.cut (at_ Tryz.f17 20) (PW l n m i))) (fun l n m i a b c d w u j=>some (.cut (at_ Tryz.f17 23) (PV l n m i a b c d w u j))) l n m i) (by kernel_rfl) ?_
  exact (gS h (fun _ h=>(gS h (fun _ h=>(gS h (fun _ h=>(gS h (fun _ h=>(gS h (fun _ h=>gC (Og k _ _ _ _ _ _ _ _ _ _ _ r h)) gN)) gN)) gN)) gN)) (fun _ h=>gR (by cases h;rfl)))
theorem Og:∀ (k:Nat) (l:List Sg) (n:Int) (m:Int) (i:Int) (a:Int) (b:Int) (c:Int) (d:Int) (w:Nat) (u:Int) (j:Int) (r:Int),Km k l n m i a b c d w u j=some r→AX Tryz.prog Tryz.f17.results.toList (at_ Tryz.f17 23) (PV l n m i a b c d w u j) (F.int .i64 r)
 | 0,_,_,_,_,_,_,_,_,_,_,_,_,h=>nomatch h
 | k+1,l,n,m,i,a,b,c,d,w,u,j,r,h=>by
  refine AX.of_cut Au Jl (T:=[(7,[1,3,27,28,29],1000),(13,[1,3,38,39,40],1000),(20,[3,8,54,55,56],1000),(23,[3,8,9,10,54,55,56,63,64,65],1000)]) (n:=200) ?_
  refine gE (Y:=XS (fun r=>some (.ret (F.int .i64 r))) (fun q n i m=>some (.cut (at_ Tryz.f17 7) (Vw q n i m))) (fun q n i m=>some (.cut (at_ Tryz.f17 13) (PX q n i m))) (fun l n m i=>some (.cut (at_ Tryz.f17 20) (PW l n m i))) (fun l n m i a b c d w u j=>some (.cut (at_ Tryz.f17 23) (PV l n m i a b c d w u j))) l n m i a b c d w u j) (by kernel_rfl) ?_
  exact (gS h (fun _ h=>(gS h (fun _ h=>(gS h (fun _ h=>(gS h (fun _ h=>(gS h (fun _ h=>(gS h (fun _ h=>(gS h (fun _ h=>(gS h (fun _ h=>(gS h (fun _ h=>gR (by cases h;rfl)) (fun _ h=>gC (Og k _ _ _ _ _ _ _ _ _ _ _ r h)))) (fun _ h=>gC (Og k _ _ _ _ _ _ _ _ _ _ _ r h)))) (fun _ h=>gR (by cases h;rfl)))) (fun _ h=>(gS h (fun _ h=>(gS h (fun _ h=>gR (by cases h;rfl)) (fun _ h=>gC (Og k _ _ _ _ _ _ _ _ _ _ _ r h)))) (fun _ h=>gR (by cases h;rfl)))))) (fun _ h=>(gS h (fun _ h=>(gS h (fun _ h=>gC (Og k _ _ _ _ _ _ _ _ _ _ _ r h)) (fun _ h=>gC (Og k _ _ _ _ _ _ _ _ _ _ _ r h)))) (fun _ h=>gR (by cases h;rfl)))))) gN)) gN)) gN)) (fun _ h=>gC (pM k _ _ _ _ r h)))
end
theorem t17 (k:Nat) (q:List Pt) (r:Int) (h:G17 k q=some r):AX Tryz.prog Tryz.f17.results.toList [.code (AT Tryz.f17)] (start Tryz.f17.ntmps ([F.agg [Ac q]].map .f)) (F.int .i64 r):=by
 refine AX.of_run Au Jl (T:=[(7,[1,3,27,28,29],1000),(13,[1,3,38,39,40],1000),(20,[3,8,54,55,56],1000),(23,[3,8,9,10,54,55,56,63,64,65],1000)]) (n:=200) ?_
 refine gE (Y:=T17 (fun r=>some (.ret (F.int .i64 r))) (fun q n i m=>some (.cut (at_ Tryz.f17 7) (Vw q n i m))) (fun q n i m=>some (.cut (at_ Tryz.f17 13) (PX q n i m))) (fun l n m i=>some (.cut (at_ Tryz.f17 20) (PW l n m i))) (fun l n m i a b c d w u j=>some (.cut (at_ Tryz.f17 23) (PV l n m i a b c d w u j))) q) (by kernel_rfl) ?_
 exact (gS h (fun _ h=>gR (by cases h;rfl)) (fun _ h=>(gS h (fun _ h=>gR (by cases h;rfl)) (fun _ h=>gC (t17_7 k _ _ _ _ r h)))))
theorem tR {q:List Pt} {i:Nat} (hi:i≤q.length):dU (q.take i) (q.getD i .zero).x (q.getD i .zero).y = !DJ (fun j=>!Bl q i j) 0 i:=by
 have hg:∀ {j:Nat} (h:j<q.length),q.getD j .zero=q[j]:=fun h=>by simp [List.getD,List.getElem?_eq_getElem h]
 cases h:DJ (fun j=>!Bl q i j) 0 i with
 | true =>
  rw [Bool.not_true,← Bool.not_eq_true]
  intro hh
  unfold dU at hh
  obtain ⟨p,hp,e⟩:=List.any_eq_true.1 hh
  obtain ⟨j,hj,rfl⟩:=List.mem_take_iff_getElem.1 hp
  have:=(El _ _ _).1 h j (by omega) (by omega)
  have e2:Bl q i j=true:=by
   unfold Bl
   rw [hg (show j<q.length by omega)]
   exact e
  simp only [e2] at this
  cases this
 | false =>
  rw [Bool.not_false]
  refine Classical.byContradiction fun hn=>absurd h ?_
  rw [Bool.not_eq_false,El]
  intro j _ hj
  cases hs:Bl q i j with
  | false=>rfl
  | true =>
   refine absurd ?_ hn
   unfold dU
   rw [List.any_eq_true]
   refine ⟨q[j],List.mem_take_iff_getElem.2 ⟨j,by omega,rfl⟩,?_⟩
   unfold Bl at hs
   rw [hg (show j<q.length by omega)] at hs
   exact hs
theorem VO {q:List Pt} (h:RingIn q) {i:Nat} (hi:i<q.length) {R:Int} {K:Nat} (hout:∀ k,K≤k→Ih k (Cp q) q.length q.length ((i+1:Nat):Int)=some R) :
  ∀ (d j k:Nat),j+d=i→d+1+K≤k→Km k (Cp q) q.length q.length i (AO q i).x0 (AO q i).y0 (AO q i).x1 (AO q i).y1 i ((i:Nat):Int) j=some (bif DJ (fun j=>!Ib q i j) j d then R else 5)
 | d,j,0,_,hk=>by omega
 | 0,j,k+1,hj,hk=>by
  have:=h.high
  rw [Km]
  unfold XS
  rw [decide_eq_false (show ¬ (j:Int)<i by omega),AJ,As (by omega) (by omega),show (i:Int)+1=((i+1:Nat):Int) by omega,hout k (by omega)]
  rfl
 | d+1,j,k+1,hj,hk=>by
  have hh:=h.high
  have ih:=VO h hi hout d (j+1) k (by omega) (by omega)
  have wj:IntKind.i64.wrap ((j:Int)+1)=((j+1:Nat):Int):=by rw [As (by omega) (by omega)];omega
  have si:=Dj h hi
  have sj:=Dj h (show j<q.length by omega)
  unfold okS at si sj
  obtain ⟨n1,n2,n3⟩:=iP h.high hi (show j<i by omega)
  have hc:Ib q i j=badI (EA (AO q i).x0 (AO q i).y0 (AO q i).x1 (AO q i).y1 (AO q j).x0 (AO q j).y0 (AO q j).x1 (AO q j).y1) (decide (j+1=i) || (decide (j=0)&&decide (i+1=q.length))):=rfl
  rw [Km]
  unfold XS
  simp only [decide_eq_true (show (j:Int)<i by omega),decide_eq_true (show (0:Int)≤j by omega),Int.toNat_natCast,Nat.zero_add,HN q (show j<q.length by omega),si,sj,n1,n2,n3,wj,ih,Bool.and_self,AH]
  rw [Em,hc]
  unfold badI
  cases decide (j+1=i) <;> cases decide (j=0) <;> cases decide (i+1=q.length) <;> cases (EA (AO q i).x0 (AO q i).y0 (AO q i).x1 (AO q i).y1 (AO q j).x0 (AO q j).y0 (AO q j).x1 (AO q j).y1==1) <;> cases (EA (AO q i).x0 (AO q i).y0 (AO q i).x1 (AO q i).y1 (AO q j).x0 (AO q j).y0 (AO q j).x1 (AO q j).y1==2) <;> rfl
theorem VP {q:List Pt} (h:RingIn q):∀ (d i k:Nat),i+d=q.length→15*d+1≤k→Ih k (Cp q) q.length q.length i=some (bif BI (Ib q) i d then 0 else 5)
 | d,i,0,_,hk=>by omega
 | 0,i,k+1,hi,hk=>by
  rw [Ih]
  unfold XT
  rw [decide_eq_false (show ¬ (i:Int)<q.length by omega)]
  rfl
 | d+1,i,k+1,hi,hk=>by
  have:=h.high
  have ih:=VO h (i:=i) (by omega) (K:=15*d+1) (fun k hk=>VP h d (i+1) k (by omega) hk) i 0 k (by omega) (by omega)
  rw [Ih]
  unfold XT
  simp only [GI,decide_eq_true (show (i:Int)<q.length by omega),decide_eq_true (show (0:Int)≤i by omega),decide_eq_true (show (i:Int)≤q.length by omega),Int.toNat_natCast,Int.toNat_zero,Nat.sub_zero,HN q (show i<q.length by omega),AH]
  refine ih.trans ?_
  unfold BI
  rw [Em]
  cases DJ (fun j=>!Ib q i j) 0 i <;> rfl
theorem VQ {q:List Pt} (hn:q.length≤12) {R:Int} {K:Nat} (hout:BI (Bl q) 0 q.length=true→∀ k,K≤k→Ih k (Cp q) q.length q.length 0=some R) :
  ∀ (d i k:Nat),i+d=q.length→d+1+K≤k→(BI (Bl q) i d=true→BI (Bl q) 0 q.length=true)→JG k q q.length i q.length=some (bif BI (Bl q) i d then R else 4)
 | d,i,0,_,hk,_=>by omega
 | 0,i,k+1,hi,hk,he=>by
  rw [JG]
  unfold XU
  simp only [decide_eq_false (show ¬ (i:Int)<q.length by omega),AJ,Ba,BH,Gb,decide_eq_true (show q.length≤1000 by omega),Bool.and_self,AH,GI]
  rw [hout (he rfl) k (by omega)]
  rfl
 | d+1,i,k+1,hi,hk,he=>by
  have cut:BI (Bl q) i (d+1)=(DJ (fun j=>!Bl q i j) 0 i&&BI (Bl q) (i+1) d):=rfl
  have wi:IntKind.i64.wrap ((i:Int)+1)=((i+1:Nat):Int):=by rw [As (by omega) (by omega)];omega
  obtain ⟨u1,u2⟩:=bR q i (by omega)
  have hlen:Gb (q.take i)=true:=decide_eq_true (by rw [List.length_take];omega)
  rw [JG]
  unfold XU
  simp only [decide_eq_true (show (i:Int)<q.length by omega),decide_eq_true (show (0:Int)≤i by omega),decide_eq_true (show (i:Int)≤q.length by omega),Int.toNat_natCast,Int.toNat_zero,Nat.sub_zero,Nat.zero_add,u1,u2,hlen,wi,tR (show i≤q.length by omega),Bool.and_self,AH]
  rw [cut] at he ⊢
  cases hc:DJ (fun j=>!Bl q i j) 0 i with
  | false=>rfl
  | true =>
   rw [Bool.not_true,AJ,VQ hn hout d (i+1) k (by omega) (by omega) fun ht=>he (by rw [hc,ht];rfl)]
   rfl
theorem ZQ {q:List Pt} (hn:q.length≤12) {R:Int} {K:Nat} (hout:(q.all fun p=>By p.x p.y)=true→∀ k,K≤k→JG k q q.length 0 q.length=some R) :
  ∀ (d i k:Nat),i+d=q.length→d+1+K≤k→((q.drop i).all (fun p=>By p.x p.y)=true→(q.all fun p=>By p.x p.y)=true)→OW k q q.length i q.length=some (bif (q.drop i).all fun p=>By p.x p.y then R else 3)
 | d,i,0,_,hk,_=>by omega
 | 0,i,k+1,hi,hk,he=>by
  rw [List.drop_eq_nil_of_le (by omega)] at he ⊢
  rw [OW]
  unfold kJ
  rw [decide_eq_false (show ¬ (i:Int)<q.length by omega),AJ,hout (he rfl) k (by omega)]
  rfl
 | d+1,i,k+1,hi,hk,he=>by
  have hlt:i<q.length:=by omega
  have hg:q.getD i Pt.zero=q[i]:=by simp [List.getD,List.getElem?_eq_getElem hlt]
  rw [List.drop_eq_getElem_cons hlt,List.all_cons] at he ⊢
  rw [OW]
  unfold kJ
  rw [decide_eq_true (show (i:Int)<q.length by omega),decide_eq_true (show (0:Int)≤i by omega),Int.toNat_natCast,hg,As (by omega) (by omega),show (i:Int)+1=((i+1:Nat):Int) by omega]
  simp only [AH]
  cases ho:By q[i].x q[i].y with
  | false=>rfl
  | true =>
   rw [Bool.not_true,AJ,ZQ hn hout d (i+1) k (by omega) (by omega) fun ht=>he (by rw [ho,ht];rfl)]
   rfl
theorem dW (q:List Pt):G17 600 q=some (OC q):=by
 unfold G17 T17 OC It
 by_cases h1:q.length<3
 ·rw [decide_eq_true (show (q.length:Int)<3 by omega),decide_eq_true h1];rfl
 ·by_cases h2:q.length > 12
  ·rw [decide_eq_false (show ¬ (q.length:Int)<3 by omega),decide_eq_false h1,decide_eq_true (show (q.length:Int) > 12 by omega),decide_eq_true h2];rfl
  ·rw [decide_eq_false (show ¬ (q.length:Int)<3 by omega),decide_eq_false h1,decide_eq_false (show ¬ (q.length:Int) > 12 by omega),decide_eq_false h2]
   have:=ZQ (q:=q) (by omega) (R:=bif BI (Bl q) 0 q.length then (bif BI (Ib q) 0 q.length then 0 else 5) else 4) (K:=400) (fun h3 k hk=>VQ (by omega) (R:=bif BI (Ib q) 0 q.length then 0 else 5) (K:=190) (fun h4 k hk=>VP (MC h1 h2 h3 h4) q.length 0 k (by omega) (by omega)) q.length 0 k (by omega) (by omega) id) q.length 0 600 (by omega) (by omega) id
   refine this.trans ?_
   rw [List.drop_zero]
   cases (q.all fun p=>By p.x p.y) <;> cases BI (Bl q) 0 q.length <;> cases BI (Ib q) 0 q.length <;> rfl
/-! Both tell the same. -/
theorem on_ends {s:Sg} (h:LC s):onS s ⟨s.x0,s.y0⟩∧onS s ⟨s.x1,s.y1⟩:=by
 unfold LC BP at h
 unfold onS RT AK C8
 dsimp only
 refine ⟨⟨by simp,by omega,by omega⟩,⟨?_,by omega,by omega⟩⟩
 show (s.x1-s.x0)*(s.y1-s.y0)-(s.y1-s.y0)*(s.x1-s.x0)=0
 rw [Int.mul_comm]
 omega
theorem iR {a b:Pt} (h:a ≠ b):onS (GL a b) b∧onS (GL a b) a:=by
 have:=on_ends (JY h)
 rcases JZ a b h with ⟨h1,h2⟩ | ⟨h1,h2⟩ <;> rw [h2] at this ⊢
 ·exact ⟨this.2,this.1⟩
 ·exact ⟨this.1,this.2⟩
theorem mB {q:List Pt} (h:RingIn q) {i j:Nat} (hi:i<q.length) (hj:j<i) (hn:IG q.length i j=true):Pr (AO q i) (AO q j):=by
 have hl:=h.low
 obtain ⟨e1,e2⟩:=Ir hi hl
 obtain ⟨f1,f2⟩:=Ir (show j<q.length by omega) hl
 have ni:=Gp h hi e2 (fun e=>e1 e.symm)
 have nj:=Gp h (show j<q.length by omega) f2 (fun e=>f1 e.symm)
 unfold IG at hn
 simp only [Bool.or_eq_true,Bool.and_eq_true,decide_eq_true_eq] at hn
 rcases hn with hn | ⟨hn,hm⟩
 ·-- the end of j is the beginning of i
  have ej:(j+1) % q.length=i:=by rw [hn,Nat.mod_eq_of_lt hi]
  refine (IM (JY nj) (JY ni)).1 (Wn ni (JY nj) ?_)
  rw [ej]
  rw [ej] at nj
  exact (iR nj).1
 ·-- the end of i is the beginning of j
  have ei:(i+1) % q.length=j:=by rw [hm,Nat.mod_self,hn]
  refine Wn nj (JY ni) ?_
  unfold AO
  rw [ei]
  rw [ei] at ni
  exact (iR ni).1
theorem eM {q:List Pt} (h:RingIn q) {i j:Nat} (hi:i<q.length) (hj:j<i):Ib q i j=Es q i j:=by
 have si:=Dj h hi
 have sj:=Dj h (show j<q.length by omega)
 have hr:=tG si sj
 unfold Ib Es
 rw [kI_3 si sj]
 unfold badI nX
 cases hn:IG q.length i j with
 | false =>
  rcases hr with e | e | e <;> rw [e] <;> rfl
 | true =>
  have hm:k3 (AO q i) (AO q j) ≠ 0:=(Jc si sj).2.1.2 (mB h hi hj hn)
  rcases hr with e | e | e
  ·exact absurd e hm
  ·rw [e];rfl
  ·rw [e];rfl
theorem dV (q:List Pt):OC q=CK q:=by
 unfold OC CK It
 by_cases h1:q.length<3
 ·rw [decide_eq_true h1];rfl
 ·by_cases h2:q.length > 12
  ·rw [decide_eq_false h1,decide_eq_true h2];rfl
  ·rw [decide_eq_false h1,decide_eq_false h2]
   cases h3:(q.all fun p=>By p.x p.y) with
   | false=>rfl
   | true =>
    cases h4:BI (Bl q) 0 q.length with
    | false=>rfl
    | true =>
     have h:=MC h1 h2 h3 h4
     have e:BI (Ib q) 0 q.length=BI (Es q) 0 q.length:=by
      rw [Bool.eq_iff_iff,QP,QP]
      exact forall_congr' fun i=>forall_congr' fun hi=>forall_congr' fun j=>forall_congr' fun hj=>by rw [eM h hi hj]
     rw [e]
def To:List F→F | [x]=>.int .i64 (CK (AR x)) | _=>.dflt
theorem rZ:Ak Tryz.prog 17 Pm To :=
 Ad (c:=AT Tryz.f17) Tryz.func17 (by kernel_rfl) (by kernel_rfl) fun xs hp=>match xs,hp with
 | [x],hp=>⟨[CN (AR x)],_,⟨(CT hp).1,trivial⟩,t17 600 _ _ (dW _),by
   show FLe (.int .i64 (OC (AR x))) (.int .i64 (CK (AR x)))
   rw [dV]
   exact .refl _⟩
def envK3:Env:=envK2.add 17 (.pure Pm To)
theorem IU:Az Tryz.prog envK3:=(Env.add_ok Jl rZ.sp)
end
noncomputable section
set_option maxHeartbeats 1000000
def A3 (q:List Pt):Bool:=CK q==0
theorem CU {q:List Pt} (h:A3 q=true):RingIn q:=by
 unfold A3 CK It at h
 by_cases h1:q.length<3
 ·rw [decide_eq_true h1] at h;cases h
 ·by_cases h2:q.length > 12
  ·rw [decide_eq_false h1,decide_eq_true h2] at h;cases h
  ·rw [decide_eq_false h1,decide_eq_false h2] at h
   cases h3:(q.all fun p=>By p.x p.y) with
   | false=>rw [h3] at h;cases h
   | true =>
    cases h4:BI (Bl q) 0 q.length with
    | false=>rw [h3,h4] at h;cases h
    | true=>exact MC h1 h2 h3 h4
def Ea (q p:List Pt) (i j:Nat):Bool:=k3 (AO q i) (AO p j) != 0
def Cy (q p:List Pt):Bool:=!gA (Ea q p) p.length q.length
/-! ### function 55 -/
def kR (q:List Pt) (p:List Pt) (i:Int):St:=⟨Al 2 ((U.hp 0 0) :: (U.hp 1 0) :: Al 1 ((U.f (F.int .i64 i)) :: Al 31 [])),[HO.box [(U.f (Ac q))],HO.box [(U.f (Ac p))]]⟩
def kQ (q:List Pt) (p:List Pt) (i:Int) (j:Int):St:=⟨Al 2 ((U.hp 0 0) :: (U.hp 1 0) :: Al 1 ((U.f (F.int .i64 i)) :: (U.f (F.int .i64 j)) :: Al 30 [])),[HO.box [(U.f (Ac q))],HO.box [(U.f (Ac p))]]⟩
abbrev OX (ρ:Type):=(Bool)→Option ρ
abbrev xP (ρ:Type):=(List Pt)→(List Pt)→(Int)→(Int)→Option ρ
def jT {ρ:Type} (ret:OX ρ) (c2:(List Pt)→(List Pt)→(Int)→Option ρ) (c5:xP ρ) (q:List Pt) (p:List Pt) (i:Int):Option ρ :=
 (AD (decide (i<(↑q.length:Int)))
 (c5 (q) (p) (i) (0))
 (ret (false)))
def jS {ρ:Type} (ret:OX ρ) (c2:(List Pt)→(List Pt)→(Int)→Option ρ) (c5:xP ρ) (q:List Pt) (p:List Pt) (i:Int) (j:Int):Option ρ :=
 (AD (decide (j<(↑p.length:Int)))
 (AD (BJ (F.agg [Ac q])&&S7 (AR (F.agg [Ac q])) i)
 (AD (BJ (F.agg [Ac p])&&S7 (AR (F.agg [Ac p])) j)
 (AD (Df (AO (AR (F.agg [Ac q])) i.toNat).x0 (AO (AR (F.agg [Ac q])) i.toNat).y0 (AO (AR (F.agg [Ac q])) i.toNat).x1 (AO (AR (F.agg [Ac q])) i.toNat).y1&&Df (AO (AR (F.agg [Ac p])) j.toNat).x0 (AO (AR (F.agg [Ac p])) j.toNat).y0 (AO (AR (F.agg [Ac p])) j.toNat).x1 (AO (AR (F.agg [Ac p])) j.toNat).y1)
 (AD (EB (AO (AR (F.agg [Ac q])) i.toNat).x0 (AO (AR (F.agg [Ac q])) i.toNat).y0 (AO (AR (F.agg [Ac q])) i.toNat).x1 (AO (AR (F.agg [Ac q])) i.toNat).y1 (AO (AR (F.agg [Ac p])) j.toNat).x0 (AO (AR (F.agg [Ac p])) j.toNat).y0 (AO (AR (F.agg [Ac p])) j.toNat).x1 (AO (AR (F.agg [Ac p])) j.toNat).y1 != 0)
 (ret (true))
 (c5 (q) (p) (i) (IntKind.i64.wrap (j+1))))
 none)
 none)
 none)
 (c2 (q) (p) (IntKind.i64.wrap (i+1))))
mutual
def P8:Nat→(List Pt)→(List Pt)→(Int)→Option (Bool)
 | 0,_,_,_=>none
 | k+1,q,p,i=>jT some (P8 k) (Sn k) q p i
def Sn:Nat→(List Pt)→(List Pt)→(Int)→(Int)→Option (Bool)
 | 0,_,_,_,_=>none
 | k+1,q,p,i,j=>jS some (P8 k) (Sn k) q p i j
end
def T55 {ρ:Type} (ret:OX ρ) (c2:(List Pt)→(List Pt)→(Int)→Option ρ) (c5:xP ρ) (q:List Pt) (p:List Pt):Option ρ :=
 (c2 (q) (p) (0))
def G55 (k:Nat) (q:List Pt) (p:List Pt):Option (Bool):=T55 some (P8 k) (Sn k) q p
mutual
theorem t55_2:∀ (k:Nat) (q:List Pt) (p:List Pt) (i:Int) (res:Bool),P8 k q p i=some res→AX Tryz.prog Tryz.f55.results.toList (at_ Tryz.f55 2) (kR q p i) (F.bool res)
 | 0,_,_,_,_,h=>nomatch h
 | k+1,q,p,i,res,h=>by
  refine AX.of_cut Au IU (T:=[(2,[2,3,5],1000),(5,[2,3,5,6],1000)]) (n:=200) ?_
  refine gE (Y:=jT (fun res=>some (.ret (F.bool res))) (fun q p i=>some (.cut (at_ Tryz.f55 2) (kR q p i))) (fun q p i j=>some (.cut (at_ Tryz.f55 5) (kQ q p i j))) q p i) (by kernel_rfl) ?_
  exact (gS h (fun _ h=>gC (t55_5 k _ _ _ _ res h)) (fun _ h=>gR (by cases h;rfl)))
theorem t55_5:∀ (k:Nat) (q:List Pt) (p:List Pt) (i:Int) (j:Int) (res:Bool),Sn k q p i j=some res→AX Tryz.prog Tryz.f55.results.toList (at_ Tryz.f55 5) (kQ q p i j) (F.bool res)
 | 0,_,_,_,_,_,h=>nomatch h
 | k+1,q,p,i,j,res,h=>by
  refine AX.of_cut Au IU (T:=[(2,[2,3,5],1000),(5,[2,3,5,6],1000)]) (n:=200) ?_
  refine gE (Y:=jS (fun res=>some (.ret (F.bool res))) (fun q p i=>some (.cut (at_ Tryz.f55 2) (kR q p i))) (fun q p i j=>some (.cut (at_ Tryz.f55 5) (kQ q p i j))) q p i j) (by kernel_rfl) ?_
  exact (gS h (fun _ h=>(gS h (fun _ h=>(gS h (fun _ h=>(gS h (fun _ h=>(gS h (fun _ h=>gR (by cases h;rfl)) (fun _ h=>gC (t55_5 k _ _ _ _ res h)))) gN)) gN)) gN)) (fun _ h=>gC (t55_2 k _ _ _ res h)))
end
theorem t55 (k:Nat) (q:List Pt) (p:List Pt) (res:Bool) (h:G55 k q p=some res):AX Tryz.prog Tryz.f55.results.toList [.code (AT Tryz.f55)] (start Tryz.f55.ntmps ([F.agg [Ac q],F.agg [Ac p]].map .f)) (F.bool res):=by
 refine AX.of_run Au IU (T:=[(2,[2,3,5],1000),(5,[2,3,5,6],1000)]) (n:=200) ?_
 refine gE (Y:=T55 (fun res=>some (.ret (F.bool res))) (fun q p i=>some (.cut (at_ Tryz.f55 2) (kR q p i))) (fun q p i j=>some (.cut (at_ Tryz.f55 5) (kQ q p i j))) q p) (by kernel_rfl) ?_
 exact gC (t55_2 k _ _ _ res h)
theorem X9 {q p:List Pt} (hq:RingIn q) (hp:RingIn p) {i:Nat} (hi:i<q.length) {R:Bool} {K:Nat} (hout:∀ k,K≤k→P8 k q p ((i+1:Nat):Int)=some R) :
  ∀ (d j k:Nat),j+d=p.length→d+1+K≤k→Sn k q p i j=some (bif DJ (fun j=>!Ea q p i j) j d then R else true)
 | d,j,0,_,hk=>by omega
 | 0,j,k+1,hj,hk=>by
  have:=hq.high
  rw [Sn]
  unfold jS
  rw [decide_eq_false (show ¬ (j:Int)<p.length by omega),AJ,As (by omega) (by omega),show (i:Int)+1=((i+1:Nat):Int) by omega,hout k (by omega)]
  rfl
 | d+1,j,k+1,hj,hk=>by
  have h1:=hq.high
  have h2:=hp.high
  have ih:=X9 hq hp hi hout d (j+1) k (by omega) (by omega)
  have wj:IntKind.i64.wrap ((j:Int)+1)=((j+1:Nat):Int):=by rw [As (by omega) (by omega)];omega
  have si:=Dj hq hi
  have sj:=Dj hp (show j<p.length by omega)
  unfold okS at si sj
  have hc:Ea q p i j=(EB (AO q i).x0 (AO q i).y0 (AO q i).x1 (AO q i).y1 (AO p j).x0 (AO p j).y0 (AO p j).x1 (AO p j).y1 != 0):=rfl
  rw [Sn]
  unfold jS
  simp only [decide_eq_true (show (j:Int)<p.length by omega),Ba,BH,LT.2 ⟨⟨show (0:Int)≤i by omega,show (i:Int)<q.length by omega⟩,show q.length≤1000 by omega⟩,LT.2 ⟨⟨show (0:Int)≤j by omega,show (j:Int)<p.length by omega⟩,show p.length≤1000 by omega⟩,Int.toNat_natCast,si,sj,wj,ih,Bool.and_self,AH]
  rw [Em,hc]
  cases (EB (AO q i).x0 (AO q i).y0 (AO q i).x1 (AO q i).y1 (AO p j).x0 (AO p j).y0 (AO p j).x1 (AO p j).y1 != 0) <;> rfl
theorem YA {q p:List Pt} (hq:RingIn q) (hp:RingIn p):∀ (d i k:Nat),i+d=q.length→15*d+1≤k→P8 k q p i=some (!DJ (fun i=>DJ (fun j=>!Ea q p i j) 0 p.length) i d)
 | d,i,0,_,hk=>by omega
 | 0,i,k+1,hi,hk=>by
  rw [P8]
  unfold jT
  rw [decide_eq_false (show ¬ (i:Int)<q.length by omega)]
  rfl
 | d+1,i,k+1,hi,hk=>by
  have:=hp.high
  have ih:=X9 hq hp (i:=i) (by omega) (K:=15*d+1) (fun k hk=>YA hq hp d (i+1) k (by omega) hk) p.length 0 k (by omega) (by omega)
  rw [P8]
  unfold jT
  rw [decide_eq_true (show (i:Int)<q.length by omega),AH]
  refine ih.trans ?_
  rw [Em]
  cases DJ (fun j=>!Ea q p i j) 0 p.length <;> rfl
def GT:List F→Bool | [x,y]=>BJ x&&BJ y&&(A3 (AR x)&&A3 (AR y)) | _=>false
def Nk:List F→F | [x,y]=>.bool (Cy (AR x) (AR y)) | _=>.dflt
theorem rU:Ak Tryz.prog 55 GT Nk :=
 Ad (c:=AT Tryz.f55) Tryz.func55 (by kernel_rfl) (by kernel_rfl) fun xs hp=>match xs,hp with
 | [x,y],hp=>by
  simp only [GT,Bool.and_eq_true] at hp
  have hx:=CU hp.2.1
  have:=hx.high
  exact ⟨[CN (AR x),CN (AR y)],_,⟨(CT hp.1.1).1,(CT hp.1.2).1,trivial⟩,t55 400 _ _ _ (YA hx (CU hp.2.2) (AR x).length 0 400 (by omega) (by omega)),.refl _⟩
/-! ### function 20 -/
def kV (p:List Pt) (l:List Sg) (n:Int) (i:Int):St:=⟨Al 3 ((U.hp 0 0) :: Al 9 ((U.f (Mc l)) :: (U.f (F.int .i64 n)) :: (U.f (F.int .i64 i)) :: Al 21 [])),[HO.box [(U.f (Ac p))]]⟩
def kU (p:List Pt) (l:List Sg) (n:Int) (i:Int) (a:Int) (b:Int) (c:Int) (d:Int) (m:List Sg) (u:Int) (j:Int):St:=⟨Al 3 ((U.hp 0 0) :: Al 2 ((U.hp 1 0) :: Al 6 ((U.f (Mc l)) :: (U.f (F.int .i64 n)) :: (U.f (F.int .i64 i)) :: Al 4 ((U.f (Mc m)) :: (U.f (F.int .i64 u)) :: (U.f (F.int .i64 j)) :: Al 14 [])))),[HO.box [(U.f (Ac p))],HO.box [(U.f (F.int .i64 a)),(U.f (F.int .i64 b)),(U.f (F.int .i64 c)),(U.f (F.int .i64 d))]]⟩
abbrev KJ85 (ρ:Type):=(List Pt)→(List Sg)→(Int)→(Int)→(Int)→(Int)→(Int)→(Int)→(List Sg)→(Int)→(Int)→Option ρ
abbrev xO (ρ:Type):=(List Pt)→(List Sg)→(Int)→(Int)→Option ρ
def kH {ρ:Type} (ret:OX ρ) (c2:xO ρ) (c5:KJ85 ρ) (p:List Pt) (l:List Sg) (n:Int) (i:Int):Option ρ :=
 (AD (decide (i<n))
 (AD (decide (0≤i))
 (AD (decide (i<(↑l.length:Int)))
 (AD (BJ (F.agg [Ac p])&&Gb (AR (F.agg [Ac p])))
 (c5 (p) (l) (n) (i) ((l.getD i.toNat Sg.zero).x0) ((l.getD i.toNat Sg.zero).y0) ((l.getD i.toNat Sg.zero).x1) ((l.getD i.toNat Sg.zero).y1) (Cp (AR (F.agg [Ac p]))) ((↑(Cp (AR (F.agg [Ac p]))).length:Int)) (0))
 none)
 none)
 none)
 (ret (false)))
def kG {ρ:Type} (ret:OX ρ) (c2:xO ρ) (c5:KJ85 ρ) (p:List Pt) (l:List Sg) (n:Int) (i:Int) (a:Int) (b:Int) (c:Int) (d:Int) (m:List Sg) (u:Int) (j:Int):Option ρ :=
 (AD (decide (j<u))
 (AD (decide (0≤j))
 (AD (decide (j<(↑m.length:Int)))
 (AD (Df a b c d&&Df (m.getD j.toNat Sg.zero).x0 (m.getD j.toNat Sg.zero).y0 (m.getD j.toNat Sg.zero).x1 (m.getD j.toNat Sg.zero).y1)
 (AD (EA a b c d (m.getD j.toNat Sg.zero).x0 (m.getD j.toNat Sg.zero).y0 (m.getD j.toNat Sg.zero).x1 (m.getD j.toNat Sg.zero).y1 != 0)
 (ret (true))
 (c5 (p) (l) (n) (i) (a) (b) (c) (d) (m) (u) (IntKind.i64.wrap (j+1))))
 none)
 none)
 none)
 (c2 (p) (l) (n) (IntKind.i64.wrap (i+1))))
mutual
def QA:Nat→(List Pt)→(List Sg)→(Int)→(Int)→Option (Bool)
 | 0,_,_,_,_=>none
 | k+1,p,l,n,i=>kH some (QA k) (Sq k) p l n i
def Sq:Nat→(List Pt)→(List Sg)→(Int)→(Int)→(Int)→(Int)→(Int)→(Int)→(List Sg)→(Int)→(Int)→Option (Bool)
 | 0,_,_,_,_,_,_,_,_,_,_,_=>none
 | k+1,p,l,n,i,a,b,c,d,m,u,j=>kG some (QA k) (Sq k) p l n i a b c d m u j
end
def T20 {ρ:Type} (ret:OX ρ) (c2:xO ρ) (c5:KJ85 ρ) (q:List Pt) (p:List Pt):Option ρ :=
 (AD (BJ (F.agg [Ac q])&&Gb (AR (F.agg [Ac q])))
 (c2 (p) (Cp (AR (F.agg [Ac q]))) ((↑(Cp (AR (F.agg [Ac q]))).length:Int)) (0))
 none)
def G20 (k:Nat) (q:List Pt) (p:List Pt):Option (Bool):=T20 some (QA k) (Sq k) q p
mutual
theorem t20_2:∀ (k:Nat) (p:List Pt) (l:List Sg) (n:Int) (i:Int) (res:Bool),QA k p l n i=some res→AX Tryz.prog Tryz.f20.results.toList (at_ Tryz.f20 2) (kV p l n i) (F.bool res)
 | 0,_,_,_,_,_,h=>nomatch h
 | k+1,p,l,n,i,res,h=>by
  refine AX.of_cut Au IU (T:=[(2,[3,13,14,15],1000),(5,[3,6,13,14,15,20,21,22],1000)]) (n:=200) ?_
  refine gE (Y:=kH (fun res=>some (.ret (F.bool res))) (fun p l n i=>some (.cut (at_ Tryz.f20 2) (kV p l n i))) (fun p l n i a b c d m u j=>some (.cut (at_ Tryz.f20 5) (kU p l n i a b c d m u j))) p l n i) (by kernel_rfl) ?_
  exact (gS h (fun _ h=>(gS h (fun _ h=>(gS h (fun _ h=>(gS h (fun _ h=>gC (t20_5 k _ _ _ _ _ _ _ _ _ _ _ res h)) gN)) gN)) gN)) (fun _ h=>gR (by cases h;rfl)))
theorem t20_5:∀ (k:Nat) (p:List Pt) (l:List Sg) (n:Int) (i:Int) (a:Int) (b:Int) (c:Int) (d:Int) (m:List Sg) (u:Int) (j:Int) (res:Bool),Sq k p l n i a b c d m u j=some res→AX Tryz.prog Tryz.f20.results.toList (at_ Tryz.f20 5) (kU p l n i a b c d m u j) (F.bool res)
 | 0,_,_,_,_,_,_,_,_,_,_,_,_,h=>nomatch h
 | k+1,p,l,n,i,a,b,c,d,m,u,j,res,h=>by
  refine AX.of_cut Au IU (T:=[(2,[3,13,14,15],1000),(5,[3,6,13,14,15,20,21,22],1000)]) (n:=200) ?_
  refine gE (Y:=kG (fun res=>some (.ret (F.bool res))) (fun p l n i=>some (.cut (at_ Tryz.f20 2) (kV p l n i))) (fun p l n i a b c d m u j=>some (.cut (at_ Tryz.f20 5) (kU p l n i a b c d m u j))) p l n i a b c d m u j) (by kernel_rfl) ?_
  exact (gS h (fun _ h=>(gS h (fun _ h=>(gS h (fun _ h=>(gS h (fun _ h=>(gS h (fun _ h=>gR (by cases h;rfl)) (fun _ h=>gC (t20_5 k _ _ _ _ _ _ _ _ _ _ _ res h)))) gN)) gN)) gN)) (fun _ h=>gC (t20_2 k _ _ _ _ res h)))
end
theorem t20 (k:Nat) (q:List Pt) (p:List Pt) (res:Bool) (h:G20 k q p=some res):AX Tryz.prog Tryz.f20.results.toList [.code (AT Tryz.f20)] (start Tryz.f20.ntmps ([F.agg [Ac q],F.agg [Ac p]].map .f)) (F.bool res):=by
 refine AX.of_run Au IU (T:=[(2,[3,13,14,15],1000),(5,[3,6,13,14,15,20,21,22],1000)]) (n:=200) ?_
 refine gE (Y:=T20 (fun res=>some (.ret (F.bool res))) (fun p l n i=>some (.cut (at_ Tryz.f20 2) (kV p l n i))) (fun p l n i a b c d m u j=>some (.cut (at_ Tryz.f20 5) (kU p l n i a b c d m u j))) q p) (by kernel_rfl) ?_
 exact (gS h (fun _ h=>gC (t20_2 k _ _ _ _ res h)) gN)
theorem ZN {q p:List Pt} (hq:RingIn q) (hp:RingIn p) {i:Nat} (hi:i<q.length) {R:Bool} {K:Nat} (hout:∀ k,K≤k→QA k p (Cp q) q.length ((i+1:Nat):Int)=some R) :
  ∀ (d j k:Nat),j+d=p.length→d+1+K≤k→Sq k p (Cp q) q.length i (AO q i).x0 (AO q i).y0 (AO q i).x1 (AO q i).y1 (Cp p) p.length j=some (bif DJ (fun j=>!Ea q p i j) j d then R else true)
 | d,j,0,_,hk=>by omega
 | 0,j,k+1,hj,hk=>by
  have:=hq.high
  rw [Sq]
  unfold kG
  rw [decide_eq_false (show ¬ (j:Int)<p.length by omega),AJ,As (by omega) (by omega),show (i:Int)+1=((i+1:Nat):Int) by omega,hout k (by omega)]
  rfl
 | d+1,j,k+1,hj,hk=>by
  have h1:=hq.high
  have h2:=hp.high
  have ih:=ZN hq hp hi hout d (j+1) k (by omega) (by omega)
  have wj:IntKind.i64.wrap ((j:Int)+1)=((j+1:Nat):Int):=by rw [As (by omega) (by omega)];omega
  have hj':j<p.length:=by omega
  have si:=Dj hq hi
  have sj:=Dj hp hj'
  have hc:Ea q p i j=(EA (AO q i).x0 (AO q i).y0 (AO q i).x1 (AO q i).y1 (AO p j).x0 (AO p j).y0 (AO p j).x1 (AO p j).y1 != 0):=by
   unfold Ea
   rw [← kI_3 si sj]
   rfl
  unfold okS at si sj
  rw [Sq]
  unfold kG
  simp only [decide_eq_true (show (j:Int)<p.length by omega),decide_eq_true (show (0:Int)≤j by omega),GI,Int.toNat_natCast,HN p hj',si,sj,wj,ih,Bool.and_self,AH]
  rw [Em,hc]
  cases (EA (AO q i).x0 (AO q i).y0 (AO q i).x1 (AO q i).y1 (AO p j).x0 (AO p j).y0 (AO p j).x1 (AO p j).y1 != 0) <;> rfl
theorem ZO {q p:List Pt} (hq:RingIn q) (hp:RingIn p):∀ (d i k:Nat),i+d=q.length→15*d+1≤k→QA k p (Cp q) q.length i=some (!DJ (fun i=>DJ (fun j=>!Ea q p i j) 0 p.length) i d)
 | d,i,0,_,hk=>by omega
 | 0,i,k+1,hi,hk=>by
  rw [QA]
  unfold kH
  rw [decide_eq_false (show ¬ (i:Int)<q.length by omega)]
  rfl
 | d+1,i,k+1,hi,hk=>by
  have h1:=hp.high
  have h2:=hq.high
  have ih:=ZN hq hp (i:=i) (by omega) (K:=15*d+1) (fun k hk=>ZO hq hp d (i+1) k (by omega) hk) p.length 0 k (by omega) (by omega)
  rw [QA]
  unfold kH
  simp only [decide_eq_true (show (i:Int)<q.length by omega),decide_eq_true (show (0:Int)≤i by omega),GI,Ba,BH,Gb,decide_eq_true (show p.length≤1000 by omega),Int.toNat_natCast,HN q (show i<q.length by omega),Bool.and_self,AH]
  refine ih.trans ?_
  rw [Em]
  cases DJ (fun j=>!Ea q p i j) 0 p.length <;> rfl
theorem rT:Ak Tryz.prog 20 GT Nk :=
 Ad (c:=AT Tryz.f20) Tryz.func20 (by kernel_rfl) (by kernel_rfl) fun xs hp=>match xs,hp with
 | [x,y],hp=>by
  simp only [GT,Bool.and_eq_true] at hp
  have hx:=CU hp.2.1
  have hh:=hx.high
  exact ⟨[CN (AR x),CN (AR y)],_,⟨(CT hp.1.1).1,(CT hp.1.2).1,trivial⟩,t20 400 _ _ _ (by
   unfold G20 T20
   simp only [Ba,BH,Gb,decide_eq_true (show (AR x).length≤1000 by omega),Bool.and_self,AH,GI]
   exact ZO hx (CU hp.2.2) (AR x).length 0 400 (by omega) (by omega)),.refl _⟩
def envK4:Env:=(envK3.add 55 (.pure GT Nk)).add 20 (.pure GT Nk)
theorem Zt:Az Tryz.prog envK4:=(Env.add_ok (Env.add_ok IU rU.sp) rT.sp)
end
noncomputable section
/-! ### function 19 -/
def T19 {ρ:Type} (ret:OX ρ) (q:List Pt) (p:List Pt):Option ρ :=
 (AD (BJ (F.agg [Ac q])&&BJ (F.agg [Ac p])&&(A3 (AR (F.agg [Ac q]))&&A3 (AR (F.agg [Ac p]))))
 (ret (Cy (AR (F.agg [Ac q])) (AR (F.agg [Ac p]))))
 none)
def G19 (q:List Pt) (p:List Pt):Option (Bool):=T19 some q p
theorem t19 (q:List Pt) (p:List Pt) (res:Bool) (h:G19 q p=some res):Ct Tryz.prog 1 Tryz.f19.results.toList [.code (AT Tryz.f19)] (Cx Tryz.f19.ntmps [U.f (F.agg [Ac p]),U.hp 0 0] [HO.box [(U.f (Ac q))]]) (F.tup [F.bool res,F.agg [Ac q]]):=by
 refine AX.of_run Au Zt (T:=[]) (n:=200) ?_
 refine gE (Y:=T19 (fun res=>some (.ret (F.tup [F.bool res,F.agg [Ac q]]))) q p) (by kernel_rfl) ?_
 exact (gS h (fun _ h=>gR (by cases h;rfl)) gN)
def rF:List F→F→Bool | [y],x=>Da y&&BJ x&&(A3 (BS y)&&A3 (AR x)) | _,_=>false
def resCl:List F→F→F × List F | [y],x=>(.bool (Cy (BS y) (AR x)),[y]) | cs,_=>(.dflt,cs)
theorem okCl:Gk Tryz.prog 19 (.shared (OM PK rF) (Mm PK resCl)) :=
 PC (mk:=jF) (c:=AT Tryz.f19) Tryz.func19 (by kernel_rfl) (by kernel_rfl) nN (fun h=>wD h) fun cs x hp=>match cs,hp with
 | [y],hp=>by
  simp only [rF,Bool.and_eq_true] at hp
  obtain ⟨⟨h1,h2⟩,h3,h4⟩:=hp
  refine ⟨[Ac (BS y)],CN (AR x),_,_,⟨(Ee h1).1,trivial⟩,(CT h2).1,t19 (BS y) (AR x) _ (by
   unfold G19 T19
   rw [Ba,Ba,BH,BH,h3,h4]
   rfl),.refl _,⟨(Ee h1).2,trivial⟩⟩
def envK5:Env:=envK4.add 19 (.shared (OM PK rF) (Mm PK resCl))
theorem R6:Az Tryz.prog envK5:=(Env.add_ok Zt okCl)
end
noncomputable section
/-! ### function 35 -/
def xE (q:List Pt) (l:List (List Pt)) (n:Int) (i:Int):St:=⟨(U.f (At l)) :: (U.fn 19 [U.hp 0 0]) :: Al 5 ((U.f (F.int .i64 n)) :: (U.f (F.int .i64 i)) :: Al 10 []),[HO.box [(U.f (Ac q))]]⟩
def kC {ρ:Type} (ret:NQ ρ) (c2:(List Pt)→(List (List Pt))→(Int)→(Int)→Option ρ) (q:List Pt) (l:List (List Pt)) (n:Int) (i:Int):Option ρ :=
 (AD (decide (i<n))
 (AD (decide (0≤i))
 (AD (decide (i<(↑l.length:Int)))
 (AD (Da (Ac q)&&BJ (F.agg [Ac (l.getD i.toNat [])])&&(A3 (BS (Ac q))&&A3 (AR (F.agg [Ac (l.getD i.toNat [])]))))
 (AD (Cy (BS (Ac q)) (AR (F.agg [Ac (l.getD i.toNat [])])))
 (ret (i))
 (c2 (q) (l) (n) (IntKind.i64.wrap (i+1))))
 none)
 none)
 none)
 (ret (-1)))
def V6:Nat→(List Pt)→(List (List Pt))→(Int)→(Int)→Option (Int)
 | 0,_,_,_,_=>none
 | k+1,q,l,n,i=>kC some (V6 k) q l n i
def T35 {ρ:Type} (ret:NQ ρ) (c2:(List Pt)→(List (List Pt))→(Int)→(Int)→Option ρ) (q:List Pt) (l:List (List Pt)):Option ρ :=
 (c2 (q) (l) ((↑l.length:Int)) (0))
def G35 (k:Nat) (q:List Pt) (l:List (List Pt)):Option (Int):=T35 some (V6 k) q l
theorem t35_2:∀ (k:Nat) (q:List Pt) (l:List (List Pt)) (n:Int) (i:Int) (res:Int),V6 k q l n i=some res→Ct Tryz.prog 1 Tryz.f35.results.toList (at_ Tryz.f35 2) (xE q l n i) (F.tup [F.int .i64 res,F.agg [Ac q]])
 | 0,_,_,_,_,_,h=>nomatch h
 | k+1,q,l,n,i,res,h=>by
  refine AX.of_cut Au R6 (T:=[(2,[0,1,7,8],1000)]) (n:=200) ?_
  refine gE (Y:=kC (fun res=>some (.ret (F.tup [F.int .i64 res,F.agg [Ac q]]))) (fun q l n i=>some (.cut (at_ Tryz.f35 2) (xE q l n i))) q l n i) (by kernel_rfl) ?_
  exact (gS h (fun _ h=>(gS h (fun _ h=>(gS h (fun _ h=>(gS h (fun _ h=>(gS h (fun _ h=>gR (by cases h;rfl)) (fun _ h=>gC (t35_2 k _ _ _ _ res h)))) gN)) gN)) gN)) (fun _ h=>gR (by cases h;rfl)))
theorem t35 (k:Nat) (q:List Pt) (l:List (List Pt)) (res:Int) (h:G35 k q l=some res):Ct Tryz.prog 1 Tryz.f35.results.toList [.code (AT Tryz.f35)] (Cx Tryz.f35.ntmps [U.f (At l),(U.fn 19 [U.hp 0 0])] [HO.box [(U.f (Ac q))]]) (F.tup [F.int .i64 res,F.agg [Ac q]]):=by
 refine AX.of_run Au R6 (T:=[(2,[0,1,7,8],1000)]) (n:=200) ?_
 refine gE (Y:=T35 (fun res=>some (.ret (F.tup [F.int .i64 res,F.agg [Ac q]]))) (fun q l n i=>some (.cut (at_ Tryz.f35 2) (xE q l n i))) q l) (by kernel_rfl) ?_
 exact gC (t35_2 k _ _ _ _ res h)
def Rv (q:List Pt):List (List Pt)→Nat→Int
 | [],_=>-1
 | p :: r,i=>bif Cy q p then (i:Int) else Rv q r (i+1)
def Gh (q:List Pt) (l:List (List Pt)):Bool:=l.any (Cy q)
theorem iW (q:List Pt):∀ (l:List (List Pt)) (i:Nat),decide (Rv q l i ≥ 0)=Gh q l
 | [],i=>rfl
 | p :: r,i=>by
  unfold Gh Rv
  rw [List.any_cons]
  cases Cy q p with
  | true=>rw [cond_true,decide_eq_true (by omega)];rfl
  | false=>rw [cond_false,iW q r (i+1)];rfl
theorem ZS {q:List Pt} {l:List (List Pt)} (hn:l.length≤1000) (hq:A3 q=true) (hl:∀ p ∈ l,A3 p=true):∀ (d i k:Nat),i+d=l.length→d+1≤k→V6 k q l l.length i=some (Rv q (l.drop i) i)
 | d,i,0,_,hk=>by omega
 | 0,i,k+1,hi,hk=>by
  rw [V6]
  unfold kC
  rw [decide_eq_false (show ¬ (i:Int)<l.length by omega),List.drop_eq_nil_of_le (by omega)]
  rfl
 | d+1,i,k+1,hi,hk=>by
  have hlt:i<l.length:=by omega
  have hg:l.getD i []=l[i]:=by simp [List.getD,List.getElem?_eq_getElem hlt]
  have wi:IntKind.i64.wrap ((i:Int)+1)=((i+1:Nat):Int):=by rw [As (by omega) (by omega)];omega
  rw [V6]
  unfold kC
  rw [decide_eq_true (show (i:Int)<l.length by omega),decide_eq_true (show (0:Int)≤i by omega),Int.toNat_natCast,hg,wi,ZS hn hq hl d (i+1) k (by omega) (by omega),List.drop_eq_getElem_cons hlt,Rv,Ba,BH,G1,Gq,hq,hl _ (List.getElem_mem hlt)]
  simp only [AH,Bool.and_self]
  cases Cy q l[i] <;> rfl
def Jf (l:List (List Pt)):Bool:=l.all A3&&decide (l.length≤1000)
theorem N6 {l:List (List Pt)}:Jf l=true ↔ (∀ p ∈ l,A3 p=true)∧l.length≤1000:=by
 unfold Jf
 rw [Bool.and_eq_true,List.all_eq_true,decide_eq_true_eq]
def MJ:List F→F→Bool | [y],x=>Da y&&BR x&&(A3 (BS y)&&Jf (Ah x)) | _,_=>false
def gP:List F→F→F × List F | [y],x=>(.int .i64 (Rv (BS y) (Ah x) 0),[y]) | cs,_=>(.dflt,cs)
theorem okIdxF:Gk Tryz.prog 35 (.shared (OM (Ml 19) MJ) (Mm (Ml 19) gP)) :=
 PC (mk:=tX 19) (c:=AT Tryz.f35) Tryz.func35 (by kernel_rfl) (by kernel_rfl) (aG _) (fun h=>iY h) fun cs x hp=>match cs,hp with
 | [y],hp=>by
  simp only [MJ,Bool.and_eq_true] at hp
  obtain ⟨⟨h1,h2⟩,h3,h4⟩:=hp
  obtain ⟨h5,h6⟩:=N6.1 h4
  exact ⟨[Ac (BS y)],At (Ah x),_,_,⟨(Ee h1).1,trivial⟩,(DC h2).1,t35 2000 (BS y) (Ah x) _ (ZS h6 h3 h5 (Ah x).length 0 2000 (by omega) (by omega)),.refl _,⟨(Ee h1).2,trivial⟩⟩
def envK6:Env:=envK5.add 35 (.shared (OM (Ml 19) MJ) (Mm (Ml 19) gP))
theorem Zs:Az Tryz.prog envK6:=(Env.add_ok R6 okIdxF)
end
noncomputable section
/-! ### function 18 -/
def T18 {ρ:Type} (ret:OX ρ) (q:List Pt) (l:List (List Pt)):Option ρ :=
 (AD (Da (Ac q)&&BR (At l)&&(A3 (BS (Ac q))&&Jf (Ah (At l))))
 (ret (decide (Rv (BS (Ac q)) (Ah (At l)) 0 ≥ 0)))
 none)
def G18 (q:List Pt) (l:List (List Pt)):Option (Bool):=T18 some q l
theorem t18 (q:List Pt) (l:List (List Pt)) (res:Bool) (h:G18 q l=some res):Ct Tryz.prog 1 Tryz.f18.results.toList [.code (AT Tryz.f18)] (Cx Tryz.f18.ntmps [U.f (At l),(U.fn 19 [U.hp 0 0])] [HO.box [(U.f (Ac q))]]) (F.tup [F.bool res,F.agg [Ac q]]):=by
 refine AX.of_run Au Zs (T:=[]) (n:=200) ?_
 refine gE (Y:=T18 (fun res=>some (.ret (F.tup [F.bool res,F.agg [Ac q]]))) q l) (by kernel_rfl) ?_
 exact (gS h (fun _ h=>gR (by cases h;rfl)) gN)
def gQ:List F→F→F × List F | [y],x=>(.bool (Gh (BS y) (Ah x)),[y]) | cs,_=>(.dflt,cs)
theorem okHasF:Gk Tryz.prog 18 (.shared (OM (Ml 19) MJ) (Mm (Ml 19) gQ)) :=
 PC (mk:=tX 19) (c:=AT Tryz.f18) Tryz.func18 (by kernel_rfl) (by kernel_rfl) (aG _) (fun h=>iY h) fun cs x hp=>match cs,hp with
 | [y],hp=>by
  simp only [MJ,Bool.and_eq_true] at hp
  obtain ⟨⟨h1,h2⟩,h3,h4⟩:=hp
  exact ⟨[Ac (BS y)],At (Ah x),_,_,⟨(Ee h1).1,trivial⟩,(DC h2).1,t18 (BS y) (Ah x) (Gh (BS y) (Ah x)) (by
   unfold G18 T18
   rw [G1,Gq,B5,B3,h3,h4,iW]
   rfl),.refl _,⟨(Ee h1).2,trivial⟩⟩
def envK7:Env:=envK6.add 18 (.shared (OM (Ml 19) MJ) (Mm (Ml 19) gQ))
theorem HZ:Az Tryz.prog envK7:=(Env.add_ok Zs okHasF)
end
noncomputable section
set_option maxHeartbeats 1000000
def Ma:List (List Pt)→Int→Int
 | [],s=>s
 | r :: l,s=>Ma l (IntKind.i64.wrap (s+(r.length:Int)))
def Hd (l:List (List Pt)):Int:=Ma l 0
/-! ### function 16 -/
def xI (l:List (List Pt)) (s:Int) (n:Int) (i:Int):St:=⟨Al 3 ((U.f (F.int .i64 s)) :: Al 2 ((U.f (At l)) :: (U.f (F.int .i64 n)) :: (U.f (F.int .i64 i)) :: Al 10 [])),[]⟩
abbrev kW (ρ:Type):=(List (List Pt))→(Int)→(Int)→(Int)→Option ρ
def kK {ρ:Type} (ret:NQ ρ) (c3:kW ρ) (l:List (List Pt)) (s:Int) (n:Int) (i:Int):Option ρ :=
 (AD (decide (i<n))
 (AD (decide (0≤i))
 (AD (decide (i<(↑l.length:Int)))
 (c3 (l) (IntKind.i64.wrap (s+(↑(l.getD i.toNat []).length:Int))) (n) (IntKind.i64.wrap (i+1)))
 none)
 none)
 (ret (s)))
def WA:Nat→(List (List Pt))→(Int)→(Int)→(Int)→Option (Int)
 | 0,_,_,_,_=>none
 | k+1,l,s,n,i=>kK some (WA k) l s n i
def T16 {ρ:Type} (ret:NQ ρ) (c3:kW ρ) (l:List (List Pt)):Option ρ :=
 (c3 (l) (0) ((↑l.length:Int)) (0))
def G16 (k:Nat) (l:List (List Pt)):Option (Int):=T16 some (WA k) l
theorem t16_3:∀ (k:Nat) (l:List (List Pt)) (s:Int) (n:Int) (i:Int) (r:Int),WA k l s n i=some r→AX Tryz.prog Tryz.f16.results.toList (at_ Tryz.f16 3) (xI l s n i) (F.int .i64 r)
 | 0,_,_,_,_,_,h=>nomatch h
 | k+1,l,s,n,i,r,h=>by
  refine AX.of_cut Au HZ (T:=[(3,[3,6,7,8],1000)]) (n:=200) ?_
  refine gE (Y:=kK (fun r=>some (.ret (F.int .i64 r))) (fun l s n i=>some (.cut (at_ Tryz.f16 3) (xI l s n i))) l s n i) (by kernel_rfl) ?_
  exact (gS h (fun _ h=>(gS h (fun _ h=>(gS h (fun _ h=>gC (t16_3 k _ _ _ _ r h)) gN)) gN)) (fun _ h=>gR (by cases h;rfl)))
theorem t16 (k:Nat) (l:List (List Pt)) (r:Int) (h:G16 k l=some r):AX Tryz.prog Tryz.f16.results.toList [.code (AT Tryz.f16)] (start Tryz.f16.ntmps ([At l].map .f)) (F.int .i64 r):=by
 refine AX.of_run Au HZ (T:=[(3,[3,6,7,8],1000)]) (n:=200) ?_
 refine gE (Y:=T16 (fun r=>some (.ret (F.int .i64 r))) (fun l s n i=>some (.cut (at_ Tryz.f16 3) (xI l s n i))) l) (by kernel_rfl) ?_
 exact gC (t16_3 k _ _ _ _ r h)
theorem Mb {l:List (List Pt)} (hn:l.length≤1000):∀ (d i k:Nat) (s:Int),i+d=l.length→d+1≤k→WA k l s l.length i=some (Ma (l.drop i) s)
 | d,i,0,_,_,hk=>by omega
 | 0,i,k+1,s,hi,hk=>by
  rw [WA]
  unfold kK
  rw [decide_eq_false (show ¬ (i:Int)<l.length by omega),List.drop_eq_nil_of_le (by omega)]
  rfl
 | d+1,i,k+1,s,hi,hk=>by
  have hlt:i<l.length:=by omega
  have hg:l.getD i []=l[i]:=by simp [List.getD,List.getElem?_eq_getElem hlt]
  have wi:IntKind.i64.wrap ((i:Int)+1)=((i+1:Nat):Int):=by rw [As (by omega) (by omega)];omega
  rw [WA]
  unfold kK
  rw [decide_eq_true (show (i:Int)<l.length by omega),decide_eq_true (show (0:Int)≤i by omega),Int.toNat_natCast,hg,wi,Mb hn d (i+1) k _ (by omega) (by omega),List.drop_eq_getElem_cons hlt,Ma]
  rfl
def tI (l:List (List Pt)):Bool:=decide (l.length≤1000)
def Mx:List F→Bool | [x]=>BR x&&tI (Ah x) | _=>false
def Q6:List F→F | [x]=>.int .i64 (Hd (Ah x)) | _=>.dflt
theorem lS:Ak Tryz.prog 16 Mx Q6 :=
 Ad (c:=AT Tryz.f16) Tryz.func16 (by kernel_rfl) (by kernel_rfl) fun xs hp=>match xs,hp with
 | [x],hp=>by
  simp only [Mx,Bool.and_eq_true] at hp
  have h:(Ah x).length≤1000:=of_decide_eq_true hp.2
  exact ⟨[At (Ah x)],_,⟨(DC hp.1).1,trivial⟩,t16 2000 _ _ (Mb h (Ah x).length 0 2000 0 (by omega) (by omega)),.refl _⟩
def Ls:List (List Pt)→Nat→Int × Int→Int × Int
 | [],_,R=>R
 | r :: l,i,R=>bif CK r != 0 then (IntKind.i64.wrap (10+CK r),(i:Int)) else Ls l (i+1) R
def He (l:List (List Pt)):Nat→Nat→Int × Int
 | 0,_=>(0,0)
 | d+1,i=>bif Gh (l.getD i []) (l.take i) then (3,(i:Int)) else He l d (i+1)
def D9 (l:List (List Pt)):Int × Int:=bif decide (l.length > 6) then (1,0) else bif decide (Hd l > 20) then (2,0) else Ls l 0 (He l l.length 0)
/-! ### function 36 -/
def Vv (l:List (List Pt)) (s:Int) (i:Int):St:=⟨(U.f (At l)) :: Al 3 ((U.f (F.int .i64 s)) :: (U.f (F.int .i64 i)) :: Al 60 []),[]⟩
def PU (l:List (List Pt)) (i:Int):St:=⟨(U.f (At l)) :: Al 5 ((U.f (F.int .i64 i)) :: Al 59 []),[]⟩
def PT (l:List (List Pt)) (i:Int):St:=⟨(U.f (At l)) :: Al 7 ((U.f (F.int .i64 i)) :: Al 57 []),[]⟩
def PS (l:List (List Pt)) (i:Int) (j:Int):St:=⟨(U.f (At l)) :: Al 7 ((U.f (F.int .i64 i)) :: (U.f (F.int .i64 j)) :: Al 56 []),[]⟩
abbrev MZ (ρ:Type):=(List (List Pt))→(Int)→(Int)→Option ρ
abbrev TG (ρ:Type):=(List (List Pt))→(Int)→Option ρ
abbrev Ss (ρ:Type):=(Int)→(Int)→Option ρ
def kB {ρ:Type} (ret:Ss ρ) (c5:MZ ρ) (c11:TG ρ) (c17:TG ρ) (c20:MZ ρ) (l:List (List Pt)) (s:Int) (i:Int):Option ρ :=
 (AD (decide (i<(↑l.length:Int)))
 (AD (decide (0≤i))
 (AD (decide (i<(↑l.length:Int)))
 (c5 (l) (IntKind.i64.wrap (s+(↑(lenOf ((List.drop 0 (CN (l.getD i.toNat [])).cells).headD F.dflt)):Int))) (IntKind.i64.wrap (i+1)))
 none)
 none)
 (AD (decide (s > 20))
 (ret (2) (0))
 (c11 (l) (0))))
def XQ {ρ:Type} (ret:Ss ρ) (c5:MZ ρ) (c11:TG ρ) (c17:TG ρ) (c20:MZ ρ) (l:List (List Pt)) (i:Int):Option ρ :=
 (AD (decide (i<(↑l.length:Int)))
 (AD (decide (0≤i))
 (AD (decide (i<(↑l.length:Int)))
 (AD (BJ (F.agg [Ac (l.getD i.toNat [])]))
 (AD (CK (AR (F.agg [Ac (l.getD i.toNat [])])) != 0)
 (ret (IntKind.i64.wrap (10+CK (AR (F.agg [Ac (l.getD i.toNat [])])))) (i))
 (c11 (l) (IntKind.i64.wrap (i+1))))
 none)
 none)
 none)
 (c17 (l) (0)))
def XP {ρ:Type} (ret:Ss ρ) (c5:MZ ρ) (c11:TG ρ) (c17:TG ρ) (c20:MZ ρ) (l:List (List Pt)) (i:Int):Option ρ :=
 (AD (decide (i<(↑l.length:Int)))
 (c20 (l) (i) (0))
 (ret (0) (0)))
def XO {ρ:Type} (ret:Ss ρ) (c5:MZ ρ) (c11:TG ρ) (c17:TG ρ) (c20:MZ ρ) (l:List (List Pt)) (i:Int) (j:Int):Option ρ :=
 (AD (decide (j<i))
 (AD (decide (0≤i))
 (AD (decide (i<(↑l.length:Int)))
 (AD (decide (0≤j))
 (AD (decide (j<(↑l.length:Int)))
 (AD (BJ (F.agg [Ac (l.getD i.toNat [])])&&BJ (F.agg [Ac (l.getD j.toNat [])])&&(A3 (AR (F.agg [Ac (l.getD i.toNat [])]))&&A3 (AR (F.agg [Ac (l.getD j.toNat [])]))))
 (AD (Cy (AR (F.agg [Ac (l.getD i.toNat [])])) (AR (F.agg [Ac (l.getD j.toNat [])])))
 (ret (3) (i))
 (c20 (l) (i) (IntKind.i64.wrap (j+1))))
 none)
 none)
 none)
 none)
 none)
 (c17 (l) (IntKind.i64.wrap (i+1))))
mutual
def OU:Nat→(List (List Pt))→(Int)→(Int)→Option ((Int) × (Int))
 | 0,_,_,_=>none
 | k+1,l,s,i=>kB (fun a b=>some (a,b)) (OU k) (JF k) (Ig k) (Kh k) l s i
 termination_by structural k=>k
def JF:Nat→(List (List Pt))→(Int)→Option ((Int) × (Int))
 | 0,_,_=>none
 | k+1,l,i=>XQ (fun a b=>some (a,b)) (OU k) (JF k) (Ig k) (Kh k) l i
 termination_by structural k=>k
def Ig:Nat→(List (List Pt))→(Int)→Option ((Int) × (Int))
 | 0,_,_=>none
 | k+1,l,i=>XP (fun a b=>some (a,b)) (OU k) (JF k) (Ig k) (Kh k) l i
 termination_by structural k=>k
def Kh:Nat→(List (List Pt))→(Int)→(Int)→Option ((Int) × (Int))
 | 0,_,_,_=>none
 | k+1,l,i,j=>XO (fun a b=>some (a,b)) (OU k) (JF k) (Ig k) (Kh k) l i j
 termination_by structural k=>k
end
def T36 {ρ:Type} (ret:Ss ρ) (c5:MZ ρ) (c11:TG ρ) (c17:TG ρ) (c20:MZ ρ) (l:List (List Pt)):Option ρ :=
 (AD (decide ((↑l.length:Int) > 6))
 (ret (1) (0))
 (c5 (l) (0) (0)))
def G36 (k:Nat) (l:List (List Pt)):Option ((Int) × (Int)):=T36 (fun a b=>some (a,b)) (OU k) (JF k) (Ig k) (Kh k) l
mutual
theorem t36_5:∀ (k:Nat) (l:List (List Pt)) (s:Int) (i:Int) (a:Int) (b:Int),OU k l s i=some (a,b)→AX Tryz.prog Tryz.f36.results.toList (at_ Tryz.f36 5) (Vv l s i) (F.tup [F.int .i64 a,F.int .i64 b])
 | 0,_,_,_,_,_,h=>nomatch h
 | k+1,l,s,i,a,b,h=>by
  refine AX.of_cut Au HZ (T:=[(5,[0,4,5],1000),(11,[0,6],1000),(17,[0,8],1000),(20,[0,8,9],1000)]) (n:=200) ?_
  refine gE (Y:=kB (fun a b=>some (.ret (F.tup [F.int .i64 a,F.int .i64 b]))) (fun l s i=>some (.cut (at_ Tryz.f36 5) (Vv l s i))) (fun l i=>some (.cut (at_ Tryz.f36 11) (PU l i))) (fun l i=>some (.cut (at_ Tryz.f36 17) (PT l i))) (fun l i j=>some (.cut (at_ Tryz.f36 20) (PS l i j))) l s i) (by kernel_rfl) ?_
  exact (gS h (fun _ h=>(gS h (fun _ h=>(gS h (fun _ h=>gC (t36_5 k _ _ _ a b h)) gN)) gN)) (fun _ h=>(gS h (fun _ h=>gR (by cases h;rfl)) (fun _ h=>gC (pI k _ _ a b h)))))
theorem pI:∀ (k:Nat) (l:List (List Pt)) (i:Int) (a:Int) (b:Int),JF k l i=some (a,b)→AX Tryz.prog Tryz.f36.results.toList (at_ Tryz.f36 11) (PU l i) (F.tup [F.int .i64 a,F.int .i64 b])
 | 0,_,_,_,_,h=>nomatch h
 | k+1,l,i,a,b,h=>by
  refine AX.of_cut Au HZ (T:=[(5,[0,4,5],1000),(11,[0,6],1000),(17,[0,8],1000),(20,[0,8,9],1000)]) (n:=200) ?_
  refine gE (Y:=XQ (fun a b=>some (.ret (F.tup [F.int .i64 a,F.int .i64 b]))) (fun l s i=>some (.cut (at_ Tryz.f36 5) (Vv l s i))) (fun l i=>some (.cut (at_ Tryz.f36 11) (PU l i))) (fun l i=>some (.cut (at_ Tryz.f36 17) (PT l i))) (fun l i j=>some (.cut (at_ Tryz.f36 20) (PS l i j))) l i) (by kernel_rfl) ?_
  exact (gS h (fun _ h=>(gS h (fun _ h=>(gS h (fun _ h=>(gS h (fun _ h=>(gS h (fun _ h=>gR (by cases h;rfl)) (fun _ h=>gC (pI k _ _ a b h)))) gN)) gN)) gN)) (fun _ h=>gC (pH k _ _ a b h)))
theorem pH:∀ (k:Nat) (l:List (List Pt)) (i:Int) (a:Int) (b:Int),Ig k l i=some (a,b)→AX Tryz.prog Tryz.f36.results.toList (at_ Tryz.f36 17) (PT l i) (F.tup [F.int .i64 a,F.int .i64 b])
 | 0,_,_,_,_,h=>nomatch h
 | k+1,l,i,a,b,h=>by
  refine AX.of_cut Au HZ (T:=[(5,[0,4,5],1000),(11,[0,6],1000),(17,[0,8],1000),(20,[0,8,9],1000)]) (n:=200) ?_
  refine gE (Y:=XP (fun a b=>some (.ret (F.tup [F.int .i64 a,F.int .i64 b]))) (fun l s i=>some (.cut (at_ Tryz.f36 5) (Vv l s i))) (fun l i=>some (.cut (at_ Tryz.f36 11) (PU l i))) (fun l i=>some (.cut (at_ Tryz.f36 17) (PT l i))) (fun l i j=>some (.cut (at_ Tryz.f36 20) (PS l i j))) l i) (by kernel_rfl) ?_
  exact (gS h (fun _ h=>gC (pG k _ _ _ a b h)) (fun _ h=>gR (by cases h;rfl)))
theorem pG:∀ (k:Nat) (l:List (List Pt)) (i:Int) (j:Int) (a:Int) (b:Int),Kh k l i j=some (a,b)→AX Tryz.prog Tryz.f36.results.toList (at_ Tryz.f36 20) (PS l i j) (F.tup [F.int .i64 a,F.int .i64 b])
 | 0,_,_,_,_,_,h=>nomatch h
 | k+1,l,i,j,a,b,h=>by
  refine AX.of_cut Au HZ (T:=[(5,[0,4,5],1000),(11,[0,6],1000),(17,[0,8],1000),(20,[0,8,9],1000)]) (n:=200) ?_
  refine gE (Y:=XO (fun a b=>some (.ret (F.tup [F.int .i64 a,F.int .i64 b]))) (fun l s i=>some (.cut (at_ Tryz.f36 5) (Vv l s i))) (fun l i=>some (.cut (at_ Tryz.f36 11) (PU l i))) (fun l i=>some (.cut (at_ Tryz.f36 17) (PT l i))) (fun l i j=>some (.cut (at_ Tryz.f36 20) (PS l i j))) l i j) (by kernel_rfl) ?_
  exact (gS h (fun _ h=>(gS h (fun _ h=>(gS h (fun _ h=>(gS h (fun _ h=>(gS h (fun _ h=>(gS h (fun _ h=>(gS h (fun _ h=>gR (by cases h;rfl)) (fun _ h=>gC (pG k _ _ _ a b h)))) gN)) gN)) gN)) gN)) gN)) (fun _ h=>gC (pH k _ _ a b h)))
end
theorem t36 (k:Nat) (l:List (List Pt)) (a:Int) (b:Int) (h:G36 k l=some (a,b)):AX Tryz.prog Tryz.f36.results.toList [.code (AT Tryz.f36)] (start Tryz.f36.ntmps ([At l].map .f)) (F.tup [F.int .i64 a,F.int .i64 b]):=by
 refine AX.of_run Au HZ (T:=[(5,[0,4,5],1000),(11,[0,6],1000),(17,[0,8],1000),(20,[0,8,9],1000)]) (n:=200) ?_
 refine gE (Y:=T36 (fun a b=>some (.ret (F.tup [F.int .i64 a,F.int .i64 b]))) (fun l s i=>some (.cut (at_ Tryz.f36 5) (Vv l s i))) (fun l i=>some (.cut (at_ Tryz.f36 11) (PU l i))) (fun l i=>some (.cut (at_ Tryz.f36 17) (PT l i))) (fun l i j=>some (.cut (at_ Tryz.f36 20) (PS l i j))) l) (by kernel_rfl) ?_
 exact (gS h (fun _ h=>gR (by cases h;rfl)) (fun _ h=>gC (t36_5 k _ _ _ a b h)))
theorem VA {l:List (List Pt)} (hn:l.length≤6) (hr:∀ r ∈ l,A3 r=true) {i:Nat} (hi:i<l.length) {R:Int × Int} {K:Nat} (hout:∀ k,K≤k→Ig k l ((i+1:Nat):Int)=some R) :
  ∀ (d j k:Nat),j+d=i→d+1+K≤k→Kh k l i j=some (bif Gh (l.getD i []) ((l.take i).drop j) then (3,(i:Int)) else R)
 | d,j,0,_,hk=>by omega
 | 0,j,k+1,hj,hk=>by
  rw [Kh]
  unfold XO
  rw [decide_eq_false (show ¬ (j:Int)<i by omega),AJ,As (by omega) (by omega),show (i:Int)+1=((i+1:Nat):Int) by omega,hout k (by omega),List.drop_eq_nil_of_le (by rw [List.length_take];omega)]
  rfl
 | d+1,j,k+1,hj,hk=>by
  have ih:=VA hn hr hi hout d (j+1) k (by omega) (by omega)
  have wj:IntKind.i64.wrap ((j:Int)+1)=((j+1:Nat):Int):=by rw [As (by omega) (by omega)];omega
  have hjt:j<(l.take i).length:=by rw [List.length_take];omega
  have hgj:(l.take i)[j]=l.getD j []:=by simp [List.getD,List.getElem?_eq_getElem (show j<l.length by omega)]
  have ri:=hr _ (Cs (d:=[]) hi)
  have rj:=hr _ (Cs (d:=[]) (show j<l.length by omega))
  rw [Kh]
  unfold XO
  simp only [decide_eq_true (show (j:Int)<i by omega),decide_eq_true (show (0:Int)≤i by omega),decide_eq_true (show (i:Int)<l.length by omega),decide_eq_true (show (0:Int)≤j by omega),decide_eq_true (show (j:Int)<l.length by omega),Int.toNat_natCast,Ba,BH,ri,rj,wj,ih,Bool.and_self,AH]
  rw [List.drop_eq_getElem_cons hjt,hgj]
  unfold Gh
  rw [List.any_cons]
  cases Cy (l.getD i []) (l.getD j []) <;> rfl
theorem VB {l:List (List Pt)} (hn:l.length≤6) (hr:∀ r ∈ l,A3 r=true):∀ (d i k:Nat),i+d=l.length→10*d+1≤k→Ig k l i=some (He l d i)
 | d,i,0,_,hk=>by omega
 | 0,i,k+1,hi,hk=>by
  rw [Ig]
  unfold XP
  rw [decide_eq_false (show ¬ (i:Int)<l.length by omega)]
  rfl
 | d+1,i,k+1,hi,hk=>by
  have ih:=VA hn hr (i:=i) (by omega) (K:=10*d+1) (fun k hk=>VB hn hr d (i+1) k (by omega) hk) i 0 k (by omega) (by omega)
  rw [Ig]
  unfold XP
  rw [decide_eq_true (show (i:Int)<l.length by omega),AH]
  exact ih
theorem VC {l:List (List Pt)} (hn:l.length≤6) {R:Int × Int} {K:Nat} (hout:(∀ r ∈ l,A3 r=true)→∀ k,K≤k→Ig k l 0=some R) :
  ∀ (d i k:Nat),i+d=l.length→d+1+K≤k→(∀ r ∈ l.take i,A3 r=true)→JF k l i=some (Ls (l.drop i) i R)
 | d,i,0,_,hk,_=>by omega
 | 0,i,k+1,hi,hk,ht=>by
  rw [List.take_of_length_le (by omega)] at ht
  rw [JF]
  unfold XQ
  rw [decide_eq_false (show ¬ (i:Int)<l.length by omega),AJ,hout ht k (by omega),List.drop_eq_nil_of_le (by omega)]
  rfl
 | d+1,i,k+1,hi,hk,ht=>by
  have hlt:i<l.length:=by omega
  have hg:l.getD i []=l[i]:=by simp [List.getD,List.getElem?_eq_getElem hlt]
  have wi:IntKind.i64.wrap ((i:Int)+1)=((i+1:Nat):Int):=by rw [As (by omega) (by omega)];omega
  rw [JF]
  unfold XQ
  rw [decide_eq_true (show (i:Int)<l.length by omega),decide_eq_true (show (0:Int)≤i by omega),Int.toNat_natCast,hg,wi,Ba,BH,List.drop_eq_getElem_cons hlt,Ls]
  simp only [AH]
  cases hf:(CK l[i] != 0) with
  | true=>rfl
  | false =>
   have hrr:A3 l[i]=true:=by
    unfold A3
    rw [bne,Bool.not_eq_false'] at hf
    exact hf
   rw [AJ,cond_false,VC hn hout d (i+1) k (by omega) (by omega) fun p hp=>by
    rw [List.take_succ_eq_append_getElem hlt,List.mem_append] at hp
    rcases hp with hp | hp
    ·exact ht p hp
    ·simp at hp;subst hp;exact hrr]
theorem ZF {l:List (List Pt)} (hn:l.length≤6) {R:Int × Int} {K:Nat} (hout:∀ k,K≤k→JF k l 0=some R):∀ (d i k:Nat) (s:Int),i+d=l.length→d+1+K≤k→OU k l s i=some (bif decide (Ma (l.drop i) s > 20) then (2,0) else R)
 | d,i,0,_,_,hk=>by omega
 | 0,i,k+1,s,hi,hk=>by
  rw [OU]
  unfold kB
  rw [decide_eq_false (show ¬ (i:Int)<l.length by omega),AJ,hout k (by omega),List.drop_eq_nil_of_le (by omega),Ma]
  cases decide (s > 20) <;> rfl
 | d+1,i,k+1,s,hi,hk=>by
  have hlt:i<l.length:=by omega
  have hg:l.getD i []=l[i]:=by simp [List.getD,List.getElem?_eq_getElem hlt]
  have wi:IntKind.i64.wrap ((i:Int)+1)=((i+1:Nat):Int):=by rw [As (by omega) (by omega)];omega
  have e:∀ r:List Pt,lenOf ((List.drop 0 (CN r).cells).headD F.dflt)=r.length:=fun _=>rfl
  rw [OU]
  unfold kB
  rw [decide_eq_true (show (i:Int)<l.length by omega),decide_eq_true (show (0:Int)≤i by omega),Int.toNat_natCast,wi]
  simp only [e,hg,AH]
  rw [ZF hn hout d (i+1) k _ (by omega) (by omega),List.drop_eq_getElem_cons hlt,Ma]
theorem dI (l:List (List Pt)):G36 200 l=some (D9 l):=by
 unfold G36 T36 D9
 by_cases h:l.length > 6
 ·rw [decide_eq_true (show (l.length:Int) > 6 by omega),decide_eq_true h];rfl
 ·rw [decide_eq_false (show ¬ (l.length:Int) > 6 by omega),decide_eq_false h]
  exact ZF (by omega) (R:=Ls l 0 (He l l.length 0)) (K:=100) (fun k hk=>VC (by omega) (R:=He l l.length 0) (K:=80) (fun hr k hk=>VB (by omega) hr l.length 0 k (by omega) (by omega)) l.length 0 k (by omega) (by omega) (by simp)) l.length 0 200 0 (by omega) (by omega)
def EG:List F→Bool | [x]=>BR x | _=>false
def Nm:List F→F | [x]=>.tup [.int .i64 (D9 (Ah x)).1,.int .i64 (D9 (Ah x)).2] | _=>.dflt
theorem rX:Ak Tryz.prog 36 EG Nm :=
 Ad (c:=AT Tryz.f36) Tryz.func36 (by kernel_rfl) (by kernel_rfl) fun xs hp=>match xs,hp with
 | [x],hp=>⟨[At (Ah x)],_,⟨(DC hp).1,trivial⟩,t36 200 _ _ _ (dI _),.refl _⟩
def envK8:Env:=(envK7.add 16 (.pure Mx Q6)).add 36 (.pure EG Nm)
theorem OF:Az Tryz.prog envK8:=(Env.add_ok (Env.add_ok HZ lS.sp) rX.sp)
end
noncomputable section
set_option maxHeartbeats 1000000
/-! ### function 7 -/
def S7_6 (l:List (List Pt)) (n:Int) (i:Int):St:=⟨(U.f (At l)) :: Al 16 ((U.f (At l)) :: (U.f (F.int .i64 n)) :: (U.f (F.int .i64 i)) :: Al 26 []),[]⟩
def kP (l:List (List Pt)) (n:Int) (i:Int):St:=⟨(U.f (At l)) :: Al 31 ((U.f (At l)) :: (U.f (F.int .i64 n)) :: (U.f (F.int .i64 i)) :: Al 11 []),[]⟩
def T7_6 {ρ:Type} (ret:Ss ρ) (c6:MZ ρ) (c13:MZ ρ) (l:List (List Pt)) (n:Int) (i:Int):Option ρ :=
 (AD (decide (i<n))
 (AD (decide (0≤i))
 (AD (decide (i<(↑l.length:Int)))
 (AD (BJ (F.agg [Ac (l.getD i.toNat [])]))
 (AD (CK (AR (F.agg [Ac (l.getD i.toNat [])])) != 0)
 (ret (IntKind.i64.wrap (10+CK (AR (F.agg [Ac (l.getD i.toNat [])])))) (i))
 (c6 (l) (n) (IntKind.i64.wrap (i+1))))
 none)
 none)
 none)
 (c13 (l) ((↑l.length:Int)) (0)))
def jL {ρ:Type} (ret:Ss ρ) (c6:MZ ρ) (c13:MZ ρ) (l:List (List Pt)) (n:Int) (i:Int):Option ρ :=
 (AD (decide (i<n))
 (AD (decide (0≤i))
 (AD (decide (i<(↑l.length:Int)))
 (AD (decide (0≤i))
 (AD (decide (i≤(↑l.length:Int)))
 (AD (Da (Ac (l.getD i.toNat []))&&BR (F.sl (i.toNat-Int.toNat 0) fun j ↦ CN (l.getD (Int.toNat 0+j) []))&&(A3 (BS (Ac (l.getD i.toNat [])))&&Jf (Ah (F.sl (i.toNat-Int.toNat 0) fun j ↦ CN (l.getD (Int.toNat 0+j) [])))))
 (AD ((Ah (F.sl (i.toNat-Int.toNat 0) fun j ↦ CN (l.getD (Int.toNat 0+j) []))).any (Cy (BS (Ac (l.getD i.toNat [])))))
 (ret (3) (i))
 (c13 (l) (n) (IntKind.i64.wrap (i+1))))
 none)
 none)
 none)
 none)
 none)
 (ret (0) (0)))
mutual
def fN:Nat→(List (List Pt))→(Int)→(Int)→Option ((Int) × (Int))
 | 0,_,_,_=>none
 | k+1,l,n,i=>T7_6 (fun a b=>some (a,b)) (fN k) (P4 k) l n i
def P4:Nat→(List (List Pt))→(Int)→(Int)→Option ((Int) × (Int))
 | 0,_,_,_=>none
 | k+1,l,n,i=>jL (fun a b=>some (a,b)) (fN k) (P4 k) l n i
end
def T7 {ρ:Type} (ret:Ss ρ) (c6:MZ ρ) (c13:MZ ρ) (l:List (List Pt)):Option ρ :=
 (AD (decide ((↑l.length:Int) > 6))
 (ret (1) (0))
 (AD (BR (At l)&&tI (Ah (At l)))
 (AD (decide (Hd (Ah (At l)) > 20))
 (ret (2) (0))
 (c6 (l) ((↑l.length:Int)) (0)))
 none))
def G7 (k:Nat) (l:List (List Pt)):Option ((Int) × (Int)):=T7 (fun a b=>some (a,b)) (fN k) (P4 k) l
mutual
theorem t7_6:∀ (k:Nat) (l:List (List Pt)) (n:Int) (i:Int) (a:Int) (b:Int),fN k l n i=some (a,b)→AX Tryz.prog Tryz.f7.results.toList (at_ Tryz.f7 6) (S7_6 l n i) (F.tup [F.int .i64 a,F.int .i64 b])
 | 0,_,_,_,_,_,h=>nomatch h
 | k+1,l,n,i,a,b,h=>by
  refine AX.of_cut Au OF (T:=[(6,[0,17,18,19],1000),(13,[0,32,33,34],1000)]) (n:=200) ?_
  refine gE (Y:=T7_6 (fun a b=>some (.ret (F.tup [F.int .i64 a,F.int .i64 b]))) (fun l n i=>some (.cut (at_ Tryz.f7 6) (S7_6 l n i))) (fun l n i=>some (.cut (at_ Tryz.f7 13) (kP l n i))) l n i) (by kernel_rfl) ?_
  exact (gS h (fun _ h=>(gS h (fun _ h=>(gS h (fun _ h=>(gS h (fun _ h=>(gS h (fun _ h=>gR (by cases h;rfl)) (fun _ h=>gC (t7_6 k _ _ _ a b h)))) gN)) gN)) gN)) (fun _ h=>gC (t7_13 k _ _ _ a b h)))
theorem t7_13:∀ (k:Nat) (l:List (List Pt)) (n:Int) (i:Int) (a:Int) (b:Int),P4 k l n i=some (a,b)→AX Tryz.prog Tryz.f7.results.toList (at_ Tryz.f7 13) (kP l n i) (F.tup [F.int .i64 a,F.int .i64 b])
 | 0,_,_,_,_,_,h=>nomatch h
 | k+1,l,n,i,a,b,h=>by
  refine AX.of_cut Au OF (T:=[(6,[0,17,18,19],1000),(13,[0,32,33,34],1000)]) (n:=200) ?_
  refine gE (Y:=jL (fun a b=>some (.ret (F.tup [F.int .i64 a,F.int .i64 b]))) (fun l n i=>some (.cut (at_ Tryz.f7 6) (S7_6 l n i))) (fun l n i=>some (.cut (at_ Tryz.f7 13) (kP l n i))) l n i) (by kernel_rfl) ?_
  exact (gS h (fun _ h=>(gS h (fun _ h=>(gS h (fun _ h=>(gS h (fun _ h=>(gS h (fun _ h=>(gS h (fun _ h=>(gS h (fun _ h=>gR (by cases h;rfl)) (fun _ h=>gC (t7_13 k _ _ _ a b h)))) gN)) gN)) gN)) gN)) gN)) (fun _ h=>gR (by cases h;rfl)))
end
theorem t7 (k:Nat) (l:List (List Pt)) (a:Int) (b:Int) (h:G7 k l=some (a,b)):AX Tryz.prog Tryz.f7.results.toList [.code (AT Tryz.f7)] (start Tryz.f7.ntmps ([At l].map .f)) (F.tup [F.int .i64 a,F.int .i64 b]):=by
 refine AX.of_run Au OF (T:=[(6,[0,17,18,19],1000),(13,[0,32,33,34],1000)]) (n:=200) ?_
 refine gE (Y:=T7 (fun a b=>some (.ret (F.tup [F.int .i64 a,F.int .i64 b]))) (fun l n i=>some (.cut (at_ Tryz.f7 6) (S7_6 l n i))) (fun l n i=>some (.cut (at_ Tryz.f7 13) (kP l n i))) l) (by kernel_rfl) ?_
 exact (gS h (fun _ h=>gR (by cases h;rfl)) (fun _ h=>(gS h (fun _ h=>(gS h (fun _ h=>gR (by cases h;rfl)) (fun _ h=>gC (t7_6 k _ _ _ a b h)))) gN)))
theorem VN {l:List (List Pt)} (hn:l.length≤6) (hr:∀ r ∈ l,A3 r=true):∀ (d i k:Nat),i+d=l.length→d+1≤k→P4 k l l.length i=some (He l d i)
 | d,i,0,_,hk=>by omega
 | 0,i,k+1,hi,hk=>by
  rw [P4]
  unfold jL
  rw [decide_eq_false (show ¬ (i:Int)<l.length by omega)]
  rfl
 | d+1,i,k+1,hi,hk=>by
  have ih:=VN hn hr d (i+1) k (by omega) (by omega)
  have wi:IntKind.i64.wrap ((i:Int)+1)=((i+1:Nat):Int):=by rw [As (by omega) (by omega)];omega
  obtain ⟨u1,u2⟩:=WH l i (by omega)
  have ri:=hr _ (Cs (d:=[]) (show i<l.length by omega))
  have hrs:Jf (l.take i)=true:=N6.2 ⟨fun p hp=>hr p (List.mem_of_mem_take hp),by rw [List.length_take];omega⟩
  have hh:(l.take i).any (Cy (l.getD i []))=Gh (l.getD i []) (l.take i):=rfl
  rw [P4]
  unfold jL
  simp only [decide_eq_true (show (i:Int)<l.length by omega),decide_eq_true (show (0:Int)≤i by omega),decide_eq_true (show (i:Int)≤l.length by omega),Int.toNat_natCast,Int.toNat_zero,Nat.sub_zero,Nat.zero_add,G1,Gq,u1,u2,ri,hrs,hh,wi,ih,Bool.and_self,AH,He]
  cases Gh (l.getD i []) (l.take i) <;> rfl
theorem ZP {l:List (List Pt)} (hn:l.length≤6) {R:Int × Int} {K:Nat} (hout:(∀ r ∈ l,A3 r=true)→∀ k,K≤k→P4 k l l.length 0=some R) :
  ∀ (d i k:Nat),i+d=l.length→d+1+K≤k→(∀ r ∈ l.take i,A3 r=true)→fN k l l.length i=some (Ls (l.drop i) i R)
 | d,i,0,_,hk,_=>by omega
 | 0,i,k+1,hi,hk,ht=>by
  rw [List.take_of_length_le (by omega)] at ht
  rw [fN]
  unfold T7_6
  rw [decide_eq_false (show ¬ (i:Int)<l.length by omega),AJ,hout ht k (by omega),List.drop_eq_nil_of_le (by omega)]
  rfl
 | d+1,i,k+1,hi,hk,ht=>by
  have hlt:i<l.length:=by omega
  have hg:l.getD i []=l[i]:=by simp [List.getD,List.getElem?_eq_getElem hlt]
  have wi:IntKind.i64.wrap ((i:Int)+1)=((i+1:Nat):Int):=by rw [As (by omega) (by omega)];omega
  rw [fN]
  unfold T7_6
  rw [decide_eq_true (show (i:Int)<l.length by omega),decide_eq_true (show (0:Int)≤i by omega),Int.toNat_natCast,hg,wi,Ba,BH,List.drop_eq_getElem_cons hlt,Ls]
  simp only [AH]
  cases hf:(CK l[i] != 0) with
  | true=>rfl
  | false =>
   have hrr:A3 l[i]=true:=by
    unfold A3
    rw [bne,Bool.not_eq_false'] at hf
    exact hf
   rw [AJ,cond_false,ZP hn hout d (i+1) k (by omega) (by omega) fun p hp=>by
    rw [List.take_succ_eq_append_getElem hlt,List.mem_append] at hp
    rcases hp with hp | hp
    ·exact ht p hp
    ·simp at hp;subst hp;exact hrr]
theorem dH (l:List (List Pt)):G7 200 l=some (D9 l):=by
 unfold G7 T7 D9
 by_cases h:l.length > 6
 ·rw [decide_eq_true (show (l.length:Int) > 6 by omega),decide_eq_true h];rfl
 ·rw [decide_eq_false (show ¬ (l.length:Int) > 6 by omega),decide_eq_false h,B5,B3,show tI l=true from decide_eq_true (by omega)]
  simp only [Bool.and_self,AH,AJ,cond_false]
  cases decide (Hd l > 20) with
  | true=>rfl
  | false=>exact ZP (by omega) (R:=He l l.length 0) (K:=80) (fun hr k hk=>VN (by omega) hr l.length 0 k (by omega) (by omega)) l.length 0 200 (by omega) (by omega) (by simp)
theorem rW:Ak Tryz.prog 7 EG Nm :=
 Ad (c:=AT Tryz.f7) Tryz.func7 (by kernel_rfl) (by kernel_rfl) fun xs hp=>match xs,hp with
 | [x],hp=>⟨[At (Ah x)],_,⟨(DC hp).1,trivial⟩,t7 200 _ _ _ (dH _),.refl _⟩
def envK9:Env:=envK8.add 7 (.pure EG Nm)
theorem R5:Az Tryz.prog envK9:=(Env.add_ok OF rW.sp)
end
noncomputable section
def CM (l:List (List Pt)):Bool:=(D9 l).1==0
def J7:List F→F | [x]=>.bool (CM (Ah x)) | _=>.dflt
/-! ### function 21 -/
def T21 {ρ:Type} (ret:OX ρ) (l:List (List Pt)):Option ρ :=
 (AD (BR (At l))
 (ret ((D9 (Ah (At l))).fst==0))
 none)
def G21 (l:List (List Pt)):Option (Bool):=T21 some l
theorem t21 (l:List (List Pt)) (b:Bool) (h:G21 l=some b):AX Tryz.prog Tryz.f21.results.toList [.code (AT Tryz.f21)] (start Tryz.f21.ntmps ([At l].map .f)) (F.bool b):=by
 refine AX.of_run Au R5 (T:=[]) (n:=200) ?_
 refine gE (Y:=T21 (fun b=>some (.ret (F.bool b))) l) (by kernel_rfl) ?_
 exact (gS h (fun _ h=>gR (by cases h;rfl)) gN)
/-! ### function 13 -/
def T13 {ρ:Type} (ret:OX ρ) (l:List (List Pt)):Option ρ :=
 (AD (BR (At l))
 (ret ((D9 (Ah (At l))).fst==0))
 none)
def G13 (l:List (List Pt)):Option (Bool):=T13 some l
theorem t13 (l:List (List Pt)) (b:Bool) (h:G13 l=some b):AX Tryz.prog Tryz.f13.results.toList [.code (AT Tryz.f13)] (start Tryz.f13.ntmps ([At l].map .f)) (F.bool b):=by
 refine AX.of_run Au R5 (T:=[]) (n:=200) ?_
 refine gE (Y:=T13 (fun b=>some (.ret (F.bool b))) l) (by kernel_rfl) ?_
 exact (gS h (fun _ h=>gR (by cases h;rfl)) gN)
theorem cU:Ak Tryz.prog 21 EG J7 :=
 Ad (c:=AT Tryz.f21) Tryz.func21 (by kernel_rfl) (by kernel_rfl) fun xs hp=>match xs,hp with
 | [x],hp=>⟨[At (Ah x)],_,⟨(DC hp).1,trivial⟩,t21 (Ah x) (CM (Ah x)) (by unfold G21 T21;rw [B5,B3];rfl),.refl _⟩
theorem cT:Ak Tryz.prog 13 EG J7 :=
 Ad (c:=AT Tryz.f13) Tryz.func13 (by kernel_rfl) (by kernel_rfl) fun xs hp=>match xs,hp with
 | [x],hp=>⟨[At (Ah x)],_,⟨(DC hp).1,trivial⟩,t13 (Ah x) (CM (Ah x)) (by unfold G13 T13;rw [B5,B3];rfl),.refl _⟩
def vA:Env:=(envK9.add 21 (.pure EG J7)).add 13 (.pure EG J7)
theorem Vb:Az Tryz.prog vA:=(Env.add_ok (Env.add_ok R5 cU.sp) cT.sp)
end
noncomputable section
set_option maxHeartbeats 1000000
/-! ### function 80 -/
def T80 {ρ:Type} (ret:NQ ρ) (a0:Int) (a1:Int) (a2:Int) (a3:Int) (a4:Int) (a5:Int) (a6:Int) (a7:Int) (a8:Int) (a9:Int) (a10:Int) (a11:Int) (b0:Int) (b1:Int) (b2:Int) (b3:Int) (b4:Int) (b5:Int) (b6:Int) (b7:Int) (b8:Int) (b9:Int) (b10:Int) (b11:Int) (c0:Int) (c1:Int) (c2:Int) (c3:Int) (c4:Int) (c5:Int) (c6:Int) (c7:Int) (c8:Int) (c9:Int) (c10:Int) (c11:Int):Option ρ :=
 (AD (EL a0 a1 a2 a3 a4 a5 a6 a7 a8 a9 a10 a11)
 (AD (EL b0 b1 b2 b3 b4 b5 b6 b7 b8 b9 b10 b11)
 (AD (EL c0 c1 c2 c3 c4 c5 c6 c7 c8 c9 c10 c11)
 (AD (Aq 400 (AF (Af b4 b5 b6 b7))&&Aq 400 (AF (Af c8 c9 c10 c11)))
 (AD (Aq 400 (AF (Af c4 c5 c6 c7))&&Aq 400 (AF (Af b8 b9 b10 b11)))
 (AD (Aq 400 (AN [AF (Af b4 b5 b6 b7),AF (Af c8 c9 c10 c11)])&&Aq 400 (AN [AF (Af c4 c5 c6 c7),AF (Af b8 b9 b10 b11)]))
 (AD (Aq 400 (CL [AN [AF (Af b4 b5 b6 b7),AF (Af c8 c9 c10 c11)],AN [AF (Af c4 c5 c6 c7),AF (Af b8 b9 b10 b11)]])&&Aq 400 (AF (Af a0 a1 a2 a3)))
 (AD (Aq 400 (AF (Af b8 b9 b10 b11))&&Aq 400 (AF (Af c0 c1 c2 c3)))
 (AD (Aq 400 (AF (Af c8 c9 c10 c11))&&Aq 400 (AF (Af b0 b1 b2 b3)))
 (AD (Aq 400 (AN [AF (Af b8 b9 b10 b11),AF (Af c0 c1 c2 c3)])&&Aq 400 (AN [AF (Af c8 c9 c10 c11),AF (Af b0 b1 b2 b3)]))
 (AD (Aq 400 (CL [AN [AF (Af b8 b9 b10 b11),AF (Af c0 c1 c2 c3)],AN [AF (Af c8 c9 c10 c11),AF (Af b0 b1 b2 b3)]])&&Aq 400 (AF (Af a4 a5 a6 a7)))
 (AD (Aq 400 (AF (Af b0 b1 b2 b3))&&Aq 400 (AF (Af c4 c5 c6 c7)))
 (AD (Aq 400 (AF (Af c0 c1 c2 c3))&&Aq 400 (AF (Af b4 b5 b6 b7)))
 (AD (Aq 400 (AN [AF (Af b0 b1 b2 b3),AF (Af c4 c5 c6 c7)])&&Aq 400 (AN [AF (Af c0 c1 c2 c3),AF (Af b4 b5 b6 b7)]))
 (AD (Aq 400 (CL [AN [AF (Af b0 b1 b2 b3),AF (Af c4 c5 c6 c7)],AN [AF (Af c0 c1 c2 c3),AF (Af b4 b5 b6 b7)]])&&Aq 400 (AF (Af a8 a9 a10 a11)))
 (AD (Aq 400 (AF (AG (CL [AN [AF (Af b4 b5 b6 b7),AF (Af c8 c9 c10 c11)],AN [AF (Af c4 c5 c6 c7),AF (Af b8 b9 b10 b11)]])*AG (AF (Af a0 a1 a2 a3))))&&Aq 400 (AF (AG (CL [AN [AF (Af b8 b9 b10 b11),AF (Af c0 c1 c2 c3)],AN [AF (Af c8 c9 c10 c11),AF (Af b0 b1 b2 b3)]])*AG (AF (Af a4 a5 a6 a7)))))
 (AD (Aq 400 (Hp [AF (AG (CL [AN [AF (Af b4 b5 b6 b7),AF (Af c8 c9 c10 c11)],AN [AF (Af c4 c5 c6 c7),AF (Af b8 b9 b10 b11)]])*AG (AF (Af a0 a1 a2 a3))),AF (AG (CL [AN [AF (Af b8 b9 b10 b11),AF (Af c0 c1 c2 c3)],AN [AF (Af c8 c9 c10 c11),AF (Af b0 b1 b2 b3)]])*AG (AF (Af a4 a5 a6 a7)))])&&Aq 400 (AF (AG (CL [AN [AF (Af b0 b1 b2 b3),AF (Af c4 c5 c6 c7)],AN [AF (Af c0 c1 c2 c3),AF (Af b4 b5 b6 b7)]])*AG (AF (Af a8 a9 a10 a11)))))
 (AD (Aq 400 (Hp [Hp [AF (AG (CL [AN [AF (Af b4 b5 b6 b7),AF (Af c8 c9 c10 c11)],AN [AF (Af c4 c5 c6 c7),AF (Af b8 b9 b10 b11)]])*AG (AF (Af a0 a1 a2 a3))),AF (AG (CL [AN [AF (Af b8 b9 b10 b11),AF (Af c0 c1 c2 c3)],AN [AF (Af c8 c9 c10 c11),AF (Af b0 b1 b2 b3)]])*AG (AF (Af a4 a5 a6 a7)))],AF (AG (CL [AN [AF (Af b0 b1 b2 b3),AF (Af c4 c5 c6 c7)],AN [AF (Af c0 c1 c2 c3),AF (Af b4 b5 b6 b7)]])*AG (AF (Af a8 a9 a10 a11)))]))
 (ret ((AG (Hp [Hp [AF (AG (CL [AN [AF (Af b4 b5 b6 b7),AF (Af c8 c9 c10 c11)],AN [AF (Af c4 c5 c6 c7),AF (Af b8 b9 b10 b11)]])*AG (AF (Af a0 a1 a2 a3))),AF (AG (CL [AN [AF (Af b8 b9 b10 b11),AF (Af c0 c1 c2 c3)],AN [AF (Af c8 c9 c10 c11),AF (Af b0 b1 b2 b3)]])*AG (AF (Af a4 a5 a6 a7)))],AF (AG (CL [AN [AF (Af b0 b1 b2 b3),AF (Af c4 c5 c6 c7)],AN [AF (Af c0 c1 c2 c3),AF (Af b4 b5 b6 b7)]])*AG (AF (Af a8 a9 a10 a11)))])).sign))
 none)
 none)
 none)
 none)
 none)
 none)
 none)
 none)
 none)
 none)
 none)
 none)
 none)
 none)
 none)
 none)
 none)
 none)
def G80 (a0:Int) (a1:Int) (a2:Int) (a3:Int) (a4:Int) (a5:Int) (a6:Int) (a7:Int) (a8:Int) (a9:Int) (a10:Int) (a11:Int) (b0:Int) (b1:Int) (b2:Int) (b3:Int) (b4:Int) (b5:Int) (b6:Int) (b7:Int) (b8:Int) (b9:Int) (b10:Int) (b11:Int) (c0:Int) (c1:Int) (c2:Int) (c3:Int) (c4:Int) (c5:Int) (c6:Int) (c7:Int) (c8:Int) (c9:Int) (c10:Int) (c11:Int):Option (Int):=T80 some a0 a1 a2 a3 a4 a5 a6 a7 a8 a9 a10 a11 b0 b1 b2 b3 b4 b5 b6 b7 b8 b9 b10 b11 c0 c1 c2 c3 c4 c5 c6 c7 c8 c9 c10 c11
theorem t80 (a0:Int) (a1:Int) (a2:Int) (a3:Int) (a4:Int) (a5:Int) (a6:Int) (a7:Int) (a8:Int) (a9:Int) (a10:Int) (a11:Int) (b0:Int) (b1:Int) (b2:Int) (b3:Int) (b4:Int) (b5:Int) (b6:Int) (b7:Int) (b8:Int) (b9:Int) (b10:Int) (b11:Int) (c0:Int) (c1:Int) (c2:Int) (c3:Int) (c4:Int) (c5:Int) (c6:Int) (c7:Int) (c8:Int) (c9:Int) (c10:Int) (c11:Int) (r:Int) (h:G80 a0 a1 a2 a3 a4 a5 a6 a7 a8 a9 a10 a11 b0 b1 b2 b3 b4 b5 b6 b7 b8 b9 b10 b11 c0 c1 c2 c3 c4 c5 c6 c7 c8 c9 c10 c11=some r):AX Tryz.prog Tryz.f80.results.toList [.code (AT Tryz.f80)] (start Tryz.f80.ntmps ([F.agg [F.int .u64 a0,F.int .u64 a1,F.int .u64 a2,F.int .u64 a3,F.int .u64 a4,F.int .u64 a5,F.int .u64 a6,F.int .u64 a7,F.int .u64 a8,F.int .u64 a9,F.int .u64 a10,F.int .u64 a11],F.agg [F.int .u64 b0,F.int .u64 b1,F.int .u64 b2,F.int .u64 b3,F.int .u64 b4,F.int .u64 b5,F.int .u64 b6,F.int .u64 b7,F.int .u64 b8,F.int .u64 b9,F.int .u64 b10,F.int .u64 b11],F.agg [F.int .u64 c0,F.int .u64 c1,F.int .u64 c2,F.int .u64 c3,F.int .u64 c4,F.int .u64 c5,F.int .u64 c6,F.int .u64 c7,F.int .u64 c8,F.int .u64 c9,F.int .u64 c10,F.int .u64 c11]].map .f)) (F.int .i64 r):=by
 refine AX.of_run Au Vb (T:=[]) (n:=200) ?_
 refine gE (Y:=T80 (fun r=>some (.ret (F.int .i64 r))) a0 a1 a2 a3 a4 a5 a6 a7 a8 a9 a10 a11 b0 b1 b2 b3 b4 b5 b6 b7 b8 b9 b10 b11 c0 c1 c2 c3 c4 c5 c6 c7 c8 c9 c10 c11) (by kernel_rfl) ?_
 exact (gS h (fun _ h=>(gS h (fun _ h=>(gS h (fun _ h=>(gS h (fun _ h=>(gS h (fun _ h=>(gS h (fun _ h=>(gS h (fun _ h=>(gS h (fun _ h=>(gS h (fun _ h=>(gS h (fun _ h=>(gS h (fun _ h=>(gS h (fun _ h=>(gS h (fun _ h=>(gS h (fun _ h=>(gS h (fun _ h=>(gS h (fun _ h=>(gS h (fun _ h=>(gS h (fun _ h=>gR (by cases h;rfl)) gN)) gN)) gN)) gN)) gN)) gN)) gN)) gN)) gN)) gN)) gN)) gN)) gN)) gN)) gN)) gN)) gN)) gN)
def eL (x1 y1 w1 x2 y2 w2 x3 y3 w3:Int):Int:=(y2*w3-y3*w2)*x1+(w2*x3-w3*x2)*y1+(x2*y3-x3*y2)*w1
theorem Se {x y:Int} {n m:Nat} (hx:x.natAbs<18446744073709551616 ^ n) (hy:y.natAbs<18446744073709551616 ^ m):(x+y).natAbs<18446744073709551616 ^ (n+m+1):=by
 have:=J1 hx (show (-y).natAbs<18446744073709551616 ^ m by rw [Int.natAbs_neg];exact hy)
 rwa [Int.sub_neg] at this
theorem oS {a0 a1 a2 a3 a4 a5 a6 a7 a8 a9 a10 a11 b0 b1 b2 b3 b4 b5 b6 b7 b8 b9 b10 b11 c0 c1 c2 c3 c4 c5 c6 c7 c8 c9 c10 c11:Int} (ha:EL a0 a1 a2 a3 a4 a5 a6 a7 a8 a9 a10 a11=true) (hb:EL b0 b1 b2 b3 b4 b5 b6 b7 b8 b9 b10 b11=true) (hc:EL c0 c1 c2 c3 c4 c5 c6 c7 c8 c9 c10 c11=true) :
  G80 a0 a1 a2 a3 a4 a5 a6 a7 a8 a9 a10 a11 b0 b1 b2 b3 b4 b5 b6 b7 b8 b9 b10 b11 c0 c1 c2 c3 c4 c5 c6 c7 c8 c9 c10 c11=some (eL (Af a0 a1 a2 a3) (Af a4 a5 a6 a7) (Af a8 a9 a10 a11) (Af b0 b1 b2 b3) (Af b4 b5 b6 b7) (Af b8 b9 b10 b11) (Af c0 c1 c2 c3) (Af c4 c5 c6 c7) (Af c8 c9 c10 c11)).sign:=by
 obtain ⟨x1,x2,x3⟩:=JQ ha
 obtain ⟨y1,y2,y3⟩:=JQ hb
 obtain ⟨z1,z2,z3⟩:=JQ hc
 unfold G80 T80
 generalize Af a0 a1 a2 a3=ax at *
 generalize Af a4 a5 a6 a7=ay at *
 generalize Af a8 a9 a10 a11=aw at *
 generalize Af b0 b1 b2 b3=bx at *
 generalize Af b4 b5 b6 b7=by' at *
 generalize Af b8 b9 b10 b11=bw at *
 generalize Af c0 c1 c2 c3=cx at *
 generalize Af c4 c5 c6 c7=cy at *
 generalize Af c8 c9 c10 c11=cw at *
 have m1:=CO y2 z3
 have m2:=CO z2 y3
 have m3:=CO y3 z1
 have m4:=CO z3 y1
 have m5:=CO y1 z2
 have m6:=CO z1 y2
 have s1:=J1 m1 m2
 have s2:=J1 m3 m4
 have s3:=J1 m5 m6
 have p1:=CO s1 x1
 have p2:=CO s2 x2
 have p3:=CO s3 x3
 have q1:=Se p1 p2
 have q2:=Se q1 p3
 have n:∀ {z:Int} {k:Nat},z.natAbs<18446744073709551616 ^ k→k≤400→Aq 400 (AF z)=true:=fun h hk=>BL h hk
 simp only [ha,hb,hc,ME,YP,YM,B4,n x1 (by omega),n x2 (by omega),n x3 (by omega),n y1 (by omega),n y2 (by omega),n y3 (by omega),n z1 (by omega),n z2 (by omega),n z3 (by omega),n m1 (by omega),n m2 (by omega),n m3 (by omega),n m4 (by omega),n m5 (by omega),n m6 (by omega),n s1 (by omega),n s2 (by omega),n s3 (by omega),n p1 (by omega),n p2 (by omega),n p3 (by omega),n q1 (by omega),n q2 (by omega),Bool.and_self,AH]
 rfl
def RI:List F→Bool | [.agg [.int .u64 a0,.int .u64 a1,.int .u64 a2,.int .u64 a3,.int .u64 a4,.int .u64 a5,.int .u64 a6,.int .u64 a7,.int .u64 a8,.int .u64 a9,.int .u64 a10,.int .u64 a11],.agg [.int .u64 b0,.int .u64 b1,.int .u64 b2,.int .u64 b3,.int .u64 b4,.int .u64 b5,.int .u64 b6,.int .u64 b7,.int .u64 b8,.int .u64 b9,.int .u64 b10,.int .u64 b11],.agg [.int .u64 c0,.int .u64 c1,.int .u64 c2,.int .u64 c3,.int .u64 c4,.int .u64 c5,.int .u64 c6,.int .u64 c7,.int .u64 c8,.int .u64 c9,.int .u64 c10,.int .u64 c11]]=>EL a0 a1 a2 a3 a4 a5 a6 a7 a8 a9 a10 a11&&EL b0 b1 b2 b3 b4 b5 b6 b7 b8 b9 b10 b11&&EL c0 c1 c2 c3 c4 c5 c6 c7 c8 c9 c10 c11 | _=>false
def YE:List F→F | [.agg [.int .u64 a0,.int .u64 a1,.int .u64 a2,.int .u64 a3,.int .u64 a4,.int .u64 a5,.int .u64 a6,.int .u64 a7,.int .u64 a8,.int .u64 a9,.int .u64 a10,.int .u64 a11],.agg [.int .u64 b0,.int .u64 b1,.int .u64 b2,.int .u64 b3,.int .u64 b4,.int .u64 b5,.int .u64 b6,.int .u64 b7,.int .u64 b8,.int .u64 b9,.int .u64 b10,.int .u64 b11],.agg [.int .u64 c0,.int .u64 c1,.int .u64 c2,.int .u64 c3,.int .u64 c4,.int .u64 c5,.int .u64 c6,.int .u64 c7,.int .u64 c8,.int .u64 c9,.int .u64 c10,.int .u64 c11]]=>.int .i64 (eL (Af a0 a1 a2 a3) (Af a4 a5 a6 a7) (Af a8 a9 a10 a11) (Af b0 b1 b2 b3) (Af b4 b5 b6 b7) (Af b8 b9 b10 b11) (Af c0 c1 c2 c3) (Af c4 c5 c6 c7) (Af c8 c9 c10 c11)).sign | _=>.dflt
theorem okTurn3:Ak Tryz.prog 80 RI YE :=
 B2 (c:=AT Tryz.f80) Tryz.func80 (by kernel_rfl) (by kernel_rfl) fun xs hp=>match xs,hp with
 | [.agg [.int .u64 a0,.int .u64 a1,.int .u64 a2,.int .u64 a3,.int .u64 a4,.int .u64 a5,.int .u64 a6,.int .u64 a7,.int .u64 a8,.int .u64 a9,.int .u64 a10,.int .u64 a11],.agg [.int .u64 b0,.int .u64 b1,.int .u64 b2,.int .u64 b3,.int .u64 b4,.int .u64 b5,.int .u64 b6,.int .u64 b7,.int .u64 b8,.int .u64 b9,.int .u64 b10,.int .u64 b11],.agg [.int .u64 c0,.int .u64 c1,.int .u64 c2,.int .u64 c3,.int .u64 c4,.int .u64 c5,.int .u64 c6,.int .u64 c7,.int .u64 c8,.int .u64 c9,.int .u64 c10,.int .u64 c11]],hp=>by
  simp only [RI,Bool.and_eq_true] at hp
  exact t80 a0 a1 a2 a3 a4 a5 a6 a7 a8 a9 a10 a11 b0 b1 b2 b3 b4 b5 b6 b7 b8 b9 b10 b11 c0 c1 c2 c3 c4 c5 c6 c7 c8 c9 c10 c11 _ (oS hp.1.1 hp.1.2 hp.2)
def envA1:Env:=vA.add 80 (.pure RI YE)
theorem SJ:Az Tryz.prog envA1:=(Env.add_ok Vb okTurn3.sp)
end
/-! A segment's ends lie on one side of another one's line, or the other way round, or all four on one line. -/
def Cj (px py qx qy ux uy vx vy:Int):Prop :=
 (0<AK px py qx qy ux uy∧0<AK px py qx qy vx vy) ∨ (AK px py qx qy ux uy<0∧AK px py qx qy vx vy<0) ∨
 (0<AK ux uy vx vy px py∧0<AK ux uy vx vy qx qy) ∨ (AK ux uy vx vy px py<0∧AK ux uy vx vy qx qy<0) ∨
 (AK px py qx qy ux uy=0∧AK px py qx qy vx vy=0∧AK ux uy vx vy px py=0∧AK ux uy vx vy qx qy=0)
theorem Cw (px py qx qy ux uy:Int):AK qx qy px py ux uy =-AK px py qx qy ux uy:=by unfold AK;grind
theorem Ek {px py qx qy ux uy vx vy:Int} (h:Cj px py qx qy ux uy vx vy):Cj qx qy px py ux uy vx vy:=by
 unfold Cj at *
 rw [Cw px py qx qy ux uy,Cw px py qx qy vx vy]
 omega
theorem KT {px py qx qy ux uy vx vy:Int} (h:Cj px py qx qy ux uy vx vy):Cj px py qx qy vx vy ux uy:=by
 unfold Cj at *
 rw [Cw ux uy vx vy px py,Cw ux uy vx vy qx qy]
 omega
def Cn (ux uy vx vy px py:Int):Bool:=bif (decide (uy > py))==(decide (vy > py)) then false else bif decide (uy > py) then decide (0<AK vx vy ux uy px py) else decide (0<AK ux uy vx vy px py)
def DU (px py qx qy wx wy:Int):Bool:=decide (py<wy)&&decide (wy≤qy)&&decide (AK px py qx qy wx wy<0)
theorem ET {a b c d:Int} (ha:0<a) (hb:0≤b) (hc:0<c) (hd:0<d):0<a*c+b*d:=by
 have h1:=Int.mul_pos ha hc
 have h2:=Int.mul_nonneg hb (Int.le_of_lt hd)
 omega
theorem EU {a b c d:Int} (ha:0<a) (hb:0≤b) (hc:c<0) (hd:d<0):a*c+b*d<0:=by
 have h1:=Int.mul_neg_of_pos_of_neg ha hc
 have h2:=Int.mul_nonpos_of_nonneg_of_nonpos hb (Int.le_of_lt hd)
 omega
theorem Bh {m x y:Int} (hm:0<m) (e:m*x=y):(0<y→0<x)∧(y<0→x<0)∧(y=0→x=0):=by
 refine ⟨fun h=>?_,fun h=>?_,fun h=>?_⟩
 ·rcases Int.lt_or_le 0 x with h1 | h1
  ·exact h1
  ·have:=Int.mul_nonpos_of_nonneg_of_nonpos (Int.le_of_lt hm) h1;omega
 ·rcases Int.lt_or_le x 0 with h1 | h1
  ·exact h1
  ·have:=Int.mul_nonneg (Int.le_of_lt hm) h1;omega
 ·subst h
  rcases Int.mul_eq_zero.1 e with h | h
  ·omega
  ·exact h
theorem cut_low {lx ly tx ty px py qx qy:Int} (hpq:py≤qy) (hl:ly<ty) (hs:(0<AK lx ly tx ty px py∧0<AK lx ly tx ty qx qy) ∨ (AK lx ly tx ty px py<0∧AK lx ly tx ty qx qy<0)) :
  (DU px py qx qy lx ly=(decide (py<ly)&&decide (ly≤qy)&&decide (0<AK lx ly tx ty px py)))∧(DU px py qx qy tx ty=(decide (py<ty)&&decide (ty≤qy)&&decide (0<AK lx ly tx ty px py))):=by
 have e1:(ty-ly)*AK px py qx qy lx ly = -((ly-py)*AK lx ly tx ty qx qy+(qy-ly)*AK lx ly tx ty px py):=by unfold AK;grind
 have e2:(ty-ly)*AK px py qx qy tx ty = -((ty-py)*AK lx ly tx ty qx qy+(qy-ty)*AK lx ly tx ty px py):=by unfold AK;grind
 have hd:0<ty-ly:=by omega
 unfold DU
 constructor
 ·by_cases h1:py<ly
  ·by_cases h2:ly≤qy
   ·rw [decide_eq_true h1,decide_eq_true h2,Bool.true_and]
    rcases hs with ⟨s1,s2⟩ | ⟨s1,s2⟩
    ·have:=ET (a:=ly-py) (b:=qy-ly) (by omega) (by omega) s2 s1
     have:=(Bh hd e1).2.1 (by omega)
     rw [decide_eq_true this,decide_eq_true s1]
    ·have:=EU (a:=ly-py) (b:=qy-ly) (by omega) (by omega) s2 s1
     have:=(Bh hd e1).1 (by omega)
     rw [decide_eq_false (by omega),decide_eq_false (by omega)]
   ·rw [decide_eq_false h2];simp
  ·rw [decide_eq_false h1];simp
 ·by_cases h1:py<ty
  ·by_cases h2:ty≤qy
   ·rw [decide_eq_true h1,decide_eq_true h2,Bool.true_and]
    rcases hs with ⟨s1,s2⟩ | ⟨s1,s2⟩
    ·have:=ET (a:=ty-py) (b:=qy-ty) (by omega) (by omega) s2 s1
     have:=(Bh hd e2).2.1 (by omega)
     rw [decide_eq_true this,decide_eq_true s1]
    ·have:=EU (a:=ty-py) (b:=qy-ty) (by omega) (by omega) s2 s1
     have:=(Bh hd e2).1 (by omega)
     rw [decide_eq_false (by omega),decide_eq_false (by omega)]
   ·rw [decide_eq_false h2];simp
  ·rw [decide_eq_false h1];simp
theorem GF {lx ly tx ty px py:Int} (hl:ly<ty):Cn lx ly tx ty px py=(decide (ly≤py)&&decide (py<ty)&&decide (0<AK lx ly tx ty px py)):=by
 unfold Cn
 have e1:decide (ty > py)=decide (py<ty):=rfl
 rw [e1]
 by_cases h1:ly > py
 ·rw [decide_eq_true h1,decide_eq_true (show py<ty by omega),decide_eq_false (show ¬ ly≤py by omega)];rfl
 ·by_cases h2:py<ty
  ·rw [decide_eq_false h1,decide_eq_true h2,decide_eq_true (show ly≤py by omega)];rfl
  ·rw [decide_eq_false h1,decide_eq_false h2];simp
theorem IZ {ux uy vx vy px py:Int} (h:uy=vy):Cn ux uy vx vy px py=false:=by subst h;unfold Cn;simp
theorem Ia (ux uy vx vy px py:Int):Cn ux uy vx vy px py=Cn vx vy ux uy px py:=by
 unfold Cn
 cases decide (uy > py) <;> cases decide (vy > py) <;> rfl
theorem fP {py qy ly ty:Int} (D:Bool) (hpq:py≤qy) (hl:ly<ty):(decide (ly≤py)&&decide (py<ty)&&D).xor (decide (ly≤qy)&&decide (qy<ty)&&D)=(decide (py<ly)&&decide (ly≤qy)&&D).xor (decide (py<ty)&&decide (ty≤qy)&&D):=by
 have a1:decide (py<ly) = !decide (ly≤py):=by rw [← decide_not];exact decide_eq_decide.2 (by omega)
 have a2:decide (ty≤qy) = !decide (qy<ty):=by rw [← decide_not];exact decide_eq_decide.2 (by omega)
 rw [a1,a2]
 by_cases c1:ly≤py <;> by_cases c2:py<ty <;> by_cases c3:ly≤qy <;> by_cases c4:qy<ty <;> first
  | (exfalso;omega)
  | (simp only [c1,c2,c3,c4,decide_true,decide_false];cases D <;> rfl)
theorem cut_mid {lx ly tx ty px py qx qy:Int} (hpq:py<qy) (hl:ly<ty) (hs:(0<AK px py qx qy lx ly∧0<AK px py qx qy tx ty) ∨ (AK px py qx qy lx ly<0∧AK px py qx qy tx ty<0)) :
  (Cn lx ly tx ty px py=(decide (ly≤py)&&decide (py<ty)&&decide (AK px py qx qy lx ly<0)))∧(Cn lx ly tx ty qx qy=(decide (ly≤qy)&&decide (qy<ty)&&decide (AK px py qx qy lx ly<0))):=by
 have e1:(qy-py)*AK lx ly tx ty px py = -((ty-py)*AK px py qx qy lx ly+(py-ly)*AK px py qx qy tx ty):=by unfold AK;grind
 have e2:(qy-py)*AK lx ly tx ty qx qy = -((ty-qy)*AK px py qx qy lx ly+(qy-ly)*AK px py qx qy tx ty):=by unfold AK;grind
 have hd:0<qy-py:=by omega
 rw [GF hl,GF hl]
 constructor
 ·by_cases h1:ly≤py
  ·by_cases h2:py<ty
   ·rw [decide_eq_true h1,decide_eq_true h2,Bool.true_and]
    rcases hs with ⟨s1,s2⟩ | ⟨s1,s2⟩
    ·have:=ET (a:=ty-py) (b:=py-ly) (by omega) (by omega) s1 s2
     have:=(Bh hd e1).2.1 (by omega)
     rw [decide_eq_false (by omega),decide_eq_false (by omega)]
    ·have:=EU (a:=ty-py) (b:=py-ly) (by omega) (by omega) s1 s2
     have:=(Bh hd e1).1 (by omega)
     rw [decide_eq_true this,decide_eq_true s1]
   ·rw [decide_eq_false h2];simp
  ·rw [decide_eq_false h1];simp
 ·by_cases h1:ly≤qy
  ·by_cases h2:qy<ty
   ·rw [decide_eq_true h1,decide_eq_true h2,Bool.true_and]
    rcases hs with ⟨s1,s2⟩ | ⟨s1,s2⟩
    ·have:=ET (a:=ty-qy) (b:=qy-ly) (by omega) (by omega) s1 s2
     have:=(Bh hd e2).2.1 (by omega)
     rw [decide_eq_false (by omega),decide_eq_false (by omega)]
    ·have:=EU (a:=ty-qy) (b:=qy-ly) (by omega) (by omega) s1 s2
     have:=(Bh hd e2).1 (by omega)
     rw [decide_eq_true this,decide_eq_true s1]
   ·rw [decide_eq_false h2];simp
  ·rw [decide_eq_false h1];simp
theorem Ve {lx ly tx ty px py qx qy:Int} (hpq:py≤qy) (hl:ly<ty) (h:Cj px py qx qy lx ly tx ty) :
  (Cn lx ly tx ty px py).xor (Cn lx ly tx ty qx qy)=(DU px py qx qy lx ly).xor (DU px py qx qy tx ty):=by
 have line:((0<AK lx ly tx ty px py∧0<AK lx ly tx ty qx qy) ∨ (AK lx ly tx ty px py<0∧AK lx ly tx ty qx qy<0))→(Cn lx ly tx ty px py).xor (Cn lx ly tx ty qx qy)=(DU px py qx qy lx ly).xor (DU px py qx qy tx ty):=fun h=>by
  obtain ⟨k1,k2⟩:=cut_low hpq hl h
  have s1:decide (0<AK lx ly tx ty qx qy)=decide (0<AK lx ly tx ty px py):=decide_eq_decide.2 (by omega)
  rw [k1,k2,GF hl,GF hl,s1]
  exact fP _ hpq hl
 have pq:((0<AK px py qx qy lx ly∧0<AK px py qx qy tx ty) ∨ (AK px py qx qy lx ly<0∧AK px py qx qy tx ty<0))→(Cn lx ly tx ty px py).xor (Cn lx ly tx ty qx qy)=(DU px py qx qy lx ly).xor (DU px py qx qy tx ty):=fun h=>by
  by_cases he:py<qy
  ·obtain ⟨k1,k2⟩:=cut_mid he hl h
   have s1:decide (AK px py qx qy tx ty<0)=decide (AK px py qx qy lx ly<0):=decide_eq_decide.2 (by omega)
   unfold DU
   rw [k1,k2,s1]
   exact fP _ hpq hl
  ·obtain rfl:py=qy:=by omega
   have f1:AK px py qx py lx ly=(qx-px)*(ly-py):=by unfold AK;grind
   have f2:AK px py qx py tx ty=(qx-px)*(ty-py):=by unfold AK;grind
   have hno:¬ (ly≤py∧py<ty):=fun ⟨h1,h2⟩=>by
    rw [f1,f2] at h
    have z1:0≤ty-py:=by omega
    have z2:ly-py≤0:=by omega
    rcases Int.le_total 0 (qx-px) with h3 | h3
    ·have:=Int.mul_nonneg h3 z1
     have:=Int.mul_nonpos_of_nonneg_of_nonpos h3 z2
     omega
    ·have:=Int.mul_nonpos_of_nonpos_of_nonneg h3 z1
     have:=Int.mul_nonneg_of_nonpos_of_nonpos h3 z2
     omega
   have g1:(decide (ly≤py)&&decide (py<ty))=false:=by rw [← Bool.decide_and];exact decide_eq_false hno
   have g2:∀ z:Int,(decide (py<z)&&decide (z≤py))=false:=fun z=>by rw [← Bool.decide_and];exact decide_eq_false (by omega)
   unfold DU
   rw [GF hl,GF hl,g1,g2,g2]
   rfl
 rcases h with h | h | h | h | ⟨h1,h2,h3,h4⟩
 ·exact pq (.inl h)
 ·exact pq (.inr h)
 ·exact line (.inl h)
 ·exact line (.inr h)
 ·unfold DU
  rw [GF hl,GF hl,h1,h2,h3,h4]
  simp
theorem nH {px py qx qy ux uy vx:Int} (hpq:py≤qy) (h:Cj px py qx qy ux uy vx uy):DU px py qx qy ux uy=DU px py qx qy vx uy:=by
 have f1:AK ux uy vx uy px py=(vx-ux)*(py-uy):=by unfold AK;grind
 have f2:AK ux uy vx uy qx qy=(vx-ux)*(qy-uy):=by unfold AK;grind
 unfold DU
 by_cases h1:py<uy
 ·by_cases h2:uy≤qy
  ·rw [decide_eq_true h1,decide_eq_true h2]
   congr 1
   refine decide_eq_decide.2 ?_
   rw [Cj,f1,f2] at h
   have z1:py-uy≤0:=by omega
   have z2:0≤qy-uy:=by omega
   rcases Int.le_total 0 (vx-ux) with h3 | h3
   ·have:=Int.mul_nonneg h3 z2
    have:=Int.mul_nonpos_of_nonneg_of_nonpos h3 z1
    omega
   ·have:=Int.mul_nonpos_of_nonpos_of_nonneg h3 z2
    have:=Int.mul_nonneg_of_nonpos_of_nonpos h3 z1
    omega
  ·rw [decide_eq_false h2];simp
 ·rw [decide_eq_false h1];simp
theorem aC {ux uy vx vy px py qx qy:Int} (hpq:py≤qy) (h:Cj px py qx qy ux uy vx vy) :
  (Cn ux uy vx vy px py).xor (Cn ux uy vx vy qx qy)=(DU px py qx qy ux uy).xor (DU px py qx qy vx vy):=by
 rcases Int.lt_trichotomy uy vy with h1 | h1 | h1
 ·exact Ve hpq h1 h
 ·subst h1
  rw [IZ rfl,IZ rfl,nH hpq h]
  simp
 ·have:=Ve hpq h1 (KT h)
  rw [Ia ux uy,Ia ux uy,this,Bool.xor_comm]
/-! Rings as rows of spots. -/
def CJ (f:Nat→Bool):Nat→Bool
 | 0=>false
 | n+1=>(CJ f n).xor (f n)
theorem GG {f g:Nat→Bool}:∀ n,(∀ i,i<n→f i=g i)→CJ f n=CJ g n
 | 0,_=>rfl
 | n+1,h=>by rw [CJ,CJ,GG n fun i hi=>h i (by omega),h n (by omega)]
theorem OY (f g:Nat→Bool):∀ n,CJ (fun i=>(f i).xor (g i)) n=(CJ f n).xor (CJ g n)
 | 0=>rfl
 | n+1=>by
  rw [CJ,CJ,CJ,OY f g n]
  cases CJ f n <;> cases CJ g n <;> cases f n <;> cases g n <;> rfl
theorem Qe (f:Nat→Bool):∀ n,CJ f (n+1)=(f 0).xor (CJ (fun i=>f (i+1)) n)
 | 0=>by simp [CJ]
 | n+1=>by rw [CJ,Qe f n,CJ,Bool.xor_assoc]
theorem bK (f:Nat→Bool):∀ n,CJ (fun i=>f ((i+1) % n)) n=CJ f n
 | 0=>rfl
 | n+1=>by
  have e:CJ (fun i=>f ((i+1) % (n+1))) n=CJ (fun i=>f (i+1)) n:=GG n fun i hi=>by rw [Nat.mod_eq_of_lt (show i+1<n+1 by omega)]
  rw [CJ,e,Qe f n,Nat.mod_self,Bool.xor_comm]
theorem Jt {f:Nat→Bool}:∀ n,CJ f n=true→∃ i,i<n∧f i=true
 | 0,h=>by cases h
 | n+1,h=>by
  cases hf:f n with
  | true=>exact ⟨n,by omega,hf⟩
  | false =>
   rw [CJ,hf,Bool.xor_false] at h
   obtain ⟨i,hi,h⟩:=Jt n h
   exact ⟨i,by omega,h⟩
def Bw (X Y:Nat→Int) (n:Nat) (px py:Int):Bool:=CJ (fun i=>Cn (X i) (Y i) (X ((i+1) % n)) (Y ((i+1) % n)) px py) n
theorem Yr {X Y:Nat→Int} {n:Nat} {px py qx qy:Int} (hpq:py≤qy) (h:∀ i,i<n→Cj px py qx qy (X i) (Y i) (X ((i+1) % n)) (Y ((i+1) % n))):Bw X Y n px py=Bw X Y n qx qy:=by
 have e:(Bw X Y n px py).xor (Bw X Y n qx qy)=false:=by
  unfold Bw
  rw [← OY,GG n fun i hi=>aC hpq (h i hi),OY,bK (fun i=>DU px py qx qy (X i) (Y i)) n,Bool.xor_self]
 cases h1:Bw X Y n px py <;> cases h2:Bw X Y n qx qy <;> rw [h1,h2] at e <;> first | rfl | cases e
theorem iJ {X Y:Nat→Int} {n:Nat} {px py qx qy:Int} (h:∀ i,i<n→Cj px py qx qy (X i) (Y i) (X ((i+1) % n)) (Y ((i+1) % n))):Bw X Y n px py=Bw X Y n qx qy:=by
 rcases Int.le_total py qy with h1 | h1
 ·exact Yr h1 h
 ·exact (Yr h1 fun i hi=>Ek (h i hi)).symm
theorem RN {X Y A B:Nat→Int} {n k:Nat} (h:∀ j,j<k→∀ i,i<n→Cj (A j) (B j) (A ((j+1) % k)) (B ((j+1) % k)) (X i) (Y i) (X ((i+1) % n)) (Y ((i+1) % n))):∀ j,j<k→Bw X Y n (A j) (B j)=Bw X Y n (A 0) (B 0)
 | 0,_=>rfl
 | j+1,hj=>by
  have:=iJ (h j (by omega))
  rw [Nat.mod_eq_of_lt hj] at this
  rw [← this,RN h j (by omega)]
theorem Vi {ux uy vx vy px py:Int} (h:Cn ux uy vx vy px py=true):px<ux ∨ px<vx:=by
 have key:∀ {lx ly tx ty:Int},ly<ty→Cn lx ly tx ty px py=true→px<lx ∨ px<tx:=fun {lx ly tx ty} hl h=>by
  rw [GF hl,Bool.and_eq_true,Bool.and_eq_true,decide_eq_true_eq,decide_eq_true_eq,decide_eq_true_eq] at h
  obtain ⟨⟨h1,h2⟩,h3⟩:=h
  rcases Int.lt_or_le px lx with h4 | h4
  ·exact .inl h4
  ·rcases Int.lt_or_le px tx with h5 | h5
   ·exact .inr h5
   ·exfalso
    have e:AK lx ly tx ty px py = -((px-tx)*(py-ly)+(px-lx)*(ty-py)):=by unfold AK;grind
    have z1:=Int.mul_nonneg (show 0≤px-tx by omega) (show 0≤py-ly by omega)
    have z2:=Int.mul_nonneg (show 0≤px-lx by omega) (show 0≤ty-py by omega)
    omega
 rcases Int.lt_trichotomy uy vy with h1 | h1 | h1
 ·exact key h1 h
 ·rw [IZ h1] at h;cases h
 ·rw [Ia] at h
  exact (key h1 h).symm
theorem Tw {X Y:Nat→Int} {n:Nat} {px py:Int} (h:Bw X Y n px py=true):∃ i,i<n∧px<X i:=by
 obtain ⟨i,hi,hc⟩:=Jt n h
 rcases Vi hc with h1 | h1
 ·exact ⟨i,hi,h1⟩
 ·exact ⟨(i+1) % n,Nat.mod_lt _ (by omega),h1⟩
theorem dD (X:Nat→Int):∀ n,0<n→∃ i,i<n∧∀ j,j<n→X j≤X i
 | 0,h=>by omega
 | 1,_=>⟨0,by omega,fun j hj=>by
   have:j=0:=by omega
   rw [this];exact Int.le_refl _⟩
 | n+2,_=>by
  obtain ⟨i,hi,hm⟩:=dD X (n+1) (by omega)
  rcases Int.le_total (X (n+1)) (X i) with h | h
  ·exact ⟨i,by omega,fun j hj=>by
    by_cases hj':j<n+1
    ·exact hm j hj'
    ·obtain rfl:j=n+1:=by omega
     exact h⟩
  ·exact ⟨n+1,by omega,fun j hj=>by
    by_cases hj':j<n+1
    ·exact Int.le_trans (hm j hj') h
    ·obtain rfl:j=n+1:=by omega
     exact Int.le_refl _⟩
theorem rM {X Y A B:Nat→Int} {n k:Nat} (hk:0<k) (h1:∀ j,j<k→Bw X Y n (A j) (B j)=true) (h2:∀ i,i<n→Bw A B k (X i) (Y i)=true):False:=by
 obtain ⟨j,hj,hm⟩:=dD A k hk
 obtain ⟨i,hi,h3⟩:=Tw (h1 j hj)
 obtain ⟨j',hj',h4⟩:=Tw (h2 i hi)
 have:=hm j' hj'
 omega
/-! Where a rising side comes to a height, all told as many times as it rises. -/
structure Rise where
 lx:Int
 ly:Int
 tx:Int
 ty:Int
def Rise.d (e:Rise):Int:=e.ty-e.ly
def Rise.at (e:Rise) (y:Int):Int:=e.lx*(e.ty-y)+e.tx*(y-e.ly)
theorem Q3 (y:Int):∀ L:List Rise,L ≠ []→(∀ e ∈ L,0<e.d)→∃ e ∈ L,∀ f ∈ L,f.d*e.at y≤e.d*f.at y
 | [],h,_=>absurd rfl h
 | [a],_,_=>⟨a,by simp,fun f hf=>by
   rw [List.mem_singleton] at hf;subst hf;exact Int.le_refl _⟩
 | a :: b :: L,_,hp=>by
  obtain ⟨m,hm,hmin⟩:=Q3 y (b :: L) (by simp) fun e he=>hp e (List.mem_cons_of_mem _ he)
  rcases Int.le_total (m.d*a.at y) (a.d*m.at y) with h | h
  ·refine ⟨a,by simp,fun f hf=>?_⟩
   rcases List.mem_cons.1 hf with rfl | hf
   ·exact Int.le_refl _
   ·have h1:=hmin f hf
    have pm:=hp m (List.mem_cons_of_mem _ hm)
    have pf:=hp f (List.mem_cons_of_mem _ hf)
    have pa:=hp a (by simp)
    have k1:f.d*(m.d*a.at y)≤f.d*(a.d*m.at y):=Int.mul_le_mul_of_nonneg_left h (Int.le_of_lt pf)
    have k2:a.d*(f.d*m.at y)≤a.d*(m.d*f.at y):=Int.mul_le_mul_of_nonneg_left h1 (Int.le_of_lt pa)
    have k3:m.d*(f.d*a.at y)≤m.d*(a.d*f.at y):=by
     have e1:m.d*(f.d*a.at y)=f.d*(m.d*a.at y):=by grind
     have e2:m.d*(a.d*f.at y)=a.d*(m.d*f.at y):=by grind
     have e3:f.d*(a.d*m.at y)=a.d*(f.d*m.at y):=by grind
     omega
    exact Int.le_of_mul_le_mul_left k3 pm
  ·exact ⟨m,List.mem_cons_of_mem _ hm,fun f hf=>by
    rcases List.mem_cons.1 hf with rfl | hf
    ·exact h
    ·exact hmin f hf⟩
def CH (ux uy vx vy:Int):Rise:=bif decide (uy<vy) then ⟨ux,uy,vx,vy⟩ else ⟨vx,vy,ux,uy⟩
theorem nQ {D:Int} (hD:0<D) (ux uy vx vy px py:Int):Cn (D*ux) uy (D*vx) vy (D*px) py=Cn ux uy vx vy px py:=by
 have e:∀ a b c d:Int,decide (0<AK (D*a) b (D*c) d (D*px) py)=decide (0<AK a b c d px py):=fun a b c d=>decide_eq_decide.2 (by
  have e:AK (D*a) b (D*c) d (D*px) py=D*AK a b c d px py:=by unfold AK;grind
  rw [e]
  exact ⟨fun h=>(Bh hD rfl).1 h,fun h=>Int.mul_pos hD h⟩)
 unfold Cn
 rw [e,e]
theorem lP {D:Int} (hD:0<D) (X Y:Nat→Int) (n:Nat) (px py:Int):Bw (fun i=>D*X i) Y n (D*px) py=Bw X Y n px py :=
 GG n fun i _=>nQ hD _ _ _ _ _ _
def DM (px py qx qy ux uy vx vy:Int):Prop:=Cj px py qx qy ux uy vx vy ∧
 (AK px py qx qy ux uy=0∧AK px py qx qy vx vy=0∧py ≠ qy→∀ y,((py≤y∧y≤qy) ∨ (qy≤y∧y≤py))→((uy≤y∧y≤vy) ∨ (vy≤y∧y≤uy))→False)
theorem rise_ne {e f:Rise} {y:Int} (he:e.ly≤y∧y<e.ty) (hf:f.ly≤y∧y<f.ty) (h:DM e.lx e.ly e.tx e.ty f.lx f.ly f.tx f.ty):f.d*e.at y ≠ e.d*f.at y:=by
 intro heq
 have i1:(f.ty-y)*AK e.lx e.ly e.tx e.ty f.lx f.ly+(y-f.ly)*AK e.lx e.ly e.tx e.ty f.tx f.ty=f.d*e.at y-e.d*f.at y:=by unfold AK Rise.d Rise.at;grind
 have i2:(e.ty-y)*AK f.lx f.ly f.tx f.ty e.lx e.ly+(y-e.ly)*AK f.lx f.ly f.tx f.ty e.tx e.ty=e.d*f.at y-f.d*e.at y:=by unfold AK Rise.d Rise.at;grind
 obtain ⟨h1,h2⟩:=h
 rcases h1 with ⟨a,b⟩ | ⟨a,b⟩ | ⟨a,b⟩ | ⟨a,b⟩ | ⟨a,b,_,_⟩
 ·have:=ET (a:=f.ty-y) (b:=y-f.ly) (by omega) (by omega) a b;omega
 ·have:=EU (a:=f.ty-y) (b:=y-f.ly) (by omega) (by omega) a b;omega
 ·have:=ET (a:=e.ty-y) (b:=y-e.ly) (by omega) (by omega) a b;omega
 ·have:=EU (a:=e.ty-y) (b:=y-e.ly) (by omega) (by omega) a b;omega
 ·exact h2 ⟨a,b,by omega⟩ y (.inl ⟨he.1,by omega⟩) (.inl ⟨hf.1,by omega⟩)
theorem cut_at {e f:Rise} {y px:Int} (hd:0<e.d) (hf:f.ly<f.ty) (hp:e.d*px<e.at y) (hmin:f.ly≤y→y<f.ty→f.d*px<f.at y→f.d*e.at y<e.d*f.at y) :
  Cn (e.d*f.lx) f.ly (e.d*f.tx) f.ty (e.at y) y=Cn f.lx f.ly f.tx f.ty px y:=by
 have i1:AK (e.d*f.lx) f.ly (e.d*f.tx) f.ty (e.at y) y=e.d*f.at y-f.d*e.at y:=by unfold AK;simp only [Rise.d,Rise.at];grind
 have i2:AK f.lx f.ly f.tx f.ty px y=f.at y-f.d*px:=by unfold AK Rise.d Rise.at;grind
 rw [GF hf,GF hf,i1,i2]
 by_cases h1:f.ly≤y
 ·by_cases h2:y<f.ty
  ·rw [decide_eq_true h1,decide_eq_true h2,Bool.true_and]
   refine decide_eq_decide.2 ⟨fun h=>?_,fun h=>?_⟩
   ·have hfd:0<f.d:=by unfold Rise.d;omega
    have k1:f.d*(e.d*px)<f.d*e.at y:=Int.mul_lt_mul_of_pos_left hp hfd
    have k2:e.d*(f.d*px)=f.d*(e.d*px):=by grind
    have k3:e.d*(f.d*px)<e.d*f.at y:=by omega
    have:=Int.lt_of_mul_lt_mul_left k3 (Int.le_of_lt hd)
    omega
   ·have:=hmin h1 h2 (by omega)
    omega
  ·rw [decide_eq_false h2];simp
 ·rw [decide_eq_false h1];simp
theorem eX {e:Rise} {y ax ay bx bY:Int} (hy:e.ly<y∧y<e.ty) (h:Cj e.lx e.ly e.tx e.ty ax ay bx bY):Cj (e.d*e.lx) e.ly (e.at y) y (e.d*ax) ay (e.d*bx) bY:=by
 have hd:0<e.d:=by unfold Rise.d;omega
 have hl:0<y-e.ly:=by omega
 have i1:∀ wx wy:Int,AK (e.d*e.lx) e.ly (e.at y) y (e.d*wx) wy=(y-e.ly)*AK e.lx e.ly e.tx e.ty wx wy:=fun wx wy=>by unfold AK;simp only [Rise.d,Rise.at];grind
 have i2:AK (e.d*ax) ay (e.d*bx) bY (e.d*e.lx) e.ly=e.d*AK ax ay bx bY e.lx e.ly:=by unfold AK;grind
 have i3:AK (e.d*ax) ay (e.d*bx) bY (e.at y) y=(e.ty-y)*AK ax ay bx bY e.lx e.ly+(y-e.ly)*AK ax ay bx bY e.tx e.ty:=by unfold AK;simp only [Rise.d,Rise.at];grind
 unfold Cj
 rw [i1,i1,i2,i3]
 rcases h with ⟨a,b⟩ | ⟨a,b⟩ | ⟨a,b⟩ | ⟨a,b⟩ | ⟨a,b,c,d⟩
 ·exact .inl ⟨Int.mul_pos hl a,Int.mul_pos hl b⟩
 ·exact .inr (.inl ⟨Int.mul_neg_of_pos_of_neg hl a,Int.mul_neg_of_pos_of_neg hl b⟩)
 ·exact .inr (.inr (.inl ⟨Int.mul_pos hd a,ET (by omega) (by omega) a b⟩))
 ·exact .inr (.inr (.inr (.inl ⟨Int.mul_neg_of_pos_of_neg hd a,EU (by omega) (by omega) a b⟩)))
 ·exact .inr (.inr (.inr (.inr ⟨by rw [a,Int.mul_zero],by rw [b,Int.mul_zero],by rw [c,Int.mul_zero],by rw [c,d,Int.mul_zero,Int.mul_zero];rfl⟩)))
theorem Gg {px py qx qy ux uy vx vy:Int} (h:DM px py qx qy ux uy vx vy):DM qx qy px py ux uy vx vy :=
 ⟨Ek h.1,fun ⟨h1,h2,h3⟩ y g1 g2=>h.2 ⟨by have:=Cw px py qx qy ux uy;omega,by have:=Cw px py qx qy vx vy;omega,fun e=>h3 e.symm⟩ y g1.symm g2⟩
theorem Gf {px py qx qy ux uy vx vy:Int} (h:DM px py qx qy ux uy vx vy):DM px py qx qy vx vy ux uy :=
 ⟨KT h.1,fun ⟨h1,h2,h3⟩ y g1 g2=>h.2 ⟨h2,h1,h3⟩ y g1 g2.symm⟩
theorem J5 {ux uy vx vy ax ay bx bY:Int} (h:DM ux uy vx vy ax ay bx bY):DM (CH ux uy vx vy).lx (CH ux uy vx vy).ly (CH ux uy vx vy).tx (CH ux uy vx vy).ty ax ay bx bY:=by
 unfold CH
 cases decide (uy<vy) with
 | true=>exact h
 | false=>exact Gg h
theorem YB {ux uy vx vy ax ay bx bY:Int} (h:DM ux uy vx vy ax ay bx bY):DM ux uy vx vy (CH ax ay bx bY).lx (CH ax ay bx bY).ly (CH ax ay bx bY).tx (CH ax ay bx bY).ty:=by
 unfold CH
 cases decide (ay<bY) with
 | true=>exact h
 | false=>exact Gf h
theorem MB {ux uy vx vy:Int} (h:uy ≠ vy):(CH ux uy vx vy).ly<(CH ux uy vx vy).ty:=by
 unfold CH
 by_cases h1:uy<vy
 ·rw [decide_eq_true h1];exact h1
 ·rw [decide_eq_false h1];show vy<uy;omega
theorem WR {ux uy vx vy:Int} (h:uy ≠ vy):0<(CH ux uy vx vy).d:=by
 have:=MB (ux:=ux) (vx:=vx) h
 unfold Rise.d
 omega
theorem aH (D ux uy vx vy px py:Int):Cn (D*ux) uy (D*vx) vy px py=Cn (D*(CH ux uy vx vy).lx) (CH ux uy vx vy).ly (D*(CH ux uy vx vy).tx) (CH ux uy vx vy).ty px py:=by
 unfold CH
 cases decide (uy<vy) with
 | true=>rfl
 | false=>exact Ia _ _ _ _ _ _
theorem H5 (ux uy vx vy px py:Int):Cn ux uy vx vy px py=Cn (CH ux uy vx vy).lx (CH ux uy vx vy).ly (CH ux uy vx vy).tx (CH ux uy vx vy).ty px py:=by
 have:=aH 1 ux uy vx vy px py
 simpa using this
theorem OI {e:Rise} {px py:Int} (h:e.ly<e.ty):Cn e.lx e.ly e.tx e.ty px py=true ↔ (e.ly≤py∧py<e.ty)∧e.d*px<e.at py:=by
 have i2:AK e.lx e.ly e.tx e.ty px py=e.at py-e.d*px:=by unfold AK Rise.d Rise.at;grind
 rw [GF h,Bool.and_eq_true,Bool.and_eq_true,decide_eq_true_eq,decide_eq_true_eq,decide_eq_true_eq,i2]
 omega
theorem QT {X Y:Nat→Int} {n:Nat} {px py:Int} {e:Rise} (hc:(e.ly≤py∧py<e.ty)∧e.d*px<e.at py) (hn:∀ i,i<n→DM e.lx e.ly e.tx e.ty (X i) (Y i) (X ((i+1) % n)) (Y ((i+1) % n)))
  (hmin:∀ i,i<n→Cn (X i) (Y i) (X ((i+1) % n)) (Y ((i+1) % n)) px py=true→(CH (X i) (Y i) (X ((i+1) % n)) (Y ((i+1) % n))).d*e.at py≤e.d*(CH (X i) (Y i) (X ((i+1) % n)) (Y ((i+1) % n))).at py) :
  Bw X Y n e.lx e.ly=Bw X Y n px py:=by
 have hd:0<e.d:=by unfold Rise.d;omega
 have s1:Bw (fun i=>e.d*X i) Y n (e.at py) py=Bw X Y n px py:=by
  refine GG n fun i hi=>?_
  have hni:=hn i hi
  have hmi:=hmin i hi
  simp only
  generalize X i=ux at *
  generalize Y i=uy at *
  generalize X ((i+1) % n)=vx at *
  generalize Y ((i+1) % n)=vy at *
  by_cases hf:uy=vy
  ·rw [IZ hf,IZ hf]
  ·have hu:=MB (ux:=ux) (vx:=vx) hf
   have ha:=YB hni
   rw [aH,H5 ux uy vx vy px py]
   rw [H5 ux uy vx vy px py] at hmi
   generalize CH ux uy vx vy=f at *
   refine cut_at hd hu hc.2 fun h1 h2 h3=>?_
   have h4:=hmi ((OI hu).2 ⟨⟨h1,h2⟩,h3⟩)
   have h5:=rise_ne hc.1 ⟨h1,h2⟩ ha
   omega
 have s2:Bw (fun i=>e.d*X i) Y n (e.d*e.lx) e.ly=Bw (fun i=>e.d*X i) Y n (e.at py) py:=by
  by_cases hy:e.ly=py
  ·have:e.at py=e.d*e.lx:=by subst hy;unfold Rise.d Rise.at;grind
   rw [this,hy]
  ·exact iJ fun i hi=>eX ⟨by omega,hc.1.2⟩ (hn i hi).1
 rw [← s1,← s2,lP hd]
def Lo (A B:Nat→Int) (k:Nat) (px py:Int):List Rise:=((List.range k).filter fun j=>Cn (A j) (B j) (A ((j+1) % k)) (B ((j+1) % k)) px py).map fun j=>CH (A j) (B j) (A ((j+1) % k)) (B ((j+1) % k))
theorem DW {A B:Nat→Int} {k:Nat} {px py:Int} {e:Rise}:e ∈ Lo A B k px py ↔ ∃ j,j<k∧Cn (A j) (B j) (A ((j+1) % k)) (B ((j+1) % k)) px py=true∧e=CH (A j) (B j) (A ((j+1) % k)) (B ((j+1) % k)):=by
 unfold Lo
 rw [List.mem_map]
 constructor
 ·rintro ⟨j,hj,rfl⟩
  rw [List.mem_filter,List.mem_range] at hj
  exact ⟨j,hj.1,hj.2,rfl⟩
 ·rintro ⟨j,h1,h2,rfl⟩
  exact ⟨j,List.mem_filter.2 ⟨List.mem_range.2 h1,h2⟩,rfl⟩
theorem Dd {ux uy vx vy px py:Int} (h:Cn ux uy vx vy px py=true):uy ≠ vy:=fun e=>by
 rw [IZ e] at h;cases h
theorem Ni {P:Int→Int→Prop} {ux uy vx vy:Int} (h1:P ux uy) (h2:P vx vy):P (CH ux uy vx vy).lx (CH ux uy vx vy).ly:=by
 unfold CH
 cases decide (uy<vy) with
 | true=>exact h1
 | false=>exact h2
theorem Tv {X Y A B:Nat→Int} {n k:Nat} {px py:Int} (hKJ:∀ j,j<k→∀ i,i<n→DM (A j) (B j) (A ((j+1) % k)) (B ((j+1) % k)) (X i) (Y i) (X ((i+1) % n)) (Y ((i+1) % n)))
  (hJK:∀ i,i<n→∀ j,j<k→DM (X i) (Y i) (X ((i+1) % n)) (Y ((i+1) % n)) (A j) (B j) (A ((j+1) % k)) (B ((j+1) % k)))
  (h1:Bw A B k px py=true) (h2:∀ j,j<k→Bw X Y n (A j) (B j)=true) (h3:∀ i,i<n→Bw A B k (X i) (Y i)=false):Bw X Y n px py=true:=by
 obtain ⟨j0,hj0,hc0⟩:=Jt k h1
 have hne:Lo A B k px py++Lo X Y n px py ≠ []:=by
  have:CH (A j0) (B j0) (A ((j0+1) % k)) (B ((j0+1) % k)) ∈ Lo A B k px py:=DW.2 ⟨j0,hj0,hc0,rfl⟩
  intro e
  rw [List.append_eq_nil_iff] at e
  rw [e.1] at this
  cases this
 obtain ⟨e,he,hmin⟩:=Q3 py _ hne fun e he=>by
  rw [List.mem_append,DW,DW] at he
  rcases he with ⟨j,hj,hc,rfl⟩ | ⟨j,hj,hc,rfl⟩
  ·exact WR (Dd hc)
  ·exact WR (Dd hc)
 rw [List.mem_append,DW,DW] at he
 rcases he with ⟨j,hj,hc,he⟩ | ⟨i,hi,hc,he⟩
 ·have hu:=MB (Dd hc) (ux:=A j) (vx:=A ((j+1) % k))
  have hc':=hc
  rw [H5,OI hu,← he] at hc'
  have hl:Bw X Y n e.lx e.ly=true:=by rw [he];exact Ni (P:=fun x y=>Bw X Y n x y=true) (h2 j hj) (h2 _ (Nat.mod_lt _ (by omega)))
  rw [← QT hc' (fun i hi=>by rw [he];exact J5 (hKJ j hj i hi)) fun i hi hci=>hmin _ (List.mem_append_right _ (DW.2 ⟨i,hi,hci,rfl⟩)),hl]
 ·exfalso
  have hu:=MB (Dd hc) (ux:=X i) (vx:=X ((i+1) % n))
  have hc':=hc
  rw [H5,OI hu,← he] at hc'
  have hl:Bw A B k e.lx e.ly=false:=by rw [he];exact Ni (P:=fun x y=>Bw A B k x y=false) (h3 i hi) (h3 _ (Nat.mod_lt _ (by omega)))
  rw [QT hc' (fun j hj=>by rw [he];exact J5 (hJK i hi j hj)) fun j hj hcj=>hmin _ (List.mem_append_left _ (DW.2 ⟨j,hj,hcj,rfl⟩)),h1] at hl
  cases hl
theorem O6 {dx dy a b:Int} (hx:0<dx) (e:dx*a=dy*b):(0<dy→(a≤0→b≤0)∧(0≤a→0≤b)∧(0<b→0<a))∧(dy<0→(a≤0→0≤b)∧(0≤a→b≤0)∧(0<b→a<0))∧(b=0→a=0):=by
 refine ⟨fun hy=>⟨fun ha=>?_,fun ha=>?_,fun hb=>?_⟩,fun hy=>⟨fun ha=>?_,fun ha=>?_,fun hb=>?_⟩,fun hb=>?_⟩
 ·have:=Int.mul_nonpos_of_nonneg_of_nonpos (Int.le_of_lt hx) ha
  rcases Int.lt_or_le 0 b with h | h
  ·have:=Int.mul_pos hy h;omega
  ·exact h
 ·have:=Int.mul_nonneg (Int.le_of_lt hx) ha
  rcases Int.lt_or_le b 0 with h | h
  ·have:=Int.mul_neg_of_pos_of_neg hy h;omega
  ·exact h
 ·have:=Int.mul_pos hy hb
  exact (Bh hx e).1 (by omega)
 ·have:=Int.mul_nonpos_of_nonneg_of_nonpos (Int.le_of_lt hx) ha
  rcases Int.lt_or_le b 0 with h | h
  ·have:=Int.mul_pos_of_neg_of_neg hy h;omega
  ·exact h
 ·have:=Int.mul_nonneg (Int.le_of_lt hx) ha
  rcases Int.lt_or_le 0 b with h | h
  ·have:=Int.mul_neg_of_neg_of_pos hy h;omega
  ·exact h
 ·have:=Int.mul_neg_of_neg_of_pos hy hb
  exact (Bh hx e).2.1 (by omega)
 ·subst hb
  exact (Bh hx e).2.2 (by rw [Int.mul_zero])
theorem OP {x0 y0 x1 y1 u0 v0 u1 v1:Int} (hs:BP x0 y0 x1 y1) (ht:BP u0 v0 u1 v1) (h:¬ Cr x0 y0 x1 y1 u0 v0 u1 v1):DM x0 y0 x1 y1 u0 v0 u1 v1:=by
 constructor
 ·by_cases hc:AK x0 y0 x1 y1 u0 v0=0∧AK x0 y0 x1 y1 u1 v1=0
  ·obtain ⟨k1,k2⟩:=MV hs hc.1 hc.2
   exact .inr (.inr (.inr (.inr ⟨hc.1,hc.2,k1,k2⟩)))
  ·have h2:¬ (apart (AK x0 y0 x1 y1 u0 v0) (AK x0 y0 x1 y1 u1 v1)∧apart (AK u0 v0 u1 v1 x0 y0) (AK u0 v0 u1 v1 x1 y1)):=fun k=>h (.inr ⟨hc,k⟩)
   unfold apart at h2
   unfold Cj
   omega
 ·rintro ⟨h1,h2,hy⟩ y g1 g2
  apply h
  refine .inl ⟨h1,h2,?_⟩
  have e1:(x1-x0)*(v0-y1)=(y1-y0)*(u0-x1):=by unfold AK at h1;grind
  have e2:(x1-x0)*(v1-y0)=(y1-y0)*(u1-x0):=by unfold AK at h2;grind
  have e3:(x1-x0)*(v1-v0)=(y1-y0)*(u1-u0):=by unfold AK at h1 h2;grind
  unfold BP at hs ht
  unfold C8
  by_cases hx:x1-x0=0
  ·rw [hx,Int.zero_mul] at e1 e2
   have z1:u0-x1=0:=by rcases Int.mul_eq_zero.1 e1.symm with z | z <;> omega
   have z2:u1-x0=0:=by rcases Int.mul_eq_zero.1 e2.symm with z | z <;> omega
   omega
  ·have hx0:0<x1-x0:=by omega
   have l1:=O6 hx0 e1
   have l2:=O6 hx0 e2
   have l3:=O6 hx0 e3
   have hu:u0<u1:=by
    rcases ht with ht | ⟨t1,t2⟩
    ·exact ht
    ·have:=l3.2.2 (by omega);omega
   have hx1:x0<x1:=by omega
   clear hs ht h h1 h2 e1 e2 e3
   rcases Int.lt_or_le 0 (y1-y0) with hd | hd
   ·have hv:=(l3.1 hd).2.2 (by omega)
    have a1:=(l1.1 hd).1
    have b1:=(l2.1 hd).2.1
    clear l1 l2 l3
    have g3:y0≤y∧y≤y1:=by omega
    have g4:v0≤y∧y≤v1:=by omega
    have:=a1 (by omega)
    have:=b1 (by omega)
    omega
   ·have hd:y1-y0<0:=by omega
    have hv:=(l3.2.1 hd).2.2 (by omega)
    have a1:=(l1.2.1 hd).2.1
    have b1:=(l2.2.1 hd).1
    have a2:=l1.2.2
    have b2:=l2.2.2
    clear l1 l2 l3
    have g3:y1≤y∧y≤y0:=by omega
    have g4:v1≤y∧y≤v0:=by omega
    have c1:=a1 (by omega)
    have c2:=b1 (by omega)
    refine ⟨?_,?_⟩
    ·by_cases hq:u0-x1=0
     ·have:=a2 hq;omega
     ·omega
    ·by_cases hq:u1-x0=0
     ·have:=b2 hq;omega
     ·omega
noncomputable section
set_option maxHeartbeats 1000000
/-! ### function 58 -/
def T58 {ρ:Type} (ret:OX ρ) (ax:Int) (ay:Int) (bx:Int) (bY:Int) (px:Int) (py:Int):Option ρ :=
 (AD ((wd3 ax==wd3 px&&(wd2 ax==wd2 px&&(wd1 ax==wd1 px&&(wd0 ax==wd0 px&&true)))&&(wd3 ay==wd3 py&&(wd2 ay==wd2 py&&(wd1 ay==wd1 py&&(wd0 ay==wd0 py&&true)))&&(wd3 1==wd3 1&&(wd2 1==wd2 1&&(wd1 1==wd1 1&&(wd0 1==wd0 1&&true)))&&true)))==false)
 (AD (wd3 bx==wd3 px&&(wd2 bx==wd2 px&&(wd1 bx==wd1 px&&(wd0 bx==wd0 px&&true)))&&(wd3 bY==wd3 py&&(wd2 bY==wd2 py&&(wd1 bY==wd1 py&&(wd0 bY==wd0 py&&true)))&&true))
 (ret (true))
 (AD (EL (wd3 ax) (wd2 ax) (wd1 ax) (wd0 ax) (wd3 ay) (wd2 ay) (wd1 ay) (wd0 ay) (wd3 1) (wd2 1) (wd1 1) (wd0 1)&&EL (wd3 px) (wd2 px) (wd1 px) (wd0 px) (wd3 py) (wd2 py) (wd1 py) (wd0 py) (wd3 1) (wd2 1) (wd1 1) (wd0 1))
 (AD (EL (wd3 px) (wd2 px) (wd1 px) (wd0 px) (wd3 py) (wd2 py) (wd1 py) (wd0 py) (wd3 1) (wd2 1) (wd1 1) (wd0 1)&&EL (wd3 bx) (wd2 bx) (wd1 bx) (wd0 bx) (wd3 bY) (wd2 bY) (wd1 bY) (wd0 bY) (wd3 1) (wd2 1) (wd1 1) (wd0 1))
 (AD (decide (IntKind.i64.wrap (CZ (Af (wd3 ax) (wd2 ax) (wd1 ax) (wd0 ax)) (Af (wd3 ay) (wd2 ay) (wd1 ay) (wd0 ay)) (Af (wd3 1) (wd2 1) (wd1 1) (wd0 1)) (Af (wd3 px) (wd2 px) (wd1 px) (wd0 px)) (Af (wd3 py) (wd2 py) (wd1 py) (wd0 py)) (Af (wd3 1) (wd2 1) (wd1 1) (wd0 1))*CZ (Af (wd3 px) (wd2 px) (wd1 px) (wd0 px)) (Af (wd3 py) (wd2 py) (wd1 py) (wd0 py)) (Af (wd3 1) (wd2 1) (wd1 1) (wd0 1)) (Af (wd3 bx) (wd2 bx) (wd1 bx) (wd0 bx)) (Af (wd3 bY) (wd2 bY) (wd1 bY) (wd0 bY)) (Af (wd3 1) (wd2 1) (wd1 1) (wd0 1))) > 0)==true)
 (AD (EL (wd3 ax) (wd2 ax) (wd1 ax) (wd0 ax) (wd3 ay) (wd2 ay) (wd1 ay) (wd0 ay) (wd3 1) (wd2 1) (wd1 1) (wd0 1)&&EL (wd3 bx) (wd2 bx) (wd1 bx) (wd0 bx) (wd3 bY) (wd2 bY) (wd1 bY) (wd0 bY) (wd3 1) (wd2 1) (wd1 1) (wd0 1)&&EL (wd3 px) (wd2 px) (wd1 px) (wd0 px) (wd3 py) (wd2 py) (wd1 py) (wd0 py) (wd3 1) (wd2 1) (wd1 1) (wd0 1))
 (ret ((eL (Af (wd3 ax) (wd2 ax) (wd1 ax) (wd0 ax)) (Af (wd3 ay) (wd2 ay) (wd1 ay) (wd0 ay)) (Af (wd3 1) (wd2 1) (wd1 1) (wd0 1)) (Af (wd3 bx) (wd2 bx) (wd1 bx) (wd0 bx)) (Af (wd3 bY) (wd2 bY) (wd1 bY) (wd0 bY)) (Af (wd3 1) (wd2 1) (wd1 1) (wd0 1)) (Af (wd3 px) (wd2 px) (wd1 px) (wd0 px)) (Af (wd3 py) (wd2 py) (wd1 py) (wd0 py)) (Af (wd3 1) (wd2 1) (wd1 1) (wd0 1))).sign==0))
 none)
 (ret (false)))
 none)
 none))
 (ret (true)))
def G58 (ax:Int) (ay:Int) (bx:Int) (bY:Int) (px:Int) (py:Int):Option (Bool):=T58 some ax ay bx bY px py
theorem t58 (ax:Int) (ay:Int) (bx:Int) (bY:Int) (px:Int) (py:Int) (r:Bool) (h:G58 ax ay bx bY px py=some r):AX Tryz.prog Tryz.f58.results.toList [.code (AT Tryz.f58)] (start Tryz.f58.ntmps ([F.agg [F.int .u64 (wd3 ax),F.int .u64 (wd2 ax),F.int .u64 (wd1 ax),F.int .u64 (wd0 ax),F.int .u64 (wd3 ay),F.int .u64 (wd2 ay),F.int .u64 (wd1 ay),F.int .u64 (wd0 ay),F.int .u64 (wd3 1),F.int .u64 (wd2 1),F.int .u64 (wd1 1),F.int .u64 (wd0 1)],F.agg [F.int .u64 (wd3 bx),F.int .u64 (wd2 bx),F.int .u64 (wd1 bx),F.int .u64 (wd0 bx),F.int .u64 (wd3 bY),F.int .u64 (wd2 bY),F.int .u64 (wd1 bY),F.int .u64 (wd0 bY),F.int .u64 (wd3 1),F.int .u64 (wd2 1),F.int .u64 (wd1 1),F.int .u64 (wd0 1)],F.agg [F.int .u64 (wd3 px),F.int .u64 (wd2 px),F.int .u64 (wd1 px),F.int .u64 (wd0 px),F.int .u64 (wd3 py),F.int .u64 (wd2 py),F.int .u64 (wd1 py),F.int .u64 (wd0 py),F.int .u64 (wd3 1),F.int .u64 (wd2 1),F.int .u64 (wd1 1),F.int .u64 (wd0 1)]].map .f)) (F.bool r):=by
 refine AX.of_run Au SJ (T:=[]) (n:=200) ?_
 refine gE (Y:=T58 (fun r=>some (.ret (F.bool r))) ax ay bx bY px py) (by kernel_rfl) ?_
 exact (gS h (fun _ h=>(gS h (fun _ h=>gR (by cases h;rfl)) (fun _ h=>(gS h (fun _ h=>(gS h (fun _ h=>(gS h (fun _ h=>(gS h (fun _ h=>gR (by cases h;rfl)) gN)) (fun _ h=>gR (by cases h;rfl)))) gN)) gN)))) (fun _ h=>gR (by cases h;rfl)))
/-! ### function 59 -/
def T59 {ρ:Type} (ret:OX ρ) (ax:Int) (ay:Int) (bx:Int) (bY:Int) (px:Int) (py:Int):Option ρ :=
 (AD (EL (wd3 ax) (wd2 ax) (wd1 ax) (wd0 ax) (wd3 ay) (wd2 ay) (wd1 ay) (wd0 ay) (wd3 1) (wd2 1) (wd1 1) (wd0 1))
 (AD (EL (wd3 bx) (wd2 bx) (wd1 bx) (wd0 bx) (wd3 bY) (wd2 bY) (wd1 bY) (wd0 bY) (wd3 1) (wd2 1) (wd1 1) (wd0 1))
 (AD (EL (wd3 px) (wd2 px) (wd1 px) (wd0 px) (wd3 py) (wd2 py) (wd1 py) (wd0 py) (wd3 1) (wd2 1) (wd1 1) (wd0 1))
 (AD (Aq 400 (AF (Af (wd3 ay) (wd2 ay) (wd1 ay) (wd0 ay)))&&true)
 (AD (Aq 400 (AF (Af (wd3 py) (wd2 py) (wd1 py) (wd0 py)))&&true)
 (AD (Aq 399 (AN [AF (Af (wd3 ay) (wd2 ay) (wd1 ay) (wd0 ay)),AF (Af (wd3 1) (wd2 1) (wd1 1) (wd0 1))])&&Aq 399 (AN [AF (Af (wd3 py) (wd2 py) (wd1 py) (wd0 py)),AF (Af (wd3 1) (wd2 1) (wd1 1) (wd0 1))]))
 (AD (Aq 400 (AF (Af (wd3 bY) (wd2 bY) (wd1 bY) (wd0 bY)))&&true)
 (AD (Aq 400 (AF (Af (wd3 py) (wd2 py) (wd1 py) (wd0 py)))&&true)
 (AD (Aq 399 (AN [AF (Af (wd3 bY) (wd2 bY) (wd1 bY) (wd0 bY)),AF (Af (wd3 1) (wd2 1) (wd1 1) (wd0 1))])&&Aq 399 (AN [AF (Af (wd3 py) (wd2 py) (wd1 py) (wd0 py)),AF (Af (wd3 1) (wd2 1) (wd1 1) (wd0 1))]))
 (AD (decide ((AG (AN [AF (Af (wd3 ay) (wd2 ay) (wd1 ay) (wd0 ay)),AF (Af (wd3 1) (wd2 1) (wd1 1) (wd0 1))])-AG (AN [AF (Af (wd3 py) (wd2 py) (wd1 py) (wd0 py)),AF (Af (wd3 1) (wd2 1) (wd1 1) (wd0 1))])).sign > 0)==decide ((AG (AN [AF (Af (wd3 bY) (wd2 bY) (wd1 bY) (wd0 bY)),AF (Af (wd3 1) (wd2 1) (wd1 1) (wd0 1))])-AG (AN [AF (Af (wd3 py) (wd2 py) (wd1 py) (wd0 py)),AF (Af (wd3 1) (wd2 1) (wd1 1) (wd0 1))])).sign > 0))
 (ret (false))
 (AD (decide ((AG (AN [AF (Af (wd3 ay) (wd2 ay) (wd1 ay) (wd0 ay)),AF (Af (wd3 1) (wd2 1) (wd1 1) (wd0 1))])-AG (AN [AF (Af (wd3 py) (wd2 py) (wd1 py) (wd0 py)),AF (Af (wd3 1) (wd2 1) (wd1 1) (wd0 1))])).sign > 0))
 (AD (EL (wd3 bx) (wd2 bx) (wd1 bx) (wd0 bx) (wd3 bY) (wd2 bY) (wd1 bY) (wd0 bY) (wd3 1) (wd2 1) (wd1 1) (wd0 1)&&EL (wd3 ax) (wd2 ax) (wd1 ax) (wd0 ax) (wd3 ay) (wd2 ay) (wd1 ay) (wd0 ay) (wd3 1) (wd2 1) (wd1 1) (wd0 1)&&EL (wd3 px) (wd2 px) (wd1 px) (wd0 px) (wd3 py) (wd2 py) (wd1 py) (wd0 py) (wd3 1) (wd2 1) (wd1 1) (wd0 1))
 (ret (decide ((eL (Af (wd3 bx) (wd2 bx) (wd1 bx) (wd0 bx)) (Af (wd3 bY) (wd2 bY) (wd1 bY) (wd0 bY)) (Af (wd3 1) (wd2 1) (wd1 1) (wd0 1)) (Af (wd3 ax) (wd2 ax) (wd1 ax) (wd0 ax)) (Af (wd3 ay) (wd2 ay) (wd1 ay) (wd0 ay)) (Af (wd3 1) (wd2 1) (wd1 1) (wd0 1)) (Af (wd3 px) (wd2 px) (wd1 px) (wd0 px)) (Af (wd3 py) (wd2 py) (wd1 py) (wd0 py)) (Af (wd3 1) (wd2 1) (wd1 1) (wd0 1))).sign > 0)))
 none)
 (AD (EL (wd3 ax) (wd2 ax) (wd1 ax) (wd0 ax) (wd3 ay) (wd2 ay) (wd1 ay) (wd0 ay) (wd3 1) (wd2 1) (wd1 1) (wd0 1)&&EL (wd3 bx) (wd2 bx) (wd1 bx) (wd0 bx) (wd3 bY) (wd2 bY) (wd1 bY) (wd0 bY) (wd3 1) (wd2 1) (wd1 1) (wd0 1)&&EL (wd3 px) (wd2 px) (wd1 px) (wd0 px) (wd3 py) (wd2 py) (wd1 py) (wd0 py) (wd3 1) (wd2 1) (wd1 1) (wd0 1))
 (ret (decide ((eL (Af (wd3 ax) (wd2 ax) (wd1 ax) (wd0 ax)) (Af (wd3 ay) (wd2 ay) (wd1 ay) (wd0 ay)) (Af (wd3 1) (wd2 1) (wd1 1) (wd0 1)) (Af (wd3 bx) (wd2 bx) (wd1 bx) (wd0 bx)) (Af (wd3 bY) (wd2 bY) (wd1 bY) (wd0 bY)) (Af (wd3 1) (wd2 1) (wd1 1) (wd0 1)) (Af (wd3 px) (wd2 px) (wd1 px) (wd0 px)) (Af (wd3 py) (wd2 py) (wd1 py) (wd0 py)) (Af (wd3 1) (wd2 1) (wd1 1) (wd0 1))).sign > 0)))
 none)))
 none)
 none)
 none)
 none)
 none)
 none)
 none)
 none)
 none)
def G59 (ax:Int) (ay:Int) (bx:Int) (bY:Int) (px:Int) (py:Int):Option (Bool):=T59 some ax ay bx bY px py
theorem t59 (ax:Int) (ay:Int) (bx:Int) (bY:Int) (px:Int) (py:Int) (r:Bool) (h:G59 ax ay bx bY px py=some r):AX Tryz.prog Tryz.f59.results.toList [.code (AT Tryz.f59)] (start Tryz.f59.ntmps ([F.agg [F.int .u64 (wd3 ax),F.int .u64 (wd2 ax),F.int .u64 (wd1 ax),F.int .u64 (wd0 ax),F.int .u64 (wd3 ay),F.int .u64 (wd2 ay),F.int .u64 (wd1 ay),F.int .u64 (wd0 ay),F.int .u64 (wd3 1),F.int .u64 (wd2 1),F.int .u64 (wd1 1),F.int .u64 (wd0 1)],F.agg [F.int .u64 (wd3 bx),F.int .u64 (wd2 bx),F.int .u64 (wd1 bx),F.int .u64 (wd0 bx),F.int .u64 (wd3 bY),F.int .u64 (wd2 bY),F.int .u64 (wd1 bY),F.int .u64 (wd0 bY),F.int .u64 (wd3 1),F.int .u64 (wd2 1),F.int .u64 (wd1 1),F.int .u64 (wd0 1)],F.agg [F.int .u64 (wd3 px),F.int .u64 (wd2 px),F.int .u64 (wd1 px),F.int .u64 (wd0 px),F.int .u64 (wd3 py),F.int .u64 (wd2 py),F.int .u64 (wd1 py),F.int .u64 (wd0 py),F.int .u64 (wd3 1),F.int .u64 (wd2 1),F.int .u64 (wd1 1),F.int .u64 (wd0 1)]].map .f)) (F.bool r):=by
 refine AX.of_run Au SJ (T:=[]) (n:=200) ?_
 refine gE (Y:=T59 (fun r=>some (.ret (F.bool r))) ax ay bx bY px py) (by kernel_rfl) ?_
 exact (gS h (fun _ h=>(gS h (fun _ h=>(gS h (fun _ h=>(gS h (fun _ h=>(gS h (fun _ h=>(gS h (fun _ h=>(gS h (fun _ h=>(gS h (fun _ h=>(gS h (fun _ h=>(gS h (fun _ h=>gR (by cases h;rfl)) (fun _ h=>(gS h (fun _ h=>(gS h (fun _ h=>gR (by cases h;rfl)) gN)) (fun _ h=>(gS h (fun _ h=>gR (by cases h;rfl)) gN)))))) gN)) gN)) gN)) gN)) gN)) gN)) gN)) gN)) gN)
def IJ (x y:Int):F:=.agg [.int .u64 (wd3 x),.int .u64 (wd2 x),.int .u64 (wd1 x),.int .u64 (wd0 x),.int .u64 (wd3 y),.int .u64 (wd2 y),.int .u64 (wd1 y),.int .u64 (wd0 y),.int .u64 (wd3 1),.int .u64 (wd2 1),.int .u64 (wd1 1),.int .u64 (wd0 1)]
def IP:F→Bool
 | .agg [.int .u64 p0,.int .u64 p1,.int .u64 p2,.int .u64 p3,.int .u64 p4,.int .u64 p5,.int .u64 p6,.int .u64 p7,.int .u64 p8,.int .u64 p9,.int .u64 p10,.int .u64 p11] =>
  (Ae (Af p0 p1 p2 p3)&&(p0==wd3 (Af p0 p1 p2 p3)&&(p1==wd2 (Af p0 p1 p2 p3)&&(p2==wd1 (Af p0 p1 p2 p3)&&p3==wd0 (Af p0 p1 p2 p3))))) &&
  ((Ae (Af p4 p5 p6 p7)&&(p4==wd3 (Af p4 p5 p6 p7)&&(p5==wd2 (Af p4 p5 p6 p7)&&(p6==wd1 (Af p4 p5 p6 p7)&&p7==wd0 (Af p4 p5 p6 p7))))) &&
  (p8==wd3 1&&(p9==wd2 1&&(p10==wd1 1&&p11==wd0 1))))
 | _=>false
def Ho:F→Int
 | .agg [.int .u64 p0,.int .u64 p1,.int .u64 p2,.int .u64 p3,_,_,_,_,_,_,_,_]=>Af p0 p1 p2 p3
 | _=>0
def Hn:F→Int
 | .agg [_,_,_,_,.int .u64 p4,.int .u64 p5,.int .u64 p6,.int .u64 p7,_,_,_,_]=>Af p4 p5 p6 p7
 | _=>0
theorem IK {f:F} (h:IP f=true):f=IJ (Ho f) (Hn f)∧Ae (Ho f)=true∧Ae (Hn f)=true:=by
 unfold IP at h
 split at h
 ·rename_i p0 p1 p2 p3 p4 p5 p6 p7 p8 p9 p10 p11
  simp only [Bool.and_eq_true,beq_iff_eq] at h
  obtain ⟨⟨h0,a3,a2,a1,a0⟩,⟨h1,b3,b2,b1,b0⟩,c3,c2,c1,c0⟩:=h
  refine ⟨?_,h0,h1⟩
  show _=F.agg [.int .u64 (wd3 (Af p0 p1 p2 p3)),.int .u64 (wd2 (Af p0 p1 p2 p3)),.int .u64 (wd1 (Af p0 p1 p2 p3)),.int .u64 (wd0 (Af p0 p1 p2 p3)),.int .u64 (wd3 (Af p4 p5 p6 p7)),.int .u64 (wd2 (Af p4 p5 p6 p7)),.int .u64 (wd1 (Af p4 p5 p6 p7)),.int .u64 (wd0 (Af p4 p5 p6 p7)),.int .u64 (wd3 1),.int .u64 (wd2 1),.int .u64 (wd1 1),.int .u64 (wd0 1)]
  rw [← a3,← a2,← a1,← a0,← b3,← b2,← b1,← b0,← c3,← c2,← c1,← c0]
 ·cases h
theorem VI {x y:Int} (hx:Ae x=true) (hy:Ae y=true):IP (IJ x y)=true:=by
 simp only [IP,IJ,(CQ (Bx hx)).1,(CQ (Bx hy)).1,hx,hy,beq_self_eq_true,Bool.and_self]
theorem Xr {x:Int} (y:Int) (hx:Ae x=true):Ho (IJ x y)=x:=(CQ (Bx hx)).1
theorem Xq {y:Int} (x:Int) (hy:Ae y=true):Hn (IJ x y)=y:=(CQ (Bx hy)).1
theorem WE {x y:Int} (hx:Ae x=true) (hy:Ae y=true):(wd3 x==wd3 y&&(wd2 x==wd2 y&&(wd1 x==wd1 y&&wd0 x==wd0 y)))=(x==y):=by
 by_cases h:x=y
 ·subst h;simp
 ·rw [beq_eq_false_iff_ne.2 h]
  cases hc:(wd3 x==wd3 y&&(wd2 x==wd2 y&&(wd1 x==wd1 y&&wd0 x==wd0 y))) with
  | false=>rfl
  | true =>
   simp only [Bool.and_eq_true,beq_iff_eq] at hc
   exfalso
   apply h
   rw [← (CQ (Bx hx)).1,← (CQ (Bx hy)).1,hc.1,hc.2.1,hc.2.2.1,hc.2.2.2]
theorem X2 (z:Int):-1≤z.sign∧z.sign≤1:=by
 rcases Int.lt_trichotomy z 0 with h | h | h
 ·rw [Int.sign_eq_neg_one_of_neg h];omega
 ·subst h;decide
 ·rw [Int.sign_eq_one_of_pos h];omega
theorem OL (x y w u v t:Int):-1≤CZ x y w u v t∧CZ x y w u v t≤1:=by
 unfold CZ
 cases (x*t-u*w).sign != 0
 ·exact X2 _
 ·exact X2 _
theorem mul_rng {a b:Int} (ha:-1≤a∧a≤1) (hb:-1≤b∧b≤1):-1≤a*b∧a*b≤1:=by
 have:a = -1 ∨ a=0 ∨ a=1:=by omega
 rcases this with h | h | h <;> subst h <;> omega
def nU (ax ay bx bY px py:Int):Bool:=(ax==px&&ay==py) || ((bx==px&&bY==py) || (decide (CZ ax ay 1 px py 1*CZ px py 1 bx bY 1 > 0)&&(AK ax ay bx bY px py).sign==0))
theorem Vg (ax ay bx bY px py:Int):eL ax ay 1 bx bY 1 px py 1=AK ax ay bx bY px py:=by unfold eL AK;grind
theorem XF {ax ay bx bY px py:Int} (h1:Ae ax=true) (h2:Ae ay=true) (h3:Ae bx=true) (h4:Ae bY=true) (h5:Ae px=true) (h6:Ae py=true):G58 ax ay bx bY px py=some (nU ax ay bx bY px py):=by
 have hw:IntKind.i64.wrap (CZ ax ay 1 px py 1*CZ px py 1 bx bY 1)=CZ ax ay 1 px py 1*CZ px py 1 bx bY 1:=by
  have:=mul_rng (OL ax ay 1 px py 1) (OL px py 1 bx bY 1)
  exact As (by omega) (by omega)
 have tt:∀ b:Bool,(b==true)=b:=fun b=>by cases b <;> rfl
 have ff:∀ b:Bool,(b==false) = !b:=fun b=>by cases b <;> rfl
 unfold G58 T58 nU
 simp only [WE h1 h5,WE h2 h6,WE h3 h5,WE h4 h6,Tr h1 h2,Tr h3 h4,Tr h5 h6,(CQ (Bx h1)).1,(CQ (Bx h2)).1,(CQ (Bx h3)).1,(CQ (Bx h4)).1,(CQ (Bx h5)).1,(CQ (Bx h6)).1,(CQ (Bx Wi)).1,hw,Vg,beq_self_eq_true,tt,ff,Bool.and_true,Bool.and_self,AH]
 cases (ax==px&&ay==py) <;> cases (bx==px&&bY==py) <;> cases decide (CZ ax ay 1 px py 1*CZ px py 1 bx bY 1 > 0) <;> rfl
theorem aI {ax ay bx bY px py:Int} (h1:Ae ax=true) (h2:Ae ay=true) (h3:Ae bx=true) (h4:Ae bY=true) (h5:Ae px=true) (h6:Ae py=true):G59 ax ay bx bY px py=some (Cn ax ay bx bY px py):=by
 have w:∀ {z:Int},Ae z=true→z.natAbs<18446744073709551616 ^ 4:=fun h=>Jv (Bx h)
 have n4:∀ {z:Int},Ae z=true→Aq 400 (AF z)=true:=fun h=>BL (w h) (by omega)
 have n3:∀ {z:Int},Ae z=true→Aq 399 (AF z)=true:=fun h=>BL (w h) (by omega)
 have s:∀ x y:Int,decide ((x-y).sign > 0)=decide (x > y):=fun x y=>decide_eq_decide.2 (by
  rcases Int.lt_trichotomy (x-y) 0 with h | h | h
  ·rw [Int.sign_eq_neg_one_of_neg h];omega
  ·rw [h];simp;omega
  ·rw [Int.sign_eq_one_of_pos h];omega)
 have s0:∀ x:Int,decide (x.sign > 0)=decide (0<x):=fun x=>by
  have:=s x 0
  rw [Int.sub_zero] at this
  exact this
 unfold G59 T59 Cn
 simp only [Tr h1 h2,Tr h3 h4,Tr h5 h6,(CQ (Bx h1)).1,(CQ (Bx h2)).1,(CQ (Bx h3)).1,(CQ (Bx h4)).1,(CQ (Bx h5)).1,(CQ (Bx h6)).1,(CQ (Bx Wi)).1,ME,B4,Int.mul_one,n4 h2,n4 h4,n4 h6,n3 h2,n3 h4,n3 h6,s,s0,Vg,Bool.and_true,Bool.and_self,AH]
 cases decide (ay > py) <;> cases decide (bY > py) <;> rfl
def O2:List F→Bool | [a,b,p]=>IP a&&IP b&&IP p | _=>false
def bwsV (ax ay bx bY px py:Int):Bool:=nU ax ay bx bY px py
def crsV (ax ay bx bY px py:Int):Bool:=Cn ax ay bx bY px py
def qV:List F→F | [a,b,p]=>.bool (bwsV (Ho a) (Hn a) (Ho b) (Hn b) (Ho p) (Hn p)) | _=>.dflt
def qT:List F→F | [a,b,p]=>.bool (crsV (Ho a) (Hn a) (Ho b) (Hn b) (Ho p) (Hn p)) | _=>.dflt
theorem okBtw:Ak Tryz.prog 58 O2 qV :=
 Ad (c:=AT Tryz.f58) Tryz.func58 (by kernel_rfl) (by kernel_rfl) fun xs hp=>match xs,hp with
 | [a,b,p],hp=>by
  simp only [O2,Bool.and_eq_true] at hp
  obtain ⟨e1,i1,j1⟩:=IK hp.1.1
  obtain ⟨e2,i2,j2⟩:=IK hp.1.2
  obtain ⟨e3,i3,j3⟩:=IK hp.2
  refine ⟨[IJ (Ho a) (Hn a),IJ (Ho b) (Hn b),IJ (Ho p) (Hn p)],_,?_,t58 _ _ _ _ _ _ _ (XF i1 j1 i2 j2 i3 j3),.refl _⟩
  rw [← e1,← e2,← e3]
  exact E5.refl _
theorem okCrs:Ak Tryz.prog 59 O2 qT :=
 Ad (c:=AT Tryz.f59) Tryz.func59 (by kernel_rfl) (by kernel_rfl) fun xs hp=>match xs,hp with
 | [a,b,p],hp=>by
  simp only [O2,Bool.and_eq_true] at hp
  obtain ⟨e1,i1,j1⟩:=IK hp.1.1
  obtain ⟨e2,i2,j2⟩:=IK hp.1.2
  obtain ⟨e3,i3,j3⟩:=IK hp.2
  refine ⟨[IJ (Ho a) (Hn a),IJ (Ho b) (Hn b),IJ (Ho p) (Hn p)],_,?_,t59 _ _ _ _ _ _ _ (aI i1 j1 i2 j2 i3 j3),.refl _⟩
  rw [← e1,← e2,← e3]
  exact E5.refl _
def Oq:List F→F | [.agg [.int .i64 x,.int .i64 y]]=>IJ x y | _=>.dflt
theorem okPtF:Ak Tryz.prog 43 Ts Oq :=
 B2 (c:=AT Tryz.f43) Tryz.func43 (by kernel_rfl) (by kernel_rfl) fun xs hp=>match xs,hp with
 | [.agg [.int .i64 x,.int .i64 y]],hp=>by
  simp only [Ts,Bool.and_eq_true] at hp
  exact t43 x y _ (by unfold G43 T43;rw [hp.1,hp.2];rfl)
def envA2:Env:=((envA1.add 58 (.pure O2 qV)).add 59 (.pure O2 qT)).add 43 (.pure Ts Oq)
theorem SI:Az Tryz.prog envA2:=(Env.add_ok (Env.add_ok (Env.add_ok SJ okBtw.sp) okCrs.sp) okPtF.sp)
end
noncomputable section
set_option maxHeartbeats 1000000
/-! ### function 42 -/
def xB (q:List Pt) (px:Int) (py:Int) (ins:Bool) (i:Int):St:=⟨Al 2 ((U.hp 0 0) :: (U.hp 1 0) :: Al 1 ((U.f (F.bool ins)) :: Al 5 ((U.f (Ac q)) :: (U.f (F.int .i64 q.length)) :: (U.f (F.int .i64 i)) :: Al 29 []))),[HO.box [(U.f (Ac q))],HO.box [(U.f (F.int .u64 (wd3 px))),(U.f (F.int .u64 (wd2 px))),(U.f (F.int .u64 (wd1 px))),(U.f (F.int .u64 (wd0 px))),(U.f (F.int .u64 (wd3 py))),(U.f (F.int .u64 (wd2 py))),(U.f (F.int .u64 (wd1 py))),(U.f (F.int .u64 (wd0 py))),(U.f (F.int .u64 (wd3 1))),(U.f (F.int .u64 (wd2 1))),(U.f (F.int .u64 (wd1 1))),(U.f (F.int .u64 (wd0 1)))]]⟩
def jY {ρ:Type} (ret:NQ ρ) (c3:(List Pt)→(Int)→(Int)→(Bool)→(Int)→Option ρ) (q:List Pt) (px:Int) (py:Int) (ins:Bool) (i:Int):Option ρ :=
 (AD (decide (i<(↑q.length:Int)))
 (AD (decide (0≤i))
 (AD (decide (i<(↑q.length:Int)))
 (AD (Ae (q.getD i.toNat Pt.zero).x&&Ae (q.getD i.toNat Pt.zero).y)
 (AD ((↑q.length:Int) != 0)
 (AD (decide (0≤(IntKind.i64.wrap (i+1)).tmod (↑q.length:Int)))
 (AD (decide ((IntKind.i64.wrap (i+1)).tmod (↑q.length:Int)<(↑q.length:Int)))
 (AD (Ae (q.getD ((IntKind.i64.wrap (i+1)).tmod (↑q.length:Int)).toNat Pt.zero).x&&Ae (q.getD ((IntKind.i64.wrap (i+1)).tmod (↑q.length:Int)).toNat Pt.zero).y)
 (AD (IP (F.agg [F.int .u64 (wd3 (q.getD i.toNat Pt.zero).x),F.int .u64 (wd2 (q.getD i.toNat Pt.zero).x),F.int .u64 (wd1 (q.getD i.toNat Pt.zero).x),F.int .u64 (wd0 (q.getD i.toNat Pt.zero).x),F.int .u64 (wd3 (q.getD i.toNat Pt.zero).y),F.int .u64 (wd2 (q.getD i.toNat Pt.zero).y),F.int .u64 (wd1 (q.getD i.toNat Pt.zero).y),F.int .u64 (wd0 (q.getD i.toNat Pt.zero).y),F.int .u64 (wd3 1),F.int .u64 (wd2 1),F.int .u64 (wd1 1),F.int .u64 (wd0 1)])&&IP (F.agg [F.int .u64 (wd3 (q.getD ((IntKind.i64.wrap (i+1)).tmod (↑q.length:Int)).toNat Pt.zero).x),F.int .u64 (wd2 (q.getD ((IntKind.i64.wrap (i+1)).tmod (↑q.length:Int)).toNat Pt.zero).x),F.int .u64 (wd1 (q.getD ((IntKind.i64.wrap (i+1)).tmod (↑q.length:Int)).toNat Pt.zero).x),F.int .u64 (wd0 (q.getD ((IntKind.i64.wrap (i+1)).tmod (↑q.length:Int)).toNat Pt.zero).x),F.int .u64 (wd3 (q.getD ((IntKind.i64.wrap (i+1)).tmod (↑q.length:Int)).toNat Pt.zero).y),F.int .u64 (wd2 (q.getD ((IntKind.i64.wrap (i+1)).tmod (↑q.length:Int)).toNat Pt.zero).y),F.int .u64 (wd1 (q.getD ((IntKind.i64.wrap (i+1)).tmod (↑q.length:Int)).toNat Pt.zero).y),F.int .u64 (wd0 (q.getD ((IntKind.i64.wrap (i+1)).tmod (↑q.length:Int)).toNat Pt.zero).y),F.int .u64 (wd3 1),F.int .u64 (wd2 1),F.int .u64 (wd1 1),F.int .u64 (wd0 1)])&&IP (F.agg [F.int .u64 (wd3 px),F.int .u64 (wd2 px),F.int .u64 (wd1 px),F.int .u64 (wd0 px),F.int .u64 (wd3 py),F.int .u64 (wd2 py),F.int .u64 (wd1 py),F.int .u64 (wd0 py),F.int .u64 (wd3 1),F.int .u64 (wd2 1),F.int .u64 (wd1 1),F.int .u64 (wd0 1)]))
 (AD (bwsV (Ho (F.agg [F.int .u64 (wd3 (q.getD i.toNat Pt.zero).x),F.int .u64 (wd2 (q.getD i.toNat Pt.zero).x),F.int .u64 (wd1 (q.getD i.toNat Pt.zero).x),F.int .u64 (wd0 (q.getD i.toNat Pt.zero).x),F.int .u64 (wd3 (q.getD i.toNat Pt.zero).y),F.int .u64 (wd2 (q.getD i.toNat Pt.zero).y),F.int .u64 (wd1 (q.getD i.toNat Pt.zero).y),F.int .u64 (wd0 (q.getD i.toNat Pt.zero).y),F.int .u64 (wd3 1),F.int .u64 (wd2 1),F.int .u64 (wd1 1),F.int .u64 (wd0 1)])) (Hn (F.agg [F.int .u64 (wd3 (q.getD i.toNat Pt.zero).x),F.int .u64 (wd2 (q.getD i.toNat Pt.zero).x),F.int .u64 (wd1 (q.getD i.toNat Pt.zero).x),F.int .u64 (wd0 (q.getD i.toNat Pt.zero).x),F.int .u64 (wd3 (q.getD i.toNat Pt.zero).y),F.int .u64 (wd2 (q.getD i.toNat Pt.zero).y),F.int .u64 (wd1 (q.getD i.toNat Pt.zero).y),F.int .u64 (wd0 (q.getD i.toNat Pt.zero).y),F.int .u64 (wd3 1),F.int .u64 (wd2 1),F.int .u64 (wd1 1),F.int .u64 (wd0 1)])) (Ho (F.agg [F.int .u64 (wd3 (q.getD ((IntKind.i64.wrap (i+1)).tmod (↑q.length:Int)).toNat Pt.zero).x),F.int .u64 (wd2 (q.getD ((IntKind.i64.wrap (i+1)).tmod (↑q.length:Int)).toNat Pt.zero).x),F.int .u64 (wd1 (q.getD ((IntKind.i64.wrap (i+1)).tmod (↑q.length:Int)).toNat Pt.zero).x),F.int .u64 (wd0 (q.getD ((IntKind.i64.wrap (i+1)).tmod (↑q.length:Int)).toNat Pt.zero).x),F.int .u64 (wd3 (q.getD ((IntKind.i64.wrap (i+1)).tmod (↑q.length:Int)).toNat Pt.zero).y),F.int .u64 (wd2 (q.getD ((IntKind.i64.wrap (i+1)).tmod (↑q.length:Int)).toNat Pt.zero).y),F.int .u64 (wd1 (q.getD ((IntKind.i64.wrap (i+1)).tmod (↑q.length:Int)).toNat Pt.zero).y),F.int .u64 (wd0 (q.getD ((IntKind.i64.wrap (i+1)).tmod (↑q.length:Int)).toNat Pt.zero).y),F.int .u64 (wd3 1),F.int .u64 (wd2 1),F.int .u64 (wd1 1),F.int .u64 (wd0 1)])) (Hn (F.agg [F.int .u64 (wd3 (q.getD ((IntKind.i64.wrap (i+1)).tmod (↑q.length:Int)).toNat Pt.zero).x),F.int .u64 (wd2 (q.getD ((IntKind.i64.wrap (i+1)).tmod (↑q.length:Int)).toNat Pt.zero).x),F.int .u64 (wd1 (q.getD ((IntKind.i64.wrap (i+1)).tmod (↑q.length:Int)).toNat Pt.zero).x),F.int .u64 (wd0 (q.getD ((IntKind.i64.wrap (i+1)).tmod (↑q.length:Int)).toNat Pt.zero).x),F.int .u64 (wd3 (q.getD ((IntKind.i64.wrap (i+1)).tmod (↑q.length:Int)).toNat Pt.zero).y),F.int .u64 (wd2 (q.getD ((IntKind.i64.wrap (i+1)).tmod (↑q.length:Int)).toNat Pt.zero).y),F.int .u64 (wd1 (q.getD ((IntKind.i64.wrap (i+1)).tmod (↑q.length:Int)).toNat Pt.zero).y),F.int .u64 (wd0 (q.getD ((IntKind.i64.wrap (i+1)).tmod (↑q.length:Int)).toNat Pt.zero).y),F.int .u64 (wd3 1),F.int .u64 (wd2 1),F.int .u64 (wd1 1),F.int .u64 (wd0 1)])) (Ho (F.agg [F.int .u64 (wd3 px),F.int .u64 (wd2 px),F.int .u64 (wd1 px),F.int .u64 (wd0 px),F.int .u64 (wd3 py),F.int .u64 (wd2 py),F.int .u64 (wd1 py),F.int .u64 (wd0 py),F.int .u64 (wd3 1),F.int .u64 (wd2 1),F.int .u64 (wd1 1),F.int .u64 (wd0 1)])) (Hn (F.agg [F.int .u64 (wd3 px),F.int .u64 (wd2 px),F.int .u64 (wd1 px),F.int .u64 (wd0 px),F.int .u64 (wd3 py),F.int .u64 (wd2 py),F.int .u64 (wd1 py),F.int .u64 (wd0 py),F.int .u64 (wd3 1),F.int .u64 (wd2 1),F.int .u64 (wd1 1),F.int .u64 (wd0 1)])))
 (ret (0))
 (AD (IP (F.agg [F.int .u64 (wd3 (q.getD i.toNat Pt.zero).x),F.int .u64 (wd2 (q.getD i.toNat Pt.zero).x),F.int .u64 (wd1 (q.getD i.toNat Pt.zero).x),F.int .u64 (wd0 (q.getD i.toNat Pt.zero).x),F.int .u64 (wd3 (q.getD i.toNat Pt.zero).y),F.int .u64 (wd2 (q.getD i.toNat Pt.zero).y),F.int .u64 (wd1 (q.getD i.toNat Pt.zero).y),F.int .u64 (wd0 (q.getD i.toNat Pt.zero).y),F.int .u64 (wd3 1),F.int .u64 (wd2 1),F.int .u64 (wd1 1),F.int .u64 (wd0 1)])&&IP (F.agg [F.int .u64 (wd3 (q.getD ((IntKind.i64.wrap (i+1)).tmod (↑q.length:Int)).toNat Pt.zero).x),F.int .u64 (wd2 (q.getD ((IntKind.i64.wrap (i+1)).tmod (↑q.length:Int)).toNat Pt.zero).x),F.int .u64 (wd1 (q.getD ((IntKind.i64.wrap (i+1)).tmod (↑q.length:Int)).toNat Pt.zero).x),F.int .u64 (wd0 (q.getD ((IntKind.i64.wrap (i+1)).tmod (↑q.length:Int)).toNat Pt.zero).x),F.int .u64 (wd3 (q.getD ((IntKind.i64.wrap (i+1)).tmod (↑q.length:Int)).toNat Pt.zero).y),F.int .u64 (wd2 (q.getD ((IntKind.i64.wrap (i+1)).tmod (↑q.length:Int)).toNat Pt.zero).y),F.int .u64 (wd1 (q.getD ((IntKind.i64.wrap (i+1)).tmod (↑q.length:Int)).toNat Pt.zero).y),F.int .u64 (wd0 (q.getD ((IntKind.i64.wrap (i+1)).tmod (↑q.length:Int)).toNat Pt.zero).y),F.int .u64 (wd3 1),F.int .u64 (wd2 1),F.int .u64 (wd1 1),F.int .u64 (wd0 1)])&&IP (F.agg [F.int .u64 (wd3 px),F.int .u64 (wd2 px),F.int .u64 (wd1 px),F.int .u64 (wd0 px),F.int .u64 (wd3 py),F.int .u64 (wd2 py),F.int .u64 (wd1 py),F.int .u64 (wd0 py),F.int .u64 (wd3 1),F.int .u64 (wd2 1),F.int .u64 (wd1 1),F.int .u64 (wd0 1)]))
 (AD (crsV (Ho (F.agg [F.int .u64 (wd3 (q.getD i.toNat Pt.zero).x),F.int .u64 (wd2 (q.getD i.toNat Pt.zero).x),F.int .u64 (wd1 (q.getD i.toNat Pt.zero).x),F.int .u64 (wd0 (q.getD i.toNat Pt.zero).x),F.int .u64 (wd3 (q.getD i.toNat Pt.zero).y),F.int .u64 (wd2 (q.getD i.toNat Pt.zero).y),F.int .u64 (wd1 (q.getD i.toNat Pt.zero).y),F.int .u64 (wd0 (q.getD i.toNat Pt.zero).y),F.int .u64 (wd3 1),F.int .u64 (wd2 1),F.int .u64 (wd1 1),F.int .u64 (wd0 1)])) (Hn (F.agg [F.int .u64 (wd3 (q.getD i.toNat Pt.zero).x),F.int .u64 (wd2 (q.getD i.toNat Pt.zero).x),F.int .u64 (wd1 (q.getD i.toNat Pt.zero).x),F.int .u64 (wd0 (q.getD i.toNat Pt.zero).x),F.int .u64 (wd3 (q.getD i.toNat Pt.zero).y),F.int .u64 (wd2 (q.getD i.toNat Pt.zero).y),F.int .u64 (wd1 (q.getD i.toNat Pt.zero).y),F.int .u64 (wd0 (q.getD i.toNat Pt.zero).y),F.int .u64 (wd3 1),F.int .u64 (wd2 1),F.int .u64 (wd1 1),F.int .u64 (wd0 1)])) (Ho (F.agg [F.int .u64 (wd3 (q.getD ((IntKind.i64.wrap (i+1)).tmod (↑q.length:Int)).toNat Pt.zero).x),F.int .u64 (wd2 (q.getD ((IntKind.i64.wrap (i+1)).tmod (↑q.length:Int)).toNat Pt.zero).x),F.int .u64 (wd1 (q.getD ((IntKind.i64.wrap (i+1)).tmod (↑q.length:Int)).toNat Pt.zero).x),F.int .u64 (wd0 (q.getD ((IntKind.i64.wrap (i+1)).tmod (↑q.length:Int)).toNat Pt.zero).x),F.int .u64 (wd3 (q.getD ((IntKind.i64.wrap (i+1)).tmod (↑q.length:Int)).toNat Pt.zero).y),F.int .u64 (wd2 (q.getD ((IntKind.i64.wrap (i+1)).tmod (↑q.length:Int)).toNat Pt.zero).y),F.int .u64 (wd1 (q.getD ((IntKind.i64.wrap (i+1)).tmod (↑q.length:Int)).toNat Pt.zero).y),F.int .u64 (wd0 (q.getD ((IntKind.i64.wrap (i+1)).tmod (↑q.length:Int)).toNat Pt.zero).y),F.int .u64 (wd3 1),F.int .u64 (wd2 1),F.int .u64 (wd1 1),F.int .u64 (wd0 1)])) (Hn (F.agg [F.int .u64 (wd3 (q.getD ((IntKind.i64.wrap (i+1)).tmod (↑q.length:Int)).toNat Pt.zero).x),F.int .u64 (wd2 (q.getD ((IntKind.i64.wrap (i+1)).tmod (↑q.length:Int)).toNat Pt.zero).x),F.int .u64 (wd1 (q.getD ((IntKind.i64.wrap (i+1)).tmod (↑q.length:Int)).toNat Pt.zero).x),F.int .u64 (wd0 (q.getD ((IntKind.i64.wrap (i+1)).tmod (↑q.length:Int)).toNat Pt.zero).x),F.int .u64 (wd3 (q.getD ((IntKind.i64.wrap (i+1)).tmod (↑q.length:Int)).toNat Pt.zero).y),F.int .u64 (wd2 (q.getD ((IntKind.i64.wrap (i+1)).tmod (↑q.length:Int)).toNat Pt.zero).y),F.int .u64 (wd1 (q.getD ((IntKind.i64.wrap (i+1)).tmod (↑q.length:Int)).toNat Pt.zero).y),F.int .u64 (wd0 (q.getD ((IntKind.i64.wrap (i+1)).tmod (↑q.length:Int)).toNat Pt.zero).y),F.int .u64 (wd3 1),F.int .u64 (wd2 1),F.int .u64 (wd1 1),F.int .u64 (wd0 1)])) (Ho (F.agg [F.int .u64 (wd3 px),F.int .u64 (wd2 px),F.int .u64 (wd1 px),F.int .u64 (wd0 px),F.int .u64 (wd3 py),F.int .u64 (wd2 py),F.int .u64 (wd1 py),F.int .u64 (wd0 py),F.int .u64 (wd3 1),F.int .u64 (wd2 1),F.int .u64 (wd1 1),F.int .u64 (wd0 1)])) (Hn (F.agg [F.int .u64 (wd3 px),F.int .u64 (wd2 px),F.int .u64 (wd1 px),F.int .u64 (wd0 px),F.int .u64 (wd3 py),F.int .u64 (wd2 py),F.int .u64 (wd1 py),F.int .u64 (wd0 py),F.int .u64 (wd3 1),F.int .u64 (wd2 1),F.int .u64 (wd1 1),F.int .u64 (wd0 1)])))
 (c3 (q) (px) (py) (!ins) (IntKind.i64.wrap (i+1)))
 (c3 (q) (px) (py) (ins) (IntKind.i64.wrap (i+1))))
 none))
 none)
 none)
 none)
 none)
 none)
 none)
 none)
 none)
 (AD (ins)
 (ret (1))
 (ret (-1))))
def V3:Nat→(List Pt)→(Int)→(Int)→(Bool)→(Int)→Option (Int)
 | 0,_,_,_,_,_=>none
 | k+1,q,px,py,ins,i=>jY some (V3 k) q px py ins i
def T42 {ρ:Type} (ret:NQ ρ) (c3:(List Pt)→(Int)→(Int)→(Bool)→(Int)→Option ρ) (q:List Pt) (px:Int) (py:Int):Option ρ :=
 (c3 (q) (px) (py) (false) (0))
def G42 (k:Nat) (q:List Pt) (px:Int) (py:Int):Option (Int):=T42 some (V3 k) q px py
theorem pE:∀ (k:Nat) (q:List Pt) (px:Int) (py:Int) (ins:Bool) (i:Int) (r:Int),V3 k q px py ins i=some r→AX Tryz.prog Tryz.f42.results.toList (at_ Tryz.f42 3) (xB q px py ins i) (F.int .i64 r)
 | 0,_,_,_,_,_,_,h=>nomatch h
 | k+1,q,px,py,ins,i,r,h=>by
  refine AX.of_cut Au SI (T:=[(3,[2,3,5,11,12,13],1000)]) (n:=200) ?_
  refine gE (Y:=jY (fun r=>some (.ret (F.int .i64 r))) (fun q px py ins i=>some (.cut (at_ Tryz.f42 3) (xB q px py ins i))) q px py ins i) (by kernel_rfl) ?_
  exact (gS h (fun _ h=>(gS h (fun _ h=>(gS h (fun _ h=>(gS h (fun _ h=>(gS h (fun _ h=>(gS h (fun _ h=>(gS h (fun _ h=>(gS h (fun _ h=>(gS h (fun _ h=>(gS h (fun _ h=>gR (by cases h;rfl)) (fun _ h=>(gS h (fun _ h=>(gS h (fun _ h=>gC (pE k _ _ _ _ _ r h)) (fun _ h=>gC (pE k _ _ _ _ _ r h)))) gN)))) gN)) gN)) gN)) gN)) gN)) gN)) gN)) gN)) (fun _ h=>(gS h (fun _ h=>gR (by cases h;rfl)) (fun _ h=>gR (by cases h;rfl)))))
theorem t42 (k:Nat) (q:List Pt) (px:Int) (py:Int) (r:Int) (h:G42 k q px py=some r):AX Tryz.prog Tryz.f42.results.toList [.code (AT Tryz.f42)] (start Tryz.f42.ntmps ([F.agg [Ac q],F.agg [F.int .u64 (wd3 px),F.int .u64 (wd2 px),F.int .u64 (wd1 px),F.int .u64 (wd0 px),F.int .u64 (wd3 py),F.int .u64 (wd2 py),F.int .u64 (wd1 py),F.int .u64 (wd0 py),F.int .u64 (wd3 1),F.int .u64 (wd2 1),F.int .u64 (wd1 1),F.int .u64 (wd0 1)]].map .f)) (F.int .i64 r):=by
 refine AX.of_run Au SI (T:=[(3,[2,3,5,11,12,13],1000)]) (n:=200) ?_
 refine gE (Y:=T42 (fun r=>some (.ret (F.int .i64 r))) (fun q px py ins i=>some (.cut (at_ Tryz.f42 3) (xB q px py ins i))) q px py) (by kernel_rfl) ?_
 exact gC (pE k _ _ _ _ _ r h)
theorem qY (x y:Int):F.agg [F.int .u64 (wd3 x),F.int .u64 (wd2 x),F.int .u64 (wd1 x),F.int .u64 (wd0 x),F.int .u64 (wd3 y),F.int .u64 (wd2 y),F.int .u64 (wd1 y),F.int .u64 (wd0 y),F.int .u64 (wd3 1),F.int .u64 (wd2 1),F.int .u64 (wd1 1),F.int .u64 (wd0 1)]=IJ x y:=rfl
def rx (q:List Pt) (i:Nat):Int:=(q.getD i .zero).x
def ry (q:List Pt) (i:Nat):Int:=(q.getD i .zero).y
def P0 (q:List Pt) (px py:Int) (i:Nat):Bool:=nU (rx q i) (ry q i) (rx q ((i+1) % q.length)) (ry q ((i+1) % q.length)) px py
def E2 (q:List Pt) (px py:Int) (i:Nat):Bool:=Cn (rx q i) (ry q i) (rx q ((i+1) % q.length)) (ry q ((i+1) % q.length)) px py
def Mt (q:List Pt) (px py:Int):Nat→Nat→Bool→Int
 | 0,_,b=>bif b then 1 else -1
 | d+1,i,b=>bif P0 q px py i then 0 else Mt q px py d (i+1) (b.xor (E2 q px py i))
def Qz (q:List Pt) (px py:Int):Int:=Mt q px py q.length 0 false
theorem Gw {q:List Pt} (h:RingIn q) {i:Nat} (hi:i<q.length):Ae (q.getD i .zero).x=true∧Ae (q.getD i .zero).y=true:=by
 have:=h.spots _ (Cs (d:=.zero) hi)
 unfold BD at this
 exact ⟨Bd.2 (by omega),Bd.2 (by omega)⟩
theorem Ok {q:List Pt} (hq:RingIn q) {px py:Int} (hx:Ae px=true) (hy:Ae py=true):∀ (d i:Nat) (b:Bool),i+d=q.length→V3 (d+1) q px py b i=some (Mt q px py d i b)
 | 0,i,b,h=>by
  have c1:decide ((i:Int)<(q.length:Int))=false:=decide_eq_false (by omega)
  rw [V3]
  simp only [jY,c1,AJ,Mt]
  cases b <;> rfl
 | d+1,i,b,h=>by
  have hi:i<q.length:=by omega
  have hn:=hq.high
  obtain ⟨c1,c2,c3,c4,c5,c6⟩:=M3 hi (show q.length≤1000 by omega)
  obtain ⟨i1,i2⟩:=Gw hq hi
  obtain ⟨j1,j2⟩:=Gw hq (Nat.mod_lt (i+1) (show 0<q.length by omega))
  rw [V3,Mt]
  simp only [jY,c1,Qr,c2,c3,c4,c5,c6,Int.toNat_natCast,qY,VI,Xr,Xq,i1,i2,j1,j2,hx,hy,Bool.and_self,AH]
  have e1:bwsV (q.getD i .zero).x (q.getD i .zero).y (q.getD ((i+1) % q.length) .zero).x (q.getD ((i+1) % q.length) .zero).y px py=P0 q px py i:=rfl
  have e2:crsV (q.getD i .zero).x (q.getD i .zero).y (q.getD ((i+1) % q.length) .zero).x (q.getD ((i+1) % q.length) .zero).y px py=E2 q px py i:=rfl
  rw [e1,e2,Ok hq hx hy d (i+1) _ (by omega),Ok hq hx hy d (i+1) _ (by omega)]
  cases P0 q px py i <;> cases E2 q px py i <;> cases b <;> rfl
def RL:List F→Bool | [r,p]=>BJ r&&A3 (AR r)&&IP p | _=>false
def YK:List F→F | [r,p]=>.int .i64 (Qz (AR r) (Ho p) (Hn p)) | _=>.dflt
theorem okSideP:Ak Tryz.prog 42 RL YK :=
 Ad (c:=AT Tryz.f42) Tryz.func42 (by kernel_rfl) (by kernel_rfl) fun xs hp=>match xs,hp with
 | [r,p],hp=>by
  simp only [RL,Bool.and_eq_true] at hp
  obtain ⟨e1,i1,j1⟩:=IK hp.2
  refine ⟨[CN (AR r),IJ (Ho p) (Hn p)],_,⟨(CT hp.1.1).1,by rw [← e1];exact .refl _,trivial⟩,t42 ((AR r).length+1) _ _ _ _ (Ok (CU hp.1.2) i1 j1 (AR r).length 0 false (by omega)),.refl _⟩
def envA3:Env:=envA2.add 42 (.pure RL YK)
theorem SH:Az Tryz.prog envA3:=(Env.add_ok SI okSideP.sp)
end
noncomputable section
/-! ### function 24 -/
def T24 {ρ:Type} (ret:OX ρ) (q:List Pt):Option ρ :=
 (AD (BJ (F.agg [Ac q]))
 (ret (CK (AR (F.agg [Ac q]))==0))
 none)
def G24 (q:List Pt):Option (Bool):=T24 some q
theorem t24 (q:List Pt) (r:Bool) (h:G24 q=some r):AX Tryz.prog Tryz.f24.results.toList [.code (AT Tryz.f24)] (start Tryz.f24.ntmps ([F.agg [Ac q]].map .f)) (F.bool r):=by
 refine AX.of_run Au SH (T:=[]) (n:=200) ?_
 refine gE (Y:=T24 (fun r=>some (.ret (F.bool r))) q) (by kernel_rfl) ?_
 exact (gS h (fun _ h=>gR (by cases h;rfl)) gN)
/-! ### function 30 -/
def T30 {ρ:Type} (ret:OX ρ) (q:List Pt) (p:List Pt):Option ρ :=
 (AD (BJ (F.agg [Ac q])&&BJ (F.agg [Ac p])&&(A3 (AR (F.agg [Ac q]))&&A3 (AR (F.agg [Ac p]))))
 (AD ((!Cy (AR (F.agg [Ac q])) (AR (F.agg [Ac p])))==true)
 (AD (decide (0<(↑q.length:Int)))
 (AD (Ae (q.getD (Int.toNat 0) Pt.zero).x&&Ae (q.getD (Int.toNat 0) Pt.zero).y)
 (AD (BJ (F.agg [Ac p])&&A3 (AR (F.agg [Ac p]))&&IP (Oq [F.agg [F.int .i64 (q.getD (Int.toNat 0) Pt.zero).x,F.int .i64 (q.getD (Int.toNat 0) Pt.zero).y]]))
 (ret (Qz (AR (F.agg [Ac p])) (Ho (Oq [F.agg [F.int .i64 (q.getD (Int.toNat 0) Pt.zero).x,F.int .i64 (q.getD (Int.toNat 0) Pt.zero).y]])) (Hn (Oq [F.agg [F.int .i64 (q.getD (Int.toNat 0) Pt.zero).x,F.int .i64 (q.getD (Int.toNat 0) Pt.zero).y]]))==1))
 none)
 none)
 none)
 (ret (false)))
 none)
def G30 (q:List Pt) (p:List Pt):Option (Bool):=T30 some q p
theorem t30 (q:List Pt) (p:List Pt) (r:Bool) (h:G30 q p=some r):AX Tryz.prog Tryz.f30.results.toList [.code (AT Tryz.f30)] (start Tryz.f30.ntmps ([F.agg [Ac q],F.agg [Ac p]].map .f)) (F.bool r):=by
 refine AX.of_run Au SH (T:=[]) (n:=200) ?_
 refine gE (Y:=T30 (fun r=>some (.ret (F.bool r))) q p) (by kernel_rfl) ?_
 exact (gS h (fun _ h=>(gS h (fun _ h=>(gS h (fun _ h=>(gS h (fun _ h=>(gS h (fun _ h=>gR (by cases h;rfl)) gN)) gN)) gN)) (fun _ h=>gR (by cases h;rfl)))) gN)
def Tn:List F→F | [x]=>.bool (A3 (AR x)) | _=>.dflt
theorem rY:Ak Tryz.prog 24 Pm Tn :=
 Ad (c:=AT Tryz.f24) Tryz.func24 (by kernel_rfl) (by kernel_rfl) fun xs hp=>match xs,hp with
 | [x],hp=>⟨[CN (AR x)],_,⟨(CT hp).1,trivial⟩,t24 _ (A3 (AR x)) (by
   unfold G24 T24
   simp only [Ba,BH,AH]
   rfl),.refl _⟩
def Ey (q p:List Pt):Bool:=!Cy q p&&Qz p (rx q 0) (ry q 0)==1
theorem cB {q p:List Pt} (hq:A3 q=true) (hp:A3 p=true):G30 q p=some (Ey q p):=by
 have h1:=CU hq
 have hl:=h1.low
 obtain ⟨i1,i2⟩:=Gw h1 (show 0<q.length by omega)
 have tt:∀ b:Bool,(b==true)=b:=fun b=>by cases b <;> rfl
 have e:Oq [F.agg [F.int .i64 (q.getD 0 Pt.zero).x,F.int .i64 (q.getD 0 Pt.zero).y]]=IJ (q.getD 0 Pt.zero).x (q.getD 0 Pt.zero).y:=rfl
 unfold G30 T30 Ey
 simp only [Ba,BH,hq,hp,tt,Int.toNat_zero,decide_eq_true (show (0:Int)<(q.length:Int) by omega),i1,i2,e,VI,Xr,Xq,Bool.and_self,AH]
 cases Cy q p <;> rfl
def gM:List F→F | [x,y]=>.bool (Ey (AR x) (AR y)) | _=>.dflt
theorem okInRg:Ak Tryz.prog 30 GT gM :=
 Ad (c:=AT Tryz.f30) Tryz.func30 (by kernel_rfl) (by kernel_rfl) fun xs hp=>match xs,hp with
 | [x,y],hp=>by
  simp only [GT,Bool.and_eq_true] at hp
  exact ⟨[CN (AR x),CN (AR y)],_,⟨(CT hp.1.1).1,(CT hp.1.2).1,trivial⟩,t30 _ _ _ (cB hp.2.1 hp.2.2),.refl _⟩
def envA4:Env:=(envA3.add 24 (.pure Pm Tn)).add 30 (.pure GT gM)
theorem SG:Az Tryz.prog envA4:=(Env.add_ok (Env.add_ok SH rY.sp) okInRg.sp)
end
noncomputable section
/-! ### function 15 -/
def xJ (l:List (List Pt)) (j:Int) (n:Int) (i:Int):St:=⟨(U.f (At l)) :: (U.f (F.int .i64 j)) :: Al 3 ((U.f (F.int .i64 n)) :: Al 2 ((U.f (At l)) :: (U.f (F.int .i64 l.length)) :: (U.f (F.int .i64 i)) :: Al 19 [])),[]⟩
def kL {ρ:Type} (ret:NQ ρ) (c3:kW ρ) (l:List (List Pt)) (j:Int) (n:Int) (i:Int):Option ρ :=
 (AD (decide (i<(↑l.length:Int)))
 (AD (decide (0≤i))
 (AD (decide (i<(↑l.length:Int)))
 (AD ((i != j)==true)
 (AD (decide (0≤j))
 (AD (decide (j<(↑l.length:Int)))
 (AD (BJ (F.agg [Ac (l.getD j.toNat [])])&&BJ (F.agg [Ac (l.getD i.toNat [])])&&(A3 (AR (F.agg [Ac (l.getD j.toNat [])]))&&A3 (AR (F.agg [Ac (l.getD i.toNat [])]))))
 (AD (Ey (AR (F.agg [Ac (l.getD j.toNat [])])) (AR (F.agg [Ac (l.getD i.toNat [])])))
 (c3 (l) (j) (IntKind.i64.wrap (n+1)) (IntKind.i64.wrap (i+1)))
 (c3 (l) (j) (n) (IntKind.i64.wrap (i+1))))
 none)
 none)
 none)
 (c3 (l) (j) (n) (IntKind.i64.wrap (i+1))))
 none)
 none)
 (ret (n)))
def WB:Nat→(List (List Pt))→(Int)→(Int)→(Int)→Option (Int)
 | 0,_,_,_,_=>none
 | k+1,l,j,n,i=>kL some (WB k) l j n i
def T15 {ρ:Type} (ret:NQ ρ) (c3:kW ρ) (l:List (List Pt)) (j:Int):Option ρ :=
 (c3 (l) (j) (0) (0))
def G15 (k:Nat) (l:List (List Pt)) (j:Int):Option (Int):=T15 some (WB k) l j
theorem fU:∀ (k:Nat) (l:List (List Pt)) (j:Int) (n:Int) (i:Int) (r:Int),WB k l j n i=some r→AX Tryz.prog Tryz.f15.results.toList (at_ Tryz.f15 3) (xJ l j n i) (F.int .i64 r)
 | 0,_,_,_,_,_,h=>nomatch h
 | k+1,l,j,n,i,r,h=>by
  refine AX.of_cut Au SG (T:=[(3,[0,1,5,8,9,10],1000)]) (n:=200) ?_
  refine gE (Y:=kL (fun r=>some (.ret (F.int .i64 r))) (fun l j n i=>some (.cut (at_ Tryz.f15 3) (xJ l j n i))) l j n i) (by kernel_rfl) ?_
  exact (gS h (fun _ h=>(gS h (fun _ h=>(gS h (fun _ h=>(gS h (fun _ h=>(gS h (fun _ h=>(gS h (fun _ h=>(gS h (fun _ h=>(gS h (fun _ h=>gC (fU k _ _ _ _ r h)) (fun _ h=>gC (fU k _ _ _ _ r h)))) gN)) gN)) gN)) (fun _ h=>gC (fU k _ _ _ _ r h)))) gN)) gN)) (fun _ h=>gR (by cases h;rfl)))
theorem t15 (k:Nat) (l:List (List Pt)) (j:Int) (r:Int) (h:G15 k l j=some r):AX Tryz.prog Tryz.f15.results.toList [.code (AT Tryz.f15)] (start Tryz.f15.ntmps ([At l,F.int .i64 j].map .f)) (F.int .i64 r):=by
 refine AX.of_run Au SG (T:=[(3,[0,1,5,8,9,10],1000)]) (n:=200) ?_
 refine gE (Y:=T15 (fun r=>some (.ret (F.int .i64 r))) (fun l j n i=>some (.cut (at_ Tryz.f15 3) (xJ l j n i))) l j) (by kernel_rfl) ?_
 exact gC (fU k _ _ _ _ r h)
def IY (l:List (List Pt)) (j i:Nat):Bool:=i != j&&Ey (l.getD j []) (l.getD i [])
def E1 (l:List (List Pt)) (j:Nat):Nat:=(List.range' 0 l.length).countP (IY l j)
theorem M8 {l:List (List Pt)} (hn:l.length≤1000) (hr:∀ r ∈ l,A3 r=true) {j:Nat} (hj:j<l.length):∀ (d i n:Nat),i+d=l.length→n≤i→WB (d+1) l j n i=some (((n+(List.range' i d).countP (IY l j):Nat):Int))
 | 0,i,n,h,hni=>by
  have c1:decide ((i:Int)<(l.length:Int))=false:=decide_eq_false (by omega)
  rw [WB]
  simp only [kL,c1,AJ]
  rfl
 | d+1,i,n,h,hni=>by
  have hi:i<l.length:=by omega
  have c1:decide ((i:Int)<(l.length:Int))=true:=decide_eq_true (by omega)
  have c2:decide (0≤(i:Int))=true:=decide_eq_true (by omega)
  have c3:decide (0≤(j:Int))=true:=decide_eq_true (by omega)
  have c4:decide ((j:Int)<(l.length:Int))=true:=decide_eq_true (by omega)
  have w1:IntKind.i64.wrap ((i:Int)+1)=((i+1:Nat):Int):=by rw [As (by omega) (by omega)];omega
  have w2:IntKind.i64.wrap ((n:Int)+1)=((n+1:Nat):Int):=by rw [As (by omega) (by omega)];omega
  have ri:=hr _ (Cs (d:=[]) hi)
  have rj:=hr _ (Cs (d:=[]) hj)
  have tt:∀ b:Bool,(b==true)=b:=fun b=>by cases b <;> rfl
  have ne:((i:Int) != (j:Int))=(i != j):=by
   by_cases e:i=j
   ·subst e;simp
   ·rw [bne_iff_ne.2 e,bne_iff_ne.2 (by omega)]
  rw [WB]
  simp only [kL,c1,c2,c3,c4,w1,w2,Int.toNat_natCast,Ba,BH,ri,rj,tt,ne,Bool.and_self,AH]
  rw [M8 hn hr hj d (i+1) (n+1) (by omega) (by omega),M8 hn hr hj d (i+1) n (by omega) (by omega),List.range'_succ,List.countP_cons]
  have hd:IY l j i=(i != j&&Ey (l.getD j []) (l.getD i [])):=rfl
  rw [hd]
  generalize (List.range' (i+1) d).countP (IY l j)=C
  have e1:n+1+C=n+(C+1):=by omega
  rw [e1]
  cases i != j <;> cases Ey (l.getD j []) (l.getD i []) <;> rfl
def HV (l:List (List Pt)) (j:Int):Bool:=decide (0≤j)&&decide (j<(l.length:Int))
def O1:List F→Bool | [x,.int .i64 j]=>BR x&&(CM (Ah x)&&HV (Ah x) j) | _=>false
def WU:List F→F | [x,.int .i64 j]=>.int .i64 ((E1 (Ah x) j.toNat:Nat):Int) | _=>.dflt
theorem mT (q:List Pt):0≤CK q∧CK q≤5:=by
 unfold CK It
 cases decide (q.length<3) <;> cases decide (q.length > 12) <;> cases (q.all fun p=>By p.x p.y) <;> cases BI (Bl q) 0 q.length <;> cases BI (Es q) 0 q.length <;> simp
theorem aU {R:Int × Int}:∀ (l:List (List Pt)) (i:Nat),(Ls l i R).1=0→(∀ r ∈ l,A3 r=true)∧R.1=0
 | [],i,h=>⟨fun r hr=>by simp at hr,h⟩
 | r :: l,i,h=>by
  rw [Ls] at h
  have:=mT r
  cases hf:(CK r != 0) with
  | true =>
   rw [hf,cond_true] at h
   simp only [As (show -9223372036854775808≤10+CK r by omega) (by omega)] at h
   omega
  | false =>
   rw [hf,cond_false] at h
   obtain ⟨h1,h2⟩:=aU l (i+1) h
   refine ⟨fun p hp=>?_,h2⟩
   rcases List.mem_cons.1 hp with rfl | hp
   ·unfold A3
    rw [bne,Bool.not_eq_false'] at hf
    exact hf
   ·exact h1 p hp
theorem T1 (l:List (List Pt)):∀ (d i:Nat),(He l d i).1=0→∀ j,i≤j→j<i+d→Gh (l.getD j []) (l.take j)=false
 | 0,i,h,j,h1,h2=>by omega
 | d+1,i,h,j,h1,h2=>by
  rw [He] at h
  cases hc:Gh (l.getD i []) (l.take i) with
  | true=>rw [hc,cond_true] at h;exact absurd h (show ¬ (3:Int)=0 by decide)
  | false =>
   rw [hc,cond_false] at h
   by_cases e:j=i
   ·subst e;exact hc
   ·exact T1 l d (i+1) h j (by omega) (by omega)
theorem C9 {l:List (List Pt)} (h:CM l=true):l.length≤6∧(∀ r ∈ l,A3 r=true)∧∀ i,i<l.length→∀ k,k<i→Cy (l.getD i []) (l.getD k [])=false:=by
 have h0:(D9 l).1=0:=eq_of_beq h
 unfold D9 at h0
 by_cases h1:l.length > 6
 ·rw [decide_eq_true h1,cond_true] at h0;exact absurd h0 (by decide)
 ·rw [decide_eq_false h1,cond_false] at h0
  cases h2:decide (Hd l > 20) with
  | true=>rw [h2,cond_true] at h0;exact absurd h0 (by decide)
  | false =>
   rw [h2,cond_false] at h0
   obtain ⟨h3,h4⟩:=aU _ _ h0
   refine ⟨by omega,h3,fun i hi k hk=>?_⟩
   have h5:=T1 l l.length 0 h4 i (by omega) (by omega)
   unfold Gh at h5
   rw [List.any_eq_false] at h5
   have h6:=h5 (l.getD k []) (by
    have hlt:k<(l.take i).length:=by rw [List.length_take];omega
    have:(l.take i)[k]=l.getD k []:=by simp [List.getD,List.getElem?_eq_getElem (show k<l.length by omega)]
    rw [← this]
    exact List.getElem_mem hlt)
   simpa using h6
theorem okDep:Ak Tryz.prog 15 O1 WU :=
 Ad (c:=AT Tryz.f15) Tryz.func15 (by kernel_rfl) (by kernel_rfl) fun xs hp=>match xs,hp with
 | [x,.int .i64 j],hp=>by
  simp only [O1,HV,Bool.and_eq_true,decide_eq_true_eq] at hp
  obtain ⟨h1,h2,h3,h4⟩:=hp
  obtain ⟨f1,f2,_⟩:=C9 h2
  have e:=M8 (l:=Ah x) (by omega) f2 (j:=j.toNat) (by omega) (Ah x).length 0 0 (by omega) (by omega)
  rw [Int.toNat_of_nonneg h3,Nat.zero_add] at e
  exact ⟨[At (Ah x),.int .i64 j],_,⟨(DC h1).1,.refl _,trivial⟩,t15 ((Ah x).length+1) _ _ _ e,.refl _⟩
def envA5:Env:=envA4.add 15 (.pure O1 WU)
theorem Z8:Az Tryz.prog envA5:=(Env.add_ok SG okDep.sp)
end
noncomputable section
/-! ### function 10 -/
def T10 {ρ:Type} (ret:NQ ρ) (l:List (List Pt)) (j:Int):Option ρ :=
 (AD (BR (At l))
 (AD ((!CM (Ah (At l)))==false)
 (AD (!inV j 0 (IntKind.i64.wrap ((↑l.length:Int)-1)))
 (ret (-1))
 (AD (BR (At l)&&(CM (Ah (At l))&&HV (Ah (At l)) j))
 (ret ((↑(E1 (Ah (At l)) j.toNat):Int)))
 none))
 (ret (-1)))
 none)
def G10 (l:List (List Pt)) (j:Int):Option (Int):=T10 some l j
theorem t10 (l:List (List Pt)) (j:Int) (r:Int) (h:G10 l j=some r):AX Tryz.prog Tryz.f10.results.toList [.code (AT Tryz.f10)] (start Tryz.f10.ntmps ([At l,F.int .i64 j].map .f)) (F.int .i64 r):=by
 refine AX.of_run Au Z8 (T:=[]) (n:=200) ?_
 refine gE (Y:=T10 (fun r=>some (.ret (F.int .i64 r))) l j) (by kernel_rfl) ?_
 exact (gS h (fun _ h=>(gS h (fun _ h=>(gS h (fun _ h=>gR (by cases h;rfl)) (fun _ h=>(gS h (fun _ h=>gR (by cases h;rfl)) gN)))) (fun _ h=>gR (by cases h;rfl)))) gN)
def PJ (l:List (List Pt)) (j:Int):Int:=bif CM l&&HV l j then ((E1 l j.toNat:Nat):Int) else -1
def Ym:List F→Bool | [x,.int .i64 _]=>BR x | _=>false
def YS:List F→F | [x,.int .i64 j]=>.int .i64 (PJ (Ah x) j) | _=>.dflt
theorem okDepOf:Ak Tryz.prog 10 Ym YS :=
 Ad (c:=AT Tryz.f10) Tryz.func10 (by kernel_rfl) (by kernel_rfl) fun xs hp=>match xs,hp with
 | [x,.int .i64 j],hp=>by
  refine ⟨[At (Ah x),.int .i64 j],_,⟨(DC hp).1,.refl _,trivial⟩,t10 _ _ (PJ (Ah x) j) ?_,.refl _⟩
  generalize Ah x=l
  unfold G10 T10 PJ
  simp only [B5,B3,AH,Bool.true_and]
  cases h:CM l with
  | false=>rfl
  | true =>
   obtain ⟨h1,_⟩:=C9 h
   have e:(!inV j 0 (IntKind.i64.wrap ((l.length:Int)-1))) = !HV l j:=by
    rw [As (by omega) (by omega)]
    unfold inV HV
    rw [← Bool.decide_and,← Bool.decide_and]
    congr 1
    exact decide_eq_decide.2 (by omega)
   rw [e]
   cases HV l j <;> rfl
def envA6:Env:=envA5.add 10 (.pure Ym YS)
theorem Lf:Az Tryz.prog envA6:=(Env.add_ok Z8 okDepOf.sp)
end
noncomputable section
theorem QV {q:List Pt} {i:Nat} (hi:i<q.length):(i+1) % q.length<q.length:=Nat.mod_lt _ (by omega)
theorem Cq {q:List Pt} (h:RingIn q) {i:Nat} (hi:i<q.length):LC (AO q i) ∧
  ((AO q i=⟨rx q i,ry q i,rx q ((i+1) % q.length),ry q ((i+1) % q.length)⟩) ∨ (AO q i=⟨rx q ((i+1) % q.length),ry q ((i+1) % q.length),rx q i,ry q i⟩)):=by
 obtain ⟨h1,h2⟩:=Ir hi h.low
 have hne:q.getD i .zero ≠ q.getD ((i+1) % q.length) .zero:=Gp h hi h2 (fun e=>h1 e.symm)
 refine ⟨JY hne,?_⟩
 rcases JZ _ _ hne with ⟨_,e⟩ | ⟨_,e⟩
 ·exact .inl e
 ·exact .inr e
theorem Ru {q p:List Pt} (hq:RingIn q) (hp:RingIn p) {i j:Nat} (hi:i<q.length) (hj:j<p.length):Ea q p i j=false ↔ ¬ Pr (AO q i) (AO p j):=by
 have hk:=Jc (Dj hq hi) (Dj hp hj)
 unfold Ea
 rw [bne_eq_false_iff_eq]
 constructor
 ·exact fun h hm=>hk.2.1.2 hm h
 ·exact fun h=>Classical.byContradiction fun hn=>h (hk.2.1.1 hn)
theorem Nj {q p:List Pt}:Cy q p=false ↔ ∀ i,i<q.length→∀ j,j<p.length→Ea q p i j=false:=by
 unfold Cy gA
 rw [Bool.not_eq_false',El]
 constructor
 ·intro h i hi j hj
  have:=(El _ _ _).1 (h i (by omega) (by omega)) j (by omega) (by omega)
  simpa using this
 ·intro h i _ hi
  refine (El _ _ _).2 fun j _ hj=>?_
  rw [h i (by omega) j (by omega)]
  rfl
theorem cA {q p:List Pt} (hq:RingIn q) (hp:RingIn p) (h:Cy q p=false):Cy p q=false:=by
 rw [Nj] at h ⊢
 intro j hj i hi
 rw [Ru hp hq hj hi]
 have:=(Ru hq hp hi hj).1 (h i hi j hj)
 exact fun hm=>this ((IM (Cq hp hj).1 (Cq hq hi).1).1 hm)
theorem Io {q p:List Pt} (hq:RingIn q) (hp:RingIn p) (h:Cy q p=false):∀ i,i<q.length→∀ j,j<p.length →
  DM (rx q i) (ry q i) (rx q ((i+1) % q.length)) (ry q ((i+1) % q.length)) (rx p j) (ry p j) (rx p ((j+1) % p.length)) (ry p ((j+1) % p.length)):=by
 intro i hi j hj
 have hno:=(Ru hq hp hi hj).1 (Nj.1 h i hi j hj)
 obtain ⟨r1,e1⟩:=Cq hq hi
 obtain ⟨r2,e2⟩:=Cq hp hj
 have:=OP r1 r2 hno
 rcases e1 with e1 | e1 <;> rcases e2 with e2 | e2 <;> rw [e1,e2] at this
 ·exact this
 ·exact Gf this
 ·exact Gg this
 ·exact Gg (Gf this)
theorem vY {ax ay bx bY px py:Int} (h:nU ax ay bx bY px py=true) (hl:BP ax ay bx bY ∨ BP bx bY ax ay):(BP ax ay bx bY→RT ax ay bx bY px py)∧(BP bx bY ax ay→RT bx bY ax ay px py):=by
 have c1:=(Lp ax ay px py).1
 have c2:=(Lp px py bx bY).1
 have f:=Cw ax ay bx bY px py
 unfold nU at h
 simp only [Bool.or_eq_true,Bool.and_eq_true,beq_iff_eq,decide_eq_true_eq,Int.sign_eq_zero_iff_zero] at h
 unfold RT
 unfold BP at *
 unfold C8 at *
 rcases h with ⟨rfl,rfl⟩ | ⟨rfl,rfl⟩ | ⟨h1,h2⟩
 ·have e:AK ax ay bx bY ax ay=0:=by unfold AK;grind
  rw [f,e]
  omega
 ·have e:AK ax ay bx bY bx bY=0:=by unfold AK;grind
  rw [f,e]
  omega
 ·rw [f,h2]
  have r1:=OL ax ay 1 px py 1
  have r2:=OL px py 1 bx bY 1
  generalize CZ ax ay 1 px py 1=u at *
  generalize CZ px py 1 bx bY 1=v at *
  have hu:u = -1 ∨ u=0 ∨ u=1:=by omega
  rcases hu with rfl | rfl | rfl
  ·have:v≤0:=by omega
   have a1:=c1.1 (by omega)
   have a2:=c2.1 this
   omega
  ·omega
  ·have:¬ v≤0:=by omega
   have a1:¬ (ax<px ∨ ax=px∧ay≤py):=fun k=>by have:=c1.2 k;omega
   have a2:¬ (px<bx ∨ px=bx∧py≤bY):=fun k=>this (c2.2 k)
   omega
theorem no_btw {q p:List Pt} (hq:RingIn q) (hp:RingIn p) (h:Cy q p=false):∀ j,j<p.length→P0 p (rx q 0) (ry q 0) j=false:=by
 intro j hj
 have h0:0<q.length:=by have:=hq.low;omega
 cases hb:P0 p (rx q 0) (ry q 0) j with
 | false=>rfl
 | true =>
  exfalso
  have hno:=(Ru hq hp h0 hj).1 (Nj.1 h 0 h0 j hj)
  obtain ⟨r2,e2⟩:=Cq hp hj
  have hon:onS (AO p j) (q.getD 0 .zero):=by
   unfold P0 at hb
   unfold LC at r2
   rcases e2 with e2 | e2 <;> rw [e2] at r2 ⊢
   ·exact (vY hb (.inl r2)).1 r2
   ·exact (vY hb (.inr r2)).2 r2
  obtain ⟨h1,h2⟩:=Ir h0 hq.low
  have hne:q.getD 0 .zero ≠ q.getD ((0+1) % q.length) .zero:=Gp hq h0 h2 (fun e=>h1 e.symm)
  have:=Wn hne r2 hon
  exact hno ((IM r2 (Cq hq h0).1).1 this)
theorem Q1 {q:List Pt} {px py:Int} (hb:∀ j,j<q.length→P0 q px py j=false):∀ (d i:Nat),i+d=q.length→Mt q px py d i (CJ (E2 q px py) i)=bif CJ (E2 q px py) q.length then 1 else -1
 | 0,i,h=>by
  obtain rfl:i=q.length:=by omega
  rfl
 | d+1,i,h=>by
  have ih:=Q1 hb d (i+1) (by omega)
  rw [Mt,hb i (by omega),cond_false]
  exact ih
theorem pZ {q:List Pt} {px py:Int} (hb:∀ j,j<q.length→P0 q px py j=false):(Qz q px py==1)=Bw (rx q) (ry q) q.length px py:=by
 have e:Qz q px py=bif CJ (E2 q px py) q.length then 1 else -1:=Q1 hb q.length 0 (by omega)
 rw [e]
 show _=CJ (E2 q px py) q.length
 cases CJ (E2 q px py) q.length <;> rfl
theorem aK {f g:Nat→Bool}:∀ L:List Nat,(∀ x ∈ L,f x=true→g x=true)→L.countP f≤L.countP g
 | [],_=>Nat.le_refl _
 | x :: L,h=>by
  have h1:=aK L fun y hy=>h y (List.mem_cons_of_mem _ hy)
  have h2:=h x (by simp)
  rw [List.countP_cons,List.countP_cons]
  cases hf:f x with
  | false=>simp;omega
  | true=>rw [h2 hf];simp;omega
theorem aJ {f g:Nat→Bool} {a:Nat} (hg:g a=true) (hf:f a=false):∀ L:List Nat,(∀ x ∈ L,f x=true→g x=true)→a ∈ L→L.countP f<L.countP g
 | [],_,ha=>by simp at ha
 | x :: L,h,ha=>by
  have h1:=aK L fun y hy=>h y (List.mem_cons_of_mem _ hy)
  have h2:=h x (by simp)
  rw [List.countP_cons,List.countP_cons]
  rcases List.mem_cons.1 ha with rfl | ha
  ·rw [hg,hf];simp;omega
  ·have h3:=aJ hg hf L (fun y hy=>h y (List.mem_cons_of_mem _ hy)) ha
   cases hfx:f x with
   | false=>simp;omega
   | true=>rw [h2 hfx];simp;omega
section
variable {l:List (List Pt)} (h:CM l=true)
include h
theorem Ce {i:Nat} (hi:i<l.length):RingIn (l.getD i []):=CU ((C9 h).2.1 _ (Cs hi))
theorem EQ {i k:Nat} (hi:i<l.length) (hk:k<l.length) (hik:i ≠ k):Cy (l.getD i []) (l.getD k [])=false:=by
 obtain ⟨_,_,h3⟩:=C9 h
 rcases Nat.lt_or_ge k i with h1 | h1
 ·exact h3 i hi k h1
 ·exact cA (Ce h hk) (Ce h hi) (h3 k hk i (by omega))
theorem Rq {i k:Nat} (hi:i<l.length) (hk:k<l.length) (hik:i ≠ k):Ey (l.getD i []) (l.getD k [])=Bw (rx (l.getD k [])) (ry (l.getD k [])) (l.getD k []).length (rx (l.getD i []) 0) (ry (l.getD i []) 0):=by
 have h1:=EQ h hi hk hik
 unfold Ey
 rw [h1,pZ (no_btw (Ce h hi) (Ce h hk) h1)]
 rfl
theorem Qb {i k:Nat} (hi:i<l.length) (hk:k<l.length) (hik:i ≠ k):∀ m,m<(l.getD i []).length→Bw (rx (l.getD k [])) (ry (l.getD k [])) (l.getD k []).length (rx (l.getD i []) m) (ry (l.getD i []) m)=Ey (l.getD i []) (l.getD k []):=by
 intro m hm
 rw [Rq h hi hk hik]
 exact RN (A:=rx (l.getD i [])) (B:=ry (l.getD i [])) (fun j hj i' hi'=>(Io (Ce h hi) (Ce h hk) (EQ h hi hk hik) j hj i' hi').1) m hm
theorem iU {i k:Nat} (hi:i<l.length) (hk:k<l.length) (hik:i ≠ k) (h1:Ey (l.getD i []) (l.getD k [])=true) (h2:Ey (l.getD k []) (l.getD i [])=true):False :=
 rM (X:=rx (l.getD k [])) (Y:=ry (l.getD k [])) (A:=rx (l.getD i [])) (B:=ry (l.getD i [])) (n:=(l.getD k []).length) (k:=(l.getD i []).length) (by have:=(Ce h hi).low;omega)
  (fun j hj=>(Qb h hi hk hik j hj).trans h1) (fun m hm=>(Qb h hk hi (fun e=>hik e.symm) m hm).trans h2)
theorem tK {i k j:Nat} (hi:i<l.length) (hk:k<l.length) (hj:j<l.length) (hik:i ≠ k) (hkj:k ≠ j) (hij:i ≠ j) (h1:Ey (l.getD i []) (l.getD k [])=true) (h2:Ey (l.getD k []) (l.getD j [])=true):Ey (l.getD i []) (l.getD j [])=true:=by
 rw [Rq h hi hj hij]
 have h3:Ey (l.getD j []) (l.getD k [])=false:=by
  cases hc:Ey (l.getD j []) (l.getD k []) with
  | false=>rfl
  | true=>exact (iU h hj hk (fun e=>hkj e.symm) hc h2).elim
 refine Tv (A:=rx (l.getD k [])) (B:=ry (l.getD k [])) (k:=(l.getD k []).length) (Io (Ce h hk) (Ce h hj) (EQ h hk hj hkj)) (Io (Ce h hj) (Ce h hk) (EQ h hj hk fun e=>hkj e.symm))
  ?_ (fun m hm=>(Qb h hk hj hkj m hm).trans h2) (fun m hm=>(Qb h hj hk (fun e=>hkj e.symm) m hm).trans h3)
 rw [← Rq h hi hk hik]
 exact h1
theorem dep_lt {i k:Nat} (hi:i<l.length) (hk:k<l.length) (hik:i ≠ k) (h1:Ey (l.getD i []) (l.getD k [])=true):E1 l k<E1 l i:=by
 unfold E1
 refine aJ (a:=k) ?_ ?_ _ (fun m hm hd=>?_) (List.mem_range'_1.2 ⟨Nat.zero_le _,by omega⟩)
 ·unfold IY
  rw [h1,bne_iff_ne.2 (fun e=>hik e.symm)]
  rfl
 ·unfold IY
  simp
 ·have hml:m<l.length:=by have:=(List.mem_range'_1.1 hm).2;omega
  unfold IY at hd ⊢
  rw [Bool.and_eq_true,bne_iff_ne] at hd ⊢
  have hne:m ≠ i:=fun e=>by
   subst e
   exact iU h hml hk hik h1 hd.2
  exact ⟨hne,tK h hi hk hml hik (fun e=>hd.1 e.symm) (fun e=>hne e.symm) h1 hd.2⟩
end
end
/-! ### function 27 -/
def T27 {ρ:Type} (ret:Ss ρ) (s:ByteArray) (p:Int) (n:Int):Option ρ :=
 (AD (decide (n≤1))
 (ret (0) (p))
 (AD (decide (n≤256))
 (AD (A1 (AB s)&&Bj (AA (AB s)) p)
 (AD (n != 0)
 (ret ((GK (AA (AB s)) p).fst.tmod n) ((GK (AA (AB s)) p).snd))
 none)
 none)
 (AD (A1 (AB s)&&Bj (AA (AB s)) p)
 (AD (A1 (AB s)&&Bj (AA (AB s)) (GK (AA (AB s)) p).snd)
 (AD (n != 0)
 (ret ((IntKind.i64.wrap (IntKind.i64.wrap ((GK (AA (AB s)) p).fst*256)+(GK (AA (AB s)) (GK (AA (AB s)) p).snd).fst)).tmod n) ((GK (AA (AB s)) (GK (AA (AB s)) p).snd).snd))
 none)
 none)
 none)))
def G27 (s:ByteArray) (p:Int) (n:Int):Option ((Int) × (Int)):=T27 (fun r q=>some (r,q)) s p n
theorem t27 (s:ByteArray) (p:Int) (n:Int) (r:Int) (q:Int) (h:G27 s p n=some (r,q)):Ct Tryz.prog 1 Tryz.f27.results.toList [.code (AT Tryz.f27)] (Cx Tryz.f27.ntmps [U.hp 0 0,U.f (F.int .i64 n)] [HO.box [U.f (AB s),U.f (F.int .i64 p)]]) (F.tup [F.int .i64 r,F.agg [AB s,F.int .i64 q]]):=by
 refine AX.of_run Au Z3 (T:=[]) (n:=200) ?_
 refine gE (Y:=T27 (fun r q=>some (.ret (F.tup [F.int .i64 r,F.agg [AB s,F.int .i64 q]]))) s p n) (by kernel_rfl) ?_
 exact (gS h (fun _ h=>gR (by cases h;rfl)) (fun _ h=>(gS h (fun _ h=>(gS h (fun _ h=>(gS h (fun _ h=>gR (by cases h;rfl)) gN)) gN)) (fun _ h=>(gS h (fun _ h=>(gS h (fun _ h=>(gS h (fun _ h=>gR (by cases h;rfl)) gN)) gN)) gN)))))
def AU (s:ByteArray) (p n:Int):Int × Int:=(G27 s p n).getD (0,0)
theorem If {s:ByteArray} {p:Int} (h:Bj s p=true) (n:Int) :
  G27 s p n=some (AU s p n)∧0≤(AU s p n).1∧((AU s p n).1<n ∨ (AU s p n).1=0)∧Bj s (AU s p n).2=true:=by
 obtain ⟨h1,h2,h3,h4⟩:=QU h
 obtain ⟨k1,k2,k3,k4⟩:=QU h4
 unfold AU G27 T27
 simp only [BW,BY,h,h4,Bool.and_self,AH]
 by_cases c1:n≤1
 ·simp only [decide_eq_true c1,AH,Option.getD_some]
  exact ⟨trivial,by omega,.inr trivial,h⟩
 ·have hn:(n != 0)=true:=by simp;omega
  simp only [decide_eq_false c1,AJ,hn,AH]
  by_cases c2:n≤256
  ·simp only [decide_eq_true c2,AH,Option.getD_some]
   exact ⟨trivial,Int.tmod_nonneg _ h2,.inl (Int.tmod_lt_of_pos _ (by omega)),h4⟩
  ·simp only [decide_eq_false c2,AJ,Option.getD_some]
   refine ⟨trivial,Int.tmod_nonneg _ ?_,.inl (Int.tmod_lt_of_pos _ (by omega)),k4⟩
   rw [Il (x:=(GK s p).1*256) (by omega) (by omega),Il (by omega) (by omega)]
   omega
theorem okBelow:Gk Tryz.prog 27 (Np (fun cs xs=>match xs with | [.int .i64 n]=>S4 cs | _=>false) (fun cs xs=>match xs with | [.int .i64 n]=>rd (fun s p=>(.int .i64 (AU s p n).1,(AU s p n).2)) cs | _=>(.dflt,cs))) :=
 MR (c:=AT Tryz.f27) Tryz.func27 (by kernel_rfl) (by kernel_rfl) fun cs xs hp=>by
  split at hp
  ·rename_i n
   obtain ⟨b,p,rfl,hb,hr⟩:=JR hp
   obtain ⟨h1,_⟩:=If hr n
   exact ⟨[AB (AA b),.int .i64 p],[.int .i64 n],_,_,⟨(Ci hb).1,.refl _,trivial⟩,⟨.refl _,trivial⟩,t27 _ _ _ _ _ h1,.refl _,⟨(Ci hb).2,.refl _,trivial⟩⟩
  ·cases hp
def envD2:Env:=envD1.add 27 (Np (fun cs xs=>match xs with | [.int .i64 n]=>S4 cs | _=>false) (fun cs xs=>match xs with | [.int .i64 n]=>rd (fun s p=>(.int .i64 (AU s p n).1,(AU s p n).2)) cs | _=>(.dflt,cs)))
theorem Zz:Az Tryz.prog envD2:=(Env.add_ok Z3 okBelow)
/-! ### function 29 -/
def T29 {ρ:Type} (ret:(Bool)→(Int)→Option ρ) (s:ByteArray) (p:Int) (n:Int):Option ρ :=
 (AD (A1 (AB s)&&Bj (AA (AB s)) p)
 (ret ((AU (AA (AB s)) p n).fst==IntKind.i64.wrap (n-1)) ((AU (AA (AB s)) p n).snd))
 none)
def G29 (s:ByteArray) (p:Int) (n:Int):Option ((Bool) × (Int)):=T29 (fun r q=>some (r,q)) s p n
theorem t29 (s:ByteArray) (p:Int) (n:Int) (r:Bool) (q:Int) (h:G29 s p n=some (r,q)):Ct Tryz.prog 1 Tryz.f29.results.toList [.code (AT Tryz.f29)] (Cx Tryz.f29.ntmps [U.hp 0 0,U.f (F.int .i64 n)] [HO.box [U.f (AB s),U.f (F.int .i64 p)]]) (F.tup [F.bool r,F.agg [AB s,F.int .i64 q]]):=by
 refine AX.of_run Au Zz (T:=[]) (n:=200) ?_
 refine gE (Y:=T29 (fun r q=>some (.ret (F.tup [F.bool r,F.agg [AB s,F.int .i64 q]]))) s p n) (by kernel_rfl) ?_
 exact (gS h (fun _ h=>gR (by cases h;rfl)) gN)
def Bm (s:ByteArray) (p n:Int):Bool × Int:=(G29 s p n).getD (false,0)
theorem MN {s:ByteArray} {p:Int} (h:Bj s p=true) (n:Int):G29 s p n=some (Bm s p n)∧Bj s (Bm s p n).2=true:=by
 obtain ⟨h1,h2,h3,h4⟩:=If h n
 unfold Bm G29 T29
 simp only [BW,BY,h,h4,Bool.and_self,AH,Option.getD_some]
 exact ⟨trivial,trivial⟩
theorem okOnce:Gk Tryz.prog 29 (Np (fun cs xs=>match xs with | [.int .i64 n]=>S4 cs | _=>false) (fun cs xs=>match xs with | [.int .i64 n]=>rd (fun s p=>(.bool (Bm s p n).1,(Bm s p n).2)) cs | _=>(.dflt,cs))) :=
 MR (c:=AT Tryz.f29) Tryz.func29 (by kernel_rfl) (by kernel_rfl) fun cs xs hp=>by
  split at hp
  ·rename_i n
   obtain ⟨b,p,rfl,hb,hr⟩:=JR hp
   obtain ⟨h1,_⟩:=MN hr n
   exact ⟨[AB (AA b),.int .i64 p],[.int .i64 n],_,_,⟨(Ci hb).1,.refl _,trivial⟩,⟨.refl _,trivial⟩,t29 _ _ _ _ _ h1,.refl _,⟨(Ci hb).2,.refl _,trivial⟩⟩
  ·cases hp
def envD3:Env:=envD2.add 29 (Np (fun cs xs=>match xs with | [.int .i64 n]=>S4 cs | _=>false) (fun cs xs=>match xs with | [.int .i64 n]=>rd (fun s p=>(.bool (Bm s p n).1,(Bm s p n).2)) cs | _=>(.dflt,cs)))
theorem SC:Az Tryz.prog envD3:=(Env.add_ok Zz okOnce)
abbrev RA (pre:List F→Bool) (V:List F→ByteArray→Int→F × Int):Sp:=Np (fun cs xs=>S4 cs&&pre xs) (fun cs xs=>rd (V xs) cs)
theorem Y6 {f:FuncId} {fn:Func} {c:Code} (hf:Tryz.prog.funcs[f]?=some fn) (hb:fn.body=some c) (hname:Mi fn=false) {pre:List F→Bool} {V:List F→ByteArray→Int→F × Int}
  (h:∀ xs s p,pre xs=true→Bj s p=true→∃ r,FLe r (V xs s p).1∧Ct Tryz.prog 1 fn.results.toList [.code c] (Cx fn.ntmps (U.hp 0 0 :: xs.map U.f) [HO.box [U.f (AB s),U.f (F.int .i64 p)]]) (.tup [r,.agg [AB s,.int .i64 (V xs s p).2]])) :
  Gk Tryz.prog f (RA pre V) :=
 MR hf hb hname fun cs xs hp=>by
  simp only [Bool.and_eq_true] at hp
  obtain ⟨b,p,rfl,hb,hr⟩:=JR hp.1
  obtain ⟨r,h1,h2⟩:=h xs (AA b) p hp.2 hr
  exact ⟨[AB (AA b),.int .i64 p],xs,r,_,⟨(Ci hb).1,.refl _,trivial⟩,E5.refl _,h2,h1,⟨(Ci hb).2,.refl _,trivial⟩⟩
def isNone:List F→Bool | []=>true | _=>false
/-! ### function 41 -/
def xC (s:ByteArray) (p:Int) (x3:Int) (x4:Int):St:=⟨(U.hp 0 0) :: Al 2 ((U.f (F.int .u64 x3)) :: (U.f (F.int .i64 x4)) :: Al 11 []),[HO.box [U.f (AB s),U.f (F.int .i64 p)]]⟩
def jZ {ρ:Type} (ret:Ss ρ) (c3:(ByteArray)→(Int)→(Int)→(Int)→Option ρ) (s:ByteArray) (p:Int) (x3:Int) (x4:Int):Option ρ :=
 (AD (decide (x4<8))
 (AD (A1 (AB s)&&Bj (AA (AB s)) p)
 (c3 (s) ((GK (AA (AB s)) p).snd) (B8 BinOp.or IntKind.u64 (IntKind.u64.wrap (x3*2 ^ min (Int.toNat 8) IntKind.u64.bits)) (IntKind.u64.wrap (GK (AA (AB s)) p).fst)) (IntKind.i64.wrap (x4+1)))
 none)
 (ret (x3) (p)))
def V4:Nat→(ByteArray)→(Int)→(Int)→(Int)→Option ((Int) × (Int))
 | 0,_,_,_,_=>none
 | k+1,s,p,x3,x4=>jZ (fun r q=>some (r,q)) (V4 k) s p x3 x4
def T41 {ρ:Type} (ret:Ss ρ) (c3:(ByteArray)→(Int)→(Int)→(Int)→Option ρ) (s:ByteArray) (p:Int):Option ρ :=
 (c3 (s) (p) (0) (0))
def G41 (k:Nat) (s:ByteArray) (p:Int):Option ((Int) × (Int)):=T41 (fun r q=>some (r,q)) (V4 k) s p
theorem t41_3:∀ (k:Nat) (s:ByteArray) (p:Int) (x3:Int) (x4:Int) (r:Int) (q:Int),V4 k s p x3 x4=some (r,q)→Ct Tryz.prog 1 Tryz.f41.results.toList (at_ Tryz.f41 3) (xC s p x3 x4) (F.tup [F.int .u64 r,F.agg [AB s,F.int .i64 q]])
 | 0,_,_,_,_,_,_,h=>nomatch h
 | k+1,s,p,x3,x4,r,q,h=>by
  refine AX.of_cut Au SC (T:=[(3,[0,3,4],1)]) (n:=200) ?_
  refine gE (Y:=jZ (fun r q=>some (.ret (F.tup [F.int .u64 r,F.agg [AB s,F.int .i64 q]]))) (fun s p x3 x4=>some (.cut (at_ Tryz.f41 3) (xC s p x3 x4))) s p x3 x4) (by kernel_rfl) ?_
  exact (gS h (fun _ h=>(gS h (fun _ h=>gC (t41_3 k _ _ _ _ r q h)) gN)) (fun _ h=>gR (by cases h;rfl)))
theorem t41 (k:Nat) (s:ByteArray) (p:Int) (r:Int) (q:Int) (h:G41 k s p=some (r,q)):Ct Tryz.prog 1 Tryz.f41.results.toList [.code (AT Tryz.f41)] (Cx Tryz.f41.ntmps [U.hp 0 0] [HO.box [U.f (AB s),U.f (F.int .i64 p)]]) (F.tup [F.int .u64 r,F.agg [AB s,F.int .i64 q]]):=by
 refine AX.of_run Au SC (T:=[(3,[0,3,4],1)]) (n:=200) ?_
 refine gE (Y:=T41 (fun r q=>some (.ret (F.tup [F.int .u64 r,F.agg [AB s,F.int .i64 q]]))) (fun s p x3 x4=>some (.cut (at_ Tryz.f41 3) (xC s p x3 x4))) s p) (by kernel_rfl) ?_
 exact gC (t41_3 k _ _ _ _ r q h)
theorem TL {s:ByteArray}:∀ (d i:Nat) (p x:Int),i+d=8→Bj s p=true→∃ r q,V4 (d+1) s p x i=some (r,q)∧Bj s q=true
 | 0,i,p,x,h,hr=>by
  obtain rfl:i=8:=by omega
  have c1:decide (((8:Nat):Int)<8)=false:=by decide
  exact ⟨x,p,by simp only [V4,jZ,c1,AJ],hr⟩
 | d+1,i,p,x,h,hr=>by
  obtain ⟨h1,h2,h3,h4⟩:=QU hr
  have c1:decide ((i:Int)<8)=true:=decide_eq_true (by omega)
  have e2:IntKind.i64.wrap ((i:Int)+1)=((i+1:Nat):Int):=by rw [Il (by omega) (by omega)];omega
  rw [V4]
  simp only [jZ,BW,BY,hr,c1,e2,Bool.and_self,AH]
  exact TL d (i+1) _ _ (by omega) h4
def NS (s:ByteArray) (p:Int):Int × Int:=(G41 9 s p).getD (0,0)
theorem fQ {s:ByteArray} {p:Int} (h:Bj s p=true):G41 9 s p=some (NS s p)∧Bj s (NS s p).2=true:=by
 obtain ⟨r,q,e,k⟩:=TL 8 0 p 0 (by omega) h
 have:G41 9 s p=some (r,q):=e
 unfold NS
 rw [this]
 exact ⟨rfl,k⟩
theorem okWord:Gk Tryz.prog 41 (RA isNone fun _ s p=>(.int .u64 (NS s p).1,(NS s p).2)) :=
 Y6 (c:=AT Tryz.f41) Tryz.func41 (by kernel_rfl) (by kernel_rfl) fun xs s p hx hr=>match xs,hx with
 | [],_=>⟨_,.refl _,t41 9 s p _ _ (fQ hr).1⟩
def envD7:Env:=envD3.add 41 (RA isNone fun _ s p=>(.int .u64 (NS s p).1,(NS s p).2))
theorem Zy:Az Tryz.prog envD7:=(Env.add_ok SC okWord)
end Go.Proofs.YtonmnfkibnflnaaGreat.R
