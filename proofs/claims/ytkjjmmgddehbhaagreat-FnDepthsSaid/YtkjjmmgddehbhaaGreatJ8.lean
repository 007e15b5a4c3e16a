/-
 The own walk and what it shows,part 8 of 9.
-/
import Derived.Test.YtkjjmmgddehbhaaGreatJ1
import Derived.Test.YtkjjmmgddehbhaaGreatJ2
import Derived.Test.YtkjjmmgddehbhaaGreatJ3
import Derived.Test.YtkjjmmgddehbhaaGreatJ4
import Derived.Test.YtkjjmmgddehbhaaGreatJ5
import Derived.Test.YtkjjmmgddehbhaaGreatJ6
import Derived.Test.YtkjjmmgddehbhaaGreatJ7
set_option linter.unusedVariables false
set_option linter.unusedSimpArgs false
set_option maxRecDepth 100000
set_option exponentiation.threshold 30000
namespace Go.Proofs.YtkjjmmgddehbhaaGreat.R
open Go
noncomputable section
set_option maxHeartbeats 1000000
/-! ### function 15 -/
def S15_7 (q:List Pt) (n:Int) (i:Int) (m:Int):St:=⟨bads 1 ((U.hp 0 0) :: bads 1 ((U.f (F.int .i64 n)) :: bads 23 ((U.f (ptsF q)) :: (U.f (F.int .i64 m)) :: (U.f (F.int .i64 i)) :: bads 73 []))),[HO.box [(U.f (ptsF q))]]⟩
def S15_13 (q:List Pt) (n:Int) (i:Int) (m:Int):St:=⟨bads 1 ((U.hp 0 0) :: bads 1 ((U.f (F.int .i64 n)) :: bads 34 ((U.f (ptsF q)) :: (U.f (F.int .i64 m)) :: (U.f (F.int .i64 i)) :: bads 62 []))),[HO.box [(U.f (ptsF q))]]⟩
def S15_20 (l:List Sg) (n:Int) (m:Int) (i:Int):St:=⟨bads 3 ((U.f (F.int .i64 n)) :: bads 4 ((U.f (segsF l)) :: bads 45 ((U.f (segsF l)) :: (U.f (F.int .i64 m)) :: (U.f (F.int .i64 i)) :: bads 46 []))),[]⟩
def S15_23 (l:List Sg) (n:Int) (m:Int) (i:Int) (a:Int) (b:Int) (c:Int) (d:Int) (w:Nat) (u:Int) (j:Int):St:=⟨bads 3 ((U.f (F.int .i64 n)) :: bads 4 ((U.f (segsF l)) :: (U.f (F.int .i64 i)) :: (U.hp 0 0) :: bads 43 ((U.f (segsF l)) :: (U.f (F.int .i64 m)) :: (U.f (F.int .i64 i)) :: bads 6 ((U.f (F.sl w fun o=>F.agg [F.int .i64 (l.getD (0+o) Sg.zero).x0,F.int .i64 (l.getD (0+o) Sg.zero).y0,F.int .i64 (l.getD (0+o) Sg.zero).x1,F.int .i64 (l.getD (0+o) Sg.zero).y1])) :: (U.f (F.int .i64 u)) :: (U.f (F.int .i64 j)) :: bads 37 [])))),[HO.box [(U.f (F.int .i64 a)),(U.f (F.int .i64 b)),(U.f (F.int .i64 c)),(U.f (F.int .i64 d))]]⟩
abbrev KJ82 (ρ:Type):=(List Sg)→(Int)→(Int)→(Int)→(Int)→(Int)→(Int)→(Int)→(Nat)→(Int)→(Int)→Option ρ
abbrev KJ83 (ρ:Type):=(List Pt)→(Int)→(Int)→(Int)→Option ρ
abbrev KJ86 (ρ:Type):=(Int)→Option ρ
abbrev KJ88 (ρ:Type):=(List Sg)→(Int)→(Int)→(Int)→Option ρ
def T15_7 {ρ:Type} (ret:KJ86 ρ) (c7:KJ83 ρ) (c13:KJ83 ρ) (c20:KJ88 ρ) (c23:KJ82 ρ) (q:List Pt) (n:Int) (i:Int) (m:Int):Option ρ :=
 (bsel (decide (i<m))
 (bsel (decide (0≤i))
 (bsel (decide (i<(↑q.length:Int)))
 (bsel (!spotOkV (q.getD i.toNat Pt.zero).x (q.getD i.toNat Pt.zero).y)
 (ret (3))
 (c7 (q) (n) (IntKind.i64.wrap (i+1)) (m)))
 none)
 none)
 (c13 (q) (n) (0) ((↑q.length:Int))))
def T15_13 {ρ:Type} (ret:KJ86 ρ) (c7:KJ83 ρ) (c13:KJ83 ρ) (c20:KJ88 ρ) (c23:KJ82 ρ) (q:List Pt) (n:Int) (i:Int) (m:Int):Option ρ :=
 (bsel (decide (i<m))
 (bsel (decide (0≤i))
 (bsel (decide (i<(↑q.length:Int)))
 (bsel (decide (0≤i))
 (bsel (decide (i≤(↑q.length:Int)))
 (bsel (isPts (F.sl (i.toNat-Int.toNat 0) fun j ↦ ptF (q.getD (Int.toNat 0+j) Pt.zero))&&isShort (unPts (F.sl (i.toNat-Int.toNat 0) fun j ↦ ptF (q.getD (Int.toNat 0+j) Pt.zero))))
 (bsel (hasV (unPts (F.sl (i.toNat-Int.toNat 0) fun j ↦ ptF (q.getD (Int.toNat 0+j) Pt.zero))) (q.getD i.toNat Pt.zero).x (q.getD i.toNat Pt.zero).y)
 (ret (4))
 (c13 (q) (n) (IntKind.i64.wrap (i+1)) (m)))
 none)
 none)
 none)
 none)
 none)
 (bsel (isRing (F.agg [ptsF q])&&isShort (unRing (F.agg [ptsF q])))
 (c20 (sidesOf (unRing (F.agg [ptsF q]))) (n) ((↑(sidesOf (unRing (F.agg [ptsF q]))).length:Int)) (0))
 none))
def T15_20 {ρ:Type} (ret:KJ86 ρ) (c7:KJ83 ρ) (c13:KJ83 ρ) (c20:KJ88 ρ) (c23:KJ82 ρ) (l:List Sg) (n:Int) (m:Int) (i:Int):Option ρ :=
 (bsel (decide (i<m))
 (bsel (decide (0≤i))
 (bsel (decide (i<(↑l.length:Int)))
 (bsel (decide (0≤i))
 (bsel (decide (i≤(↑l.length:Int)))
 (c23 (l) (n) (m) (i) ((l.getD i.toNat Sg.zero).x0) ((l.getD i.toNat Sg.zero).y0) ((l.getD i.toNat Sg.zero).x1) ((l.getD i.toNat Sg.zero).y1) (i.toNat-0) ((↑(i.toNat-Int.toNat 0):Int)) (0))
 none)
 none)
 none)
 none)
 (ret (0)))
def T15_23 {ρ:Type} (ret:KJ86 ρ) (c7:KJ83 ρ) (c13:KJ83 ρ) (c20:KJ88 ρ) (c23:KJ82 ρ) (l:List Sg) (n:Int) (m:Int) (i:Int) (a:Int) (b:Int) (c:Int) (d:Int) (w:Nat) (u:Int) (j:Int):Option ρ :=
 (bsel (decide (j<u))
 (bsel (decide (0≤j))
 (bsel (decide (j<(↑w:Int)))
 (bsel (segOkV a b c d&&segOkV (l.getD (0+j.toNat) Sg.zero).x0 (l.getD (0+j.toNat) Sg.zero).y0 (l.getD (0+j.toNat) Sg.zero).x1 (l.getD (0+j.toNat) Sg.zero).y1)
 (bsel ((j==IntKind.i64.wrap (i-1))==false)
 (bsel ((j==0)==true)
 (bsel ((kindIV a b c d (l.getD (0+j.toNat) Sg.zero).x0 (l.getD (0+j.toNat) Sg.zero).y0 (l.getD (0+j.toNat) Sg.zero).x1 (l.getD (0+j.toNat) Sg.zero).y1==2)==false)
 (bsel ((kindIV a b c d (l.getD (0+j.toNat) Sg.zero).x0 (l.getD (0+j.toNat) Sg.zero).y0 (l.getD (0+j.toNat) Sg.zero).x1 (l.getD (0+j.toNat) Sg.zero).y1==1)==true)
 (bsel (!i==IntKind.i64.wrap (n-1))
 (ret (5))
 (c23 (l) (n) (m) (i) (a) (b) (c) (d) (w) (u) (IntKind.i64.wrap (j+1))))
 (c23 (l) (n) (m) (i) (a) (b) (c) (d) (w) (u) (IntKind.i64.wrap (j+1))))
 (ret (5)))
 (bsel ((kindIV a b c d (l.getD (0+j.toNat) Sg.zero).x0 (l.getD (0+j.toNat) Sg.zero).y0 (l.getD (0+j.toNat) Sg.zero).x1 (l.getD (0+j.toNat) Sg.zero).y1==2)==false)
 (bsel ((kindIV a b c d (l.getD (0+j.toNat) Sg.zero).x0 (l.getD (0+j.toNat) Sg.zero).y0 (l.getD (0+j.toNat) Sg.zero).x1 (l.getD (0+j.toNat) Sg.zero).y1==1)==true)
 (ret (5))
 (c23 (l) (n) (m) (i) (a) (b) (c) (d) (w) (u) (IntKind.i64.wrap (j+1))))
 (ret (5))))
 (bsel ((kindIV a b c d (l.getD (0+j.toNat) Sg.zero).x0 (l.getD (0+j.toNat) Sg.zero).y0 (l.getD (0+j.toNat) Sg.zero).x1 (l.getD (0+j.toNat) Sg.zero).y1==2)==false)
 (bsel ((kindIV a b c d (l.getD (0+j.toNat) Sg.zero).x0 (l.getD (0+j.toNat) Sg.zero).y0 (l.getD (0+j.toNat) Sg.zero).x1 (l.getD (0+j.toNat) Sg.zero).y1==1)==true)
 (c23 (l) (n) (m) (i) (a) (b) (c) (d) (w) (u) (IntKind.i64.wrap (j+1)))
 (c23 (l) (n) (m) (i) (a) (b) (c) (d) (w) (u) (IntKind.i64.wrap (j+1))))
 (ret (5))))
 none)
 none)
 none)
 (c20 (l) (n) (m) (IntKind.i64.wrap (i+1))))
mutual
def L15_7:Nat→(List Pt)→(Int)→(Int)→(Int)→Option (Int)
 | 0,_,_,_,_=>none
 | k+1,q,n,i,m=>T15_7 some (L15_7 k) (L15_13 k) (L15_20 k) (L15_23 k) q n i m
 termination_by structural k=>k
def L15_13:Nat→(List Pt)→(Int)→(Int)→(Int)→Option (Int)
 | 0,_,_,_,_=>none
 | k+1,q,n,i,m=>T15_13 some (L15_7 k) (L15_13 k) (L15_20 k) (L15_23 k) q n i m
 termination_by structural k=>k
def L15_20:Nat→(List Sg)→(Int)→(Int)→(Int)→Option (Int)
 | 0,_,_,_,_=>none
 | k+1,l,n,m,i=>T15_20 some (L15_7 k) (L15_13 k) (L15_20 k) (L15_23 k) l n m i
 termination_by structural k=>k
def L15_23:Nat→(List Sg)→(Int)→(Int)→(Int)→(Int)→(Int)→(Int)→(Int)→(Nat)→(Int)→(Int)→Option (Int)
 | 0,_,_,_,_,_,_,_,_,_,_,_=>none
 | k+1,l,n,m,i,a,b,c,d,w,u,j=>T15_23 some (L15_7 k) (L15_13 k) (L15_20 k) (L15_23 k) l n m i a b c d w u j
 termination_by structural k=>k
end
def T15 {ρ:Type} (ret:KJ86 ρ) (c7:KJ83 ρ) (c13:KJ83 ρ) (c20:KJ88 ρ) (c23:KJ82 ρ) (q:List Pt):Option ρ :=
 (bsel (decide ((↑q.length:Int)<3))
 (ret (1))
 (bsel (decide ((↑q.length:Int) > 12))
 (ret (2))
 (c7 (q) ((↑q.length:Int)) (0) ((↑q.length:Int)))))
def G15 (k:Nat) (q:List Pt):Option (Int):=T15 some (L15_7 k) (L15_13 k) (L15_20 k) (L15_23 k) q
mutual
theorem t15_7:∀ (k:Nat) (q:List Pt) (n:Int) (i:Int) (m:Int) (r:Int),L15_7 k q n i m=some r→Ends Tryz.prog Tryz.f15.results.toList (at_ Tryz.f15 7) (S15_7 q n i m) (F.int .i64 r)
 | 0,_,_,_,_,_,h=>nomatch h
 | k+1,q,n,i,m,r,h=>by
  refine Ends.of_cut tyOK envK2_ok (T:=[(7,[1,3,27,28,29],1000),(13,[1,3,38,39,40],1000),(20,[3,8,54,55,56],1000),(23,[3,8,9,10,54,55,56,63,64,65],1000)]) (n:=200) ?_
  refine gE (Y:=T15_7 (fun r=>some (.ret (F.int .i64 r))) (fun q n i m=>some (.cut (at_ Tryz.f15 7) (S15_7 q n i m))) (fun q n i m=>some (.cut (at_ Tryz.f15 13) (S15_13 q n i m))) (fun l n m i=>some (.cut (at_ Tryz.f15 20) (S15_20 l n m i))) (fun l n m i a b c d w u j=>some (.cut (at_ Tryz.f15 23) (S15_23 l n m i a b c d w u j))) q n i m) (by kernel_rfl) ?_
  exact (gS h (fun _ h=>(gS h (fun _ h=>(gS h (fun _ h=>(gS h (fun _ h=>gR (by cases h;rfl)) (fun _ h=>gC (t15_7 k _ _ _ _ r h)))) gN)) gN)) (fun _ h=>gC (t15_13 k _ _ _ _ r h)))
theorem t15_13:∀ (k:Nat) (q:List Pt) (n:Int) (i:Int) (m:Int) (r:Int),L15_13 k q n i m=some r→Ends Tryz.prog Tryz.f15.results.toList (at_ Tryz.f15 13) (S15_13 q n i m) (F.int .i64 r)
 | 0,_,_,_,_,_,h=>nomatch h
 | k+1,q,n,i,m,r,h=>by
  refine Ends.of_cut tyOK envK2_ok (T:=[(7,[1,3,27,28,29],1000),(13,[1,3,38,39,40],1000),(20,[3,8,54,55,56],1000),(23,[3,8,9,10,54,55,56,63,64,65],1000)]) (n:=200) ?_
  refine gE (Y:=T15_13 (fun r=>some (.ret (F.int .i64 r))) (fun q n i m=>some (.cut (at_ Tryz.f15 7) (S15_7 q n i m))) (fun q n i m=>some (.cut (at_ Tryz.f15 13) (S15_13 q n i m))) (fun l n m i=>some (.cut (at_ Tryz.f15 20) (S15_20 l n m i))) (fun l n m i a b c d w u j=>some (.cut (at_ Tryz.f15 23) (S15_23 l n m i a b c d w u j))) q n i m) (by kernel_rfl) ?_
  exact (gS h (fun _ h=>(gS h (fun _ h=>(gS h (fun _ h=>(gS h (fun _ h=>(gS h (fun _ h=>(gS h (fun _ h=>(gS h (fun _ h=>gR (by cases h;rfl)) (fun _ h=>gC (t15_13 k _ _ _ _ r h)))) gN)) gN)) gN)) gN)) gN)) (fun _ h=>(gS h (fun _ h=>gC (t15_20 k _ _ _ _ r h)) gN)))
theorem t15_20:∀ (k:Nat) (l:List Sg) (n:Int) (m:Int) (i:Int) (r:Int),L15_20 k l n m i=some r→Ends Tryz.prog Tryz.f15.results.toList (at_ Tryz.f15 20) (S15_20 l n m i) (F.int .i64 r)
 | 0,_,_,_,_,_,h=>nomatch h
 | k+1,l,n,m,i,r,h=>by
  refine Ends.of_cut tyOK envK2_ok (T:=[(7,[1,3,27,28,29],1000),(13,[1,3,38,39,40],1000),(20,[3,8,54,55,56],1000),(23,[3,8,9,10,54,55,56,63,64,65],1000)]) (n:=200) ?_
  refine gE (Y:=T15_20 (fun r=>some (.ret (F.int .i64 r))) (fun q n i m=>some (.cut (at_ Tryz.f15 7) (S15_7 q n i m))) (fun q n i m=>some (.cut (at_ Tryz.f15 13) (S15_13 q n i m))) (fun l n m i=>some (.cut (at_ Tryz.f15 20) (S15_20 l n m i))) (fun l n m i a b c d w u j=>some (.cut (at_ Tryz.f15 23) (S15_23 l n m i a b c d w u j))) l n m i) (by kernel_rfl) ?_
  exact (gS h (fun _ h=>(gS h (fun _ h=>(gS h (fun _ h=>(gS h (fun _ h=>(gS h (fun _ h=>gC (t15_23 k _ _ _ _ _ _ _ _ _ _ _ r h)) gN)) gN)) gN)) gN)) (fun _ h=>gR (by cases h;rfl)))
theorem t15_23:∀ (k:Nat) (l:List Sg) (n:Int) (m:Int) (i:Int) (a:Int) (b:Int) (c:Int) (d:Int) (w:Nat) (u:Int) (j:Int) (r:Int),L15_23 k l n m i a b c d w u j=some r→Ends Tryz.prog Tryz.f15.results.toList (at_ Tryz.f15 23) (S15_23 l n m i a b c d w u j) (F.int .i64 r)
 | 0,_,_,_,_,_,_,_,_,_,_,_,_,h=>nomatch h
 | k+1,l,n,m,i,a,b,c,d,w,u,j,r,h=>by
  refine Ends.of_cut tyOK envK2_ok (T:=[(7,[1,3,27,28,29],1000),(13,[1,3,38,39,40],1000),(20,[3,8,54,55,56],1000),(23,[3,8,9,10,54,55,56,63,64,65],1000)]) (n:=200) ?_
  refine gE (Y:=T15_23 (fun r=>some (.ret (F.int .i64 r))) (fun q n i m=>some (.cut (at_ Tryz.f15 7) (S15_7 q n i m))) (fun q n i m=>some (.cut (at_ Tryz.f15 13) (S15_13 q n i m))) (fun l n m i=>some (.cut (at_ Tryz.f15 20) (S15_20 l n m i))) (fun l n m i a b c d w u j=>some (.cut (at_ Tryz.f15 23) (S15_23 l n m i a b c d w u j))) l n m i a b c d w u j) (by kernel_rfl) ?_
  exact (gS h (fun _ h=>(gS h (fun _ h=>(gS h (fun _ h=>(gS h (fun _ h=>(gS h (fun _ h=>(gS h (fun _ h=>(gS h (fun _ h=>(gS h (fun _ h=>(gS h (fun _ h=>gR (by cases h;rfl)) (fun _ h=>gC (t15_23 k _ _ _ _ _ _ _ _ _ _ _ r h)))) (fun _ h=>gC (t15_23 k _ _ _ _ _ _ _ _ _ _ _ r h)))) (fun _ h=>gR (by cases h;rfl)))) (fun _ h=>(gS h (fun _ h=>(gS h (fun _ h=>gR (by cases h;rfl)) (fun _ h=>gC (t15_23 k _ _ _ _ _ _ _ _ _ _ _ r h)))) (fun _ h=>gR (by cases h;rfl)))))) (fun _ h=>(gS h (fun _ h=>(gS h (fun _ h=>gC (t15_23 k _ _ _ _ _ _ _ _ _ _ _ r h)) (fun _ h=>gC (t15_23 k _ _ _ _ _ _ _ _ _ _ _ r h)))) (fun _ h=>gR (by cases h;rfl)))))) gN)) gN)) gN)) (fun _ h=>gC (t15_20 k _ _ _ _ r h)))
end
theorem t15 (k:Nat) (q:List Pt) (r:Int) (h:G15 k q=some r):Ends Tryz.prog Tryz.f15.results.toList [.code (bodyOf Tryz.f15)] (start Tryz.f15.ntmps ([F.agg [ptsF q]].map .f)) (F.int .i64 r):=by
 refine Ends.of_run tyOK envK2_ok (T:=[(7,[1,3,27,28,29],1000),(13,[1,3,38,39,40],1000),(20,[3,8,54,55,56],1000),(23,[3,8,9,10,54,55,56,63,64,65],1000)]) (n:=200) ?_
 refine gE (Y:=T15 (fun r=>some (.ret (F.int .i64 r))) (fun q n i m=>some (.cut (at_ Tryz.f15 7) (S15_7 q n i m))) (fun q n i m=>some (.cut (at_ Tryz.f15 13) (S15_13 q n i m))) (fun l n m i=>some (.cut (at_ Tryz.f15 20) (S15_20 l n m i))) (fun l n m i a b c d w u j=>some (.cut (at_ Tryz.f15 23) (S15_23 l n m i a b c d w u j))) q) (by kernel_rfl) ?_
 exact (gS h (fun _ h=>gR (by cases h;rfl)) (fun _ h=>(gS h (fun _ h=>gR (by cases h;rfl)) (fun _ h=>gC (t15_7 k _ _ _ _ r h)))))
theorem has_take {q:List Pt} {i:Nat} (hi:i≤q.length):hasV (q.take i) (q.getD i .zero).x (q.getD i .zero).y = !allUp (fun j=>!samePt q i j) 0 i:=by
 have hg:∀ {j:Nat} (h:j<q.length),q.getD j .zero=q[j]:=fun h=>by simp [List.getD,List.getElem?_eq_getElem h]
 cases h:allUp (fun j=>!samePt q i j) 0 i with
 | true =>
  rw [Bool.not_true,← Bool.not_eq_true]
  intro hh
  unfold hasV at hh
  obtain ⟨p,hp,e⟩:=List.any_eq_true.1 hh
  obtain ⟨j,hj,rfl⟩:=List.mem_take_iff_getElem.1 hp
  have:=(allUp_iff _ _ _).1 h j (by omega) (by omega)
  have e2:samePt q i j=true:=by
   unfold samePt
   rw [hg (show j<q.length by omega)]
   exact e
  simp only [e2] at this
  cases this
 | false =>
  rw [Bool.not_false]
  refine Classical.byContradiction fun hn=>absurd h ?_
  rw [Bool.not_eq_false,allUp_iff]
  intro j _ hj
  cases hs:samePt q i j with
  | false=>rfl
  | true =>
   refine absurd ?_ hn
   unfold hasV
   rw [List.any_eq_true]
   refine ⟨q[j],List.mem_take_iff_getElem.2 ⟨j,by omega,rfl⟩,?_⟩
   unfold samePt at hs
   rw [hg (show j<q.length by omega)] at hs
   exact hs
theorem if23_loop {q:List Pt} (h:RingIn q) {i:Nat} (hi:i<q.length) {R:Int} {K:Nat} (hout:∀ k,K≤k→L15_20 k (sidesOf q) q.length q.length ((i+1:Nat):Int)=some R) :
  ∀ (d j k:Nat),j+d=i→d+1+K≤k→L15_23 k (sidesOf q) q.length q.length i (sideAt q i).x0 (sideAt q i).y0 (sideAt q i).x1 (sideAt q i).y1 i ((i:Nat):Int) j=some (bif allUp (fun j=>!crossI q i j) j d then R else 5)
 | d,j,0,_,hk=>by omega
 | 0,j,k+1,hj,hk=>by
  have:=h.high
  rw [L15_23]
  unfold T15_23
  rw [decide_eq_false (show ¬ (j:Int)<i by omega),bsel_false,wrapI (by omega) (by omega),show (i:Int)+1=((i+1:Nat):Int) by omega,hout k (by omega)]
  rfl
 | d+1,j,k+1,hj,hk=>by
  have hh:=h.high
  have ih:=if23_loop h hi hout d (j+1) k (by omega) (by omega)
  have wj:IntKind.i64.wrap ((j:Int)+1)=((j+1:Nat):Int):=by rw [wrapI (by omega) (by omega)];omega
  have si:=side_ok h hi
  have sj:=side_ok h (show j<q.length by omega)
  unfold okS at si sj
  obtain ⟨n1,n2,n3⟩:=next_eq h.high hi (show j<i by omega)
  have hc:crossI q i j=badI (kindIV (sideAt q i).x0 (sideAt q i).y0 (sideAt q i).x1 (sideAt q i).y1 (sideAt q j).x0 (sideAt q j).y0 (sideAt q j).x1 (sideAt q j).y1) (decide (j+1=i) || (decide (j=0)&&decide (i+1=q.length))):=rfl
  rw [L15_23]
  unfold T15_23
  simp only [decide_eq_true (show (j:Int)<i by omega),decide_eq_true (show (0:Int)≤j by omega),Int.toNat_natCast,Nat.zero_add,sidesOf_get q (show j<q.length by omega),si,sj,n1,n2,n3,wj,ih,Bool.and_self,bsel_true]
  rw [allUp_cut,hc]
  unfold badI
  cases decide (j+1=i) <;> cases decide (j=0) <;> cases decide (i+1=q.length) <;> cases (kindIV (sideAt q i).x0 (sideAt q i).y0 (sideAt q i).x1 (sideAt q i).y1 (sideAt q j).x0 (sideAt q j).y0 (sideAt q j).x1 (sideAt q j).y1==1) <;> cases (kindIV (sideAt q i).x0 (sideAt q i).y0 (sideAt q i).x1 (sideAt q i).y1 (sideAt q j).x0 (sideAt q j).y0 (sideAt q j).x1 (sideAt q j).y1==2) <;> rfl
theorem if20_loop {q:List Pt} (h:RingIn q):∀ (d i k:Nat),i+d=q.length→15*d+1≤k→L15_20 k (sidesOf q) q.length q.length i=some (bif triFree (crossI q) i d then 0 else 5)
 | d,i,0,_,hk=>by omega
 | 0,i,k+1,hi,hk=>by
  rw [L15_20]
  unfold T15_20
  rw [decide_eq_false (show ¬ (i:Int)<q.length by omega)]
  rfl
 | d+1,i,k+1,hi,hk=>by
  have:=h.high
  have ih:=if23_loop h (i:=i) (by omega) (K:=15*d+1) (fun k hk=>if20_loop h d (i+1) k (by omega) hk) i 0 k (by omega) (by omega)
  rw [L15_20]
  unfold T15_20
  simp only [sidesOf_len,decide_eq_true (show (i:Int)<q.length by omega),decide_eq_true (show (0:Int)≤i by omega),decide_eq_true (show (i:Int)≤q.length by omega),Int.toNat_natCast,Int.toNat_zero,Nat.sub_zero,sidesOf_get q (show i<q.length by omega),bsel_true]
  refine ih.trans ?_
  unfold triFree
  rw [allUp_cut]
  cases allUp (fun j=>!crossI q i j) 0 i <;> rfl
theorem if13_loop {q:List Pt} (hn:q.length≤12) {R:Int} {K:Nat} (hout:triFree (samePt q) 0 q.length=true→∀ k,K≤k→L15_20 k (sidesOf q) q.length q.length 0=some R) :
  ∀ (d i k:Nat),i+d=q.length→d+1+K≤k→(triFree (samePt q) i d=true→triFree (samePt q) 0 q.length=true)→L15_13 k q q.length i q.length=some (bif triFree (samePt q) i d then R else 4)
 | d,i,0,_,hk,_=>by omega
 | 0,i,k+1,hi,hk,he=>by
  rw [L15_13]
  unfold T15_13
  simp only [decide_eq_false (show ¬ (i:Int)<q.length by omega),bsel_false,unRing_agg,isRing_agg,isShort,decide_eq_true (show q.length≤1000 by omega),Bool.and_self,bsel_true,sidesOf_len]
  rw [hout (he rfl) k (by omega)]
  rfl
 | d+1,i,k+1,hi,hk,he=>by
  have cut:triFree (samePt q) i (d+1)=(allUp (fun j=>!samePt q i j) 0 i&&triFree (samePt q) (i+1) d):=rfl
  have wi:IntKind.i64.wrap ((i:Int)+1)=((i+1:Nat):Int):=by rw [wrapI (by omega) (by omega)];omega
  obtain ⟨u1,u2⟩:=unPts_take q i (by omega)
  have hlen:isShort (q.take i)=true:=decide_eq_true (by rw [List.length_take];omega)
  rw [L15_13]
  unfold T15_13
  simp only [decide_eq_true (show (i:Int)<q.length by omega),decide_eq_true (show (0:Int)≤i by omega),decide_eq_true (show (i:Int)≤q.length by omega),Int.toNat_natCast,Int.toNat_zero,Nat.sub_zero,Nat.zero_add,u1,u2,hlen,wi,has_take (show i≤q.length by omega),Bool.and_self,bsel_true]
  rw [cut] at he ⊢
  cases hc:allUp (fun j=>!samePt q i j) 0 i with
  | false=>rfl
  | true =>
   rw [Bool.not_true,bsel_false,if13_loop hn hout d (i+1) k (by omega) (by omega) fun ht=>he (by rw [hc,ht];rfl)]
   rfl
theorem if7_loop {q:List Pt} (hn:q.length≤12) {R:Int} {K:Nat} (hout:(q.all fun p=>spotOkV p.x p.y)=true→∀ k,K≤k→L15_13 k q q.length 0 q.length=some R) :
  ∀ (d i k:Nat),i+d=q.length→d+1+K≤k→((q.drop i).all (fun p=>spotOkV p.x p.y)=true→(q.all fun p=>spotOkV p.x p.y)=true)→L15_7 k q q.length i q.length=some (bif (q.drop i).all fun p=>spotOkV p.x p.y then R else 3)
 | d,i,0,_,hk,_=>by omega
 | 0,i,k+1,hi,hk,he=>by
  rw [List.drop_eq_nil_of_le (by omega)] at he ⊢
  rw [L15_7]
  unfold T15_7
  rw [decide_eq_false (show ¬ (i:Int)<q.length by omega),bsel_false,hout (he rfl) k (by omega)]
  rfl
 | d+1,i,k+1,hi,hk,he=>by
  have hlt:i<q.length:=by omega
  have hg:q.getD i Pt.zero=q[i]:=by simp [List.getD,List.getElem?_eq_getElem hlt]
  rw [List.drop_eq_getElem_cons hlt,List.all_cons] at he ⊢
  rw [L15_7]
  unfold T15_7
  rw [decide_eq_true (show (i:Int)<q.length by omega),decide_eq_true (show (0:Int)≤i by omega),Int.toNat_natCast,hg,wrapI (by omega) (by omega),show (i:Int)+1=((i+1:Nat):Int) by omega]
  simp only [bsel_true]
  cases ho:spotOkV q[i].x q[i].y with
  | false=>rfl
  | true =>
   rw [Bool.not_true,bsel_false,if7_loop hn hout d (i+1) k (by omega) (by omega) fun ht=>he (by rw [ho,ht];rfl)]
   rfl
theorem faultI_law (q:List Pt):G15 600 q=some (faultIV q):=by
 unfold G15 T15 faultIV faultBy
 by_cases h1:q.length<3
 ·rw [decide_eq_true (show (q.length:Int)<3 by omega),decide_eq_true h1];rfl
 ·by_cases h2:q.length > 12
  ·rw [decide_eq_false (show ¬ (q.length:Int)<3 by omega),decide_eq_false h1,decide_eq_true (show (q.length:Int) > 12 by omega),decide_eq_true h2];rfl
  ·rw [decide_eq_false (show ¬ (q.length:Int)<3 by omega),decide_eq_false h1,decide_eq_false (show ¬ (q.length:Int) > 12 by omega),decide_eq_false h2]
   have:=if7_loop (q:=q) (by omega) (R:=bif triFree (samePt q) 0 q.length then (bif triFree (crossI q) 0 q.length then 0 else 5) else 4) (K:=400) (fun h3 k hk=>if13_loop (by omega) (R:=bif triFree (crossI q) 0 q.length then 0 else 5) (K:=190) (fun h4 k hk=>if20_loop (ringIn_of h1 h2 h3 h4) q.length 0 k (by omega) (by omega)) q.length 0 k (by omega) (by omega) id) q.length 0 600 (by omega) (by omega) id
   refine this.trans ?_
   rw [List.drop_zero]
   cases (q.all fun p=>spotOkV p.x p.y) <;> cases triFree (samePt q) 0 q.length <;> cases triFree (crossI q) 0 q.length <;> rfl
/-! Both tell the same. -/
theorem on_ends {s:Sg} (h:riseS s):onS s ⟨s.x0,s.y0⟩∧onS s ⟨s.x1,s.y1⟩:=by
 unfold riseS lexLt at h
 unfold onS onSg crossZ lexLe
 dsimp only
 refine ⟨⟨by simp,by omega,by omega⟩,⟨?_,by omega,by omega⟩⟩
 show (s.x1-s.x0)*(s.y1-s.y0)-(s.y1-s.y0)*(s.x1-s.x0)=0
 rw [Int.mul_comm]
 omega
theorem leg_onR {a b:Pt} (h:a ≠ b):onS (legOf a b) b∧onS (legOf a b) a:=by
 have:=on_ends (leg_rise h)
 rcases leg_cases a b h with ⟨h1,h2⟩ | ⟨h1,h2⟩ <;> rw [h2] at this ⊢
 ·exact ⟨this.2,this.1⟩
 ·exact ⟨this.1,this.2⟩
theorem next_meet {q:List Pt} (h:RingIn q) {i j:Nat} (hi:i<q.length) (hj:j<i) (hn:sideNx q.length i j=true):meetS (sideAt q i) (sideAt q j):=by
 have hl:=h.low
 obtain ⟨e1,e2⟩:=next_ne hi hl
 obtain ⟨f1,f2⟩:=next_ne (show j<q.length by omega) hl
 have ni:=unlike_ne h hi e2 (fun e=>e1 e.symm)
 have nj:=unlike_ne h (show j<q.length by omega) f2 (fun e=>f1 e.symm)
 unfold sideNx at hn
 simp only [Bool.or_eq_true,Bool.and_eq_true,decide_eq_true_eq] at hn
 rcases hn with hn | ⟨hn,hm⟩
 ·-- the end of j is the beginning of i
  have ej:(j+1) % q.length=i:=by rw [hn,Nat.mod_eq_of_lt hi]
  refine (meetS_comm (leg_rise nj) (leg_rise ni)).1 (leg_on ni (leg_rise nj) ?_)
  rw [ej]
  rw [ej] at nj
  exact (leg_onR nj).1
 ·-- the end of i is the beginning of j
  have ei:(i+1) % q.length=j:=by rw [hm,Nat.mod_self,hn]
  refine leg_on nj (leg_rise ni) ?_
  unfold sideAt
  rw [ei]
  rw [ei] at ni
  exact (leg_onR ni).1
theorem cross_same {q:List Pt} (h:RingIn q) {i j:Nat} (hi:i<q.length) (hj:j<i):crossI q i j=cross3 q i j:=by
 have si:=side_ok h hi
 have sj:=side_ok h (show j<q.length by omega)
 have hr:=k3_range si sj
 unfold crossI cross3
 rw [kI_3 si sj]
 unfold badI bad3
 cases hn:sideNx q.length i j with
 | false =>
  rcases hr with e | e | e <;> rw [e] <;> rfl
 | true =>
  have hm:k3 (sideAt q i) (sideAt q j) ≠ 0:=(kind3_ok si sj).2.1.2 (next_meet h hi hj hn)
  rcases hr with e | e | e
  ·exact absurd e hm
  ·rw [e];rfl
  ·rw [e];rfl
theorem fault_same (q:List Pt):faultIV q=fault3V q:=by
 unfold faultIV fault3V faultBy
 by_cases h1:q.length<3
 ·rw [decide_eq_true h1];rfl
 ·by_cases h2:q.length > 12
  ·rw [decide_eq_false h1,decide_eq_true h2];rfl
  ·rw [decide_eq_false h1,decide_eq_false h2]
   cases h3:(q.all fun p=>spotOkV p.x p.y) with
   | false=>rfl
   | true =>
    cases h4:triFree (samePt q) 0 q.length with
    | false=>rfl
    | true =>
     have h:=ringIn_of h1 h2 h3 h4
     have e:triFree (crossI q) 0 q.length=triFree (cross3 q) 0 q.length:=by
      rw [Bool.eq_iff_iff,tri_iff,tri_iff]
      exact forall_congr' fun i=>forall_congr' fun hi=>forall_congr' fun j=>forall_congr' fun hj=>by rw [cross_same h hi hj]
     rw [e]
def resFaultI:List F→F | [x]=>.int .i64 (fault3V (unRing x)) | _=>.dflt
theorem okFaultI:PureOK Tryz.prog 15 preRg resFaultI :=
 fn_pure_at (c:=bodyOf Tryz.f15) Tryz.func15 (by kernel_rfl) (by kernel_rfl) fun xs hp=>match xs,hp with
 | [x],hp=>⟨[ringF (unRing x)],_,⟨(ring_eqv hp).1,trivial⟩,t15 600 _ _ (faultI_law _),by
   show FLe (.int .i64 (faultIV (unRing x))) (.int .i64 (fault3V (unRing x)))
   rw [fault_same]
   exact .refl _⟩
def envK3:Env:=envK2.add 15 (.pure preRg resFaultI)
theorem envK3_ok:EnvOK Tryz.prog envK3:=(Env.add_ok envK2_ok okFaultI.sp)
end
noncomputable section
set_option maxHeartbeats 1000000
def rightV (q:List Pt):Bool:=fault3V q==0
theorem right_in {q:List Pt} (h:rightV q=true):RingIn q:=by
 unfold rightV fault3V faultBy at h
 by_cases h1:q.length<3
 ·rw [decide_eq_true h1] at h;cases h
 ·by_cases h2:q.length > 12
  ·rw [decide_eq_false h1,decide_eq_true h2] at h;cases h
  ·rw [decide_eq_false h1,decide_eq_false h2] at h
   cases h3:(q.all fun p=>spotOkV p.x p.y) with
   | false=>rw [h3] at h;cases h
   | true =>
    cases h4:triFree (samePt q) 0 q.length with
    | false=>rw [h3,h4] at h;cases h
    | true=>exact ringIn_of h1 h2 h3 h4
def ringHit (q p:List Pt) (i j:Nat):Bool:=k3 (sideAt q i) (sideAt p j) != 0
def ringsV (q p:List Pt):Bool:=!rowFree (ringHit q p) p.length q.length
/-! ### function 20 -/
def S20_2 (q:List Pt) (p:List Pt) (i:Int):St:=⟨bads 2 ((U.hp 0 0) :: (U.hp 1 0) :: bads 1 ((U.f (F.int .i64 i)) :: bads 31 [])),[HO.box [(U.f (ptsF q))],HO.box [(U.f (ptsF p))]]⟩
def S20_5 (q:List Pt) (p:List Pt) (i:Int) (j:Int):St:=⟨bads 2 ((U.hp 0 0) :: (U.hp 1 0) :: bads 1 ((U.f (F.int .i64 i)) :: (U.f (F.int .i64 j)) :: bads 30 [])),[HO.box [(U.f (ptsF q))],HO.box [(U.f (ptsF p))]]⟩
abbrev KJ87 (ρ:Type):=(Bool)→Option ρ
abbrev KJ811 (ρ:Type):=(List Pt)→(List Pt)→(Int)→(Int)→Option ρ
def T20_2 {ρ:Type} (ret:KJ87 ρ) (c2:(List Pt)→(List Pt)→(Int)→Option ρ) (c5:KJ811 ρ) (q:List Pt) (p:List Pt) (i:Int):Option ρ :=
 (bsel (decide (i<(↑q.length:Int)))
 (c5 (q) (p) (i) (0))
 (ret (false)))
def T20_5 {ρ:Type} (ret:KJ87 ρ) (c2:(List Pt)→(List Pt)→(Int)→Option ρ) (c5:KJ811 ρ) (q:List Pt) (p:List Pt) (i:Int) (j:Int):Option ρ :=
 (bsel (decide (j<(↑p.length:Int)))
 (bsel (isRing (F.agg [ptsF q])&&isAt (unRing (F.agg [ptsF q])) i)
 (bsel (isRing (F.agg [ptsF p])&&isAt (unRing (F.agg [ptsF p])) j)
 (bsel (segOkV (sideAt (unRing (F.agg [ptsF q])) i.toNat).x0 (sideAt (unRing (F.agg [ptsF q])) i.toNat).y0 (sideAt (unRing (F.agg [ptsF q])) i.toNat).x1 (sideAt (unRing (F.agg [ptsF q])) i.toNat).y1&&segOkV (sideAt (unRing (F.agg [ptsF p])) j.toNat).x0 (sideAt (unRing (F.agg [ptsF p])) j.toNat).y0 (sideAt (unRing (F.agg [ptsF p])) j.toNat).x1 (sideAt (unRing (F.agg [ptsF p])) j.toNat).y1)
 (bsel (kind3V (sideAt (unRing (F.agg [ptsF q])) i.toNat).x0 (sideAt (unRing (F.agg [ptsF q])) i.toNat).y0 (sideAt (unRing (F.agg [ptsF q])) i.toNat).x1 (sideAt (unRing (F.agg [ptsF q])) i.toNat).y1 (sideAt (unRing (F.agg [ptsF p])) j.toNat).x0 (sideAt (unRing (F.agg [ptsF p])) j.toNat).y0 (sideAt (unRing (F.agg [ptsF p])) j.toNat).x1 (sideAt (unRing (F.agg [ptsF p])) j.toNat).y1 != 0)
 (ret (true))
 (c5 (q) (p) (i) (IntKind.i64.wrap (j+1))))
 none)
 none)
 none)
 (c2 (q) (p) (IntKind.i64.wrap (i+1))))
mutual
def L20_2:Nat→(List Pt)→(List Pt)→(Int)→Option (Bool)
 | 0,_,_,_=>none
 | k+1,q,p,i=>T20_2 some (L20_2 k) (L20_5 k) q p i
def L20_5:Nat→(List Pt)→(List Pt)→(Int)→(Int)→Option (Bool)
 | 0,_,_,_,_=>none
 | k+1,q,p,i,j=>T20_5 some (L20_2 k) (L20_5 k) q p i j
end
def T20 {ρ:Type} (ret:KJ87 ρ) (c2:(List Pt)→(List Pt)→(Int)→Option ρ) (c5:KJ811 ρ) (q:List Pt) (p:List Pt):Option ρ :=
 (c2 (q) (p) (0))
def G20 (k:Nat) (q:List Pt) (p:List Pt):Option (Bool):=T20 some (L20_2 k) (L20_5 k) q p
mutual
theorem t20_2:∀ (k:Nat) (q:List Pt) (p:List Pt) (i:Int) (res:Bool),L20_2 k q p i=some res→Ends Tryz.prog Tryz.f20.results.toList (at_ Tryz.f20 2) (S20_2 q p i) (F.bool res)
 | 0,_,_,_,_,h=>nomatch h
 | k+1,q,p,i,res,h=>by
  refine Ends.of_cut tyOK envK3_ok (T:=[(2,[2,3,5],1000),(5,[2,3,5,6],1000)]) (n:=200) ?_
  refine gE (Y:=T20_2 (fun res=>some (.ret (F.bool res))) (fun q p i=>some (.cut (at_ Tryz.f20 2) (S20_2 q p i))) (fun q p i j=>some (.cut (at_ Tryz.f20 5) (S20_5 q p i j))) q p i) (by kernel_rfl) ?_
  exact (gS h (fun _ h=>gC (t20_5 k _ _ _ _ res h)) (fun _ h=>gR (by cases h;rfl)))
theorem t20_5:∀ (k:Nat) (q:List Pt) (p:List Pt) (i:Int) (j:Int) (res:Bool),L20_5 k q p i j=some res→Ends Tryz.prog Tryz.f20.results.toList (at_ Tryz.f20 5) (S20_5 q p i j) (F.bool res)
 | 0,_,_,_,_,_,h=>nomatch h
 | k+1,q,p,i,j,res,h=>by
  refine Ends.of_cut tyOK envK3_ok (T:=[(2,[2,3,5],1000),(5,[2,3,5,6],1000)]) (n:=200) ?_
  refine gE (Y:=T20_5 (fun res=>some (.ret (F.bool res))) (fun q p i=>some (.cut (at_ Tryz.f20 2) (S20_2 q p i))) (fun q p i j=>some (.cut (at_ Tryz.f20 5) (S20_5 q p i j))) q p i j) (by kernel_rfl) ?_
  exact (gS h (fun _ h=>(gS h (fun _ h=>(gS h (fun _ h=>(gS h (fun _ h=>(gS h (fun _ h=>gR (by cases h;rfl)) (fun _ h=>gC (t20_5 k _ _ _ _ res h)))) gN)) gN)) gN)) (fun _ h=>gC (t20_2 k _ _ _ res h)))
end
theorem t20 (k:Nat) (q:List Pt) (p:List Pt) (res:Bool) (h:G20 k q p=some res):Ends Tryz.prog Tryz.f20.results.toList [.code (bodyOf Tryz.f20)] (start Tryz.f20.ntmps ([F.agg [ptsF q],F.agg [ptsF p]].map .f)) (F.bool res):=by
 refine Ends.of_run tyOK envK3_ok (T:=[(2,[2,3,5],1000),(5,[2,3,5,6],1000)]) (n:=200) ?_
 refine gE (Y:=T20 (fun res=>some (.ret (F.bool res))) (fun q p i=>some (.cut (at_ Tryz.f20 2) (S20_2 q p i))) (fun q p i j=>some (.cut (at_ Tryz.f20 5) (S20_5 q p i j))) q p) (by kernel_rfl) ?_
 exact gC (t20_2 k _ _ _ res h)
theorem rm5_loop {q p:List Pt} (hq:RingIn q) (hp:RingIn p) {i:Nat} (hi:i<q.length) {R:Bool} {K:Nat} (hout:∀ k,K≤k→L20_2 k q p ((i+1:Nat):Int)=some R) :
  ∀ (d j k:Nat),j+d=p.length→d+1+K≤k→L20_5 k q p i j=some (bif allUp (fun j=>!ringHit q p i j) j d then R else true)
 | d,j,0,_,hk=>by omega
 | 0,j,k+1,hj,hk=>by
  have:=hq.high
  rw [L20_5]
  unfold T20_5
  rw [decide_eq_false (show ¬ (j:Int)<p.length by omega),bsel_false,wrapI (by omega) (by omega),show (i:Int)+1=((i+1:Nat):Int) by omega,hout k (by omega)]
  rfl
 | d+1,j,k+1,hj,hk=>by
  have h1:=hq.high
  have h2:=hp.high
  have ih:=rm5_loop hq hp hi hout d (j+1) k (by omega) (by omega)
  have wj:IntKind.i64.wrap ((j:Int)+1)=((j+1:Nat):Int):=by rw [wrapI (by omega) (by omega)];omega
  have si:=side_ok hq hi
  have sj:=side_ok hp (show j<p.length by omega)
  unfold okS at si sj
  have hc:ringHit q p i j=(kind3V (sideAt q i).x0 (sideAt q i).y0 (sideAt q i).x1 (sideAt q i).y1 (sideAt p j).x0 (sideAt p j).y0 (sideAt p j).x1 (sideAt p j).y1 != 0):=rfl
  rw [L20_5]
  unfold T20_5
  simp only [decide_eq_true (show (j:Int)<p.length by omega),unRing_agg,isRing_agg,isAt_iff.2 ⟨⟨show (0:Int)≤i by omega,show (i:Int)<q.length by omega⟩,show q.length≤1000 by omega⟩,isAt_iff.2 ⟨⟨show (0:Int)≤j by omega,show (j:Int)<p.length by omega⟩,show p.length≤1000 by omega⟩,Int.toNat_natCast,si,sj,wj,ih,Bool.and_self,bsel_true]
  rw [allUp_cut,hc]
  cases (kind3V (sideAt q i).x0 (sideAt q i).y0 (sideAt q i).x1 (sideAt q i).y1 (sideAt p j).x0 (sideAt p j).y0 (sideAt p j).x1 (sideAt p j).y1 != 0) <;> rfl
theorem rm2_loop {q p:List Pt} (hq:RingIn q) (hp:RingIn p):∀ (d i k:Nat),i+d=q.length→15*d+1≤k→L20_2 k q p i=some (!allUp (fun i=>allUp (fun j=>!ringHit q p i j) 0 p.length) i d)
 | d,i,0,_,hk=>by omega
 | 0,i,k+1,hi,hk=>by
  rw [L20_2]
  unfold T20_2
  rw [decide_eq_false (show ¬ (i:Int)<q.length by omega)]
  rfl
 | d+1,i,k+1,hi,hk=>by
  have:=hp.high
  have ih:=rm5_loop hq hp (i:=i) (by omega) (K:=15*d+1) (fun k hk=>rm2_loop hq hp d (i+1) k (by omega) hk) p.length 0 k (by omega) (by omega)
  rw [L20_2]
  unfold T20_2
  rw [decide_eq_true (show (i:Int)<q.length by omega),bsel_true]
  refine ih.trans ?_
  rw [allUp_cut]
  cases allUp (fun j=>!ringHit q p i j) 0 p.length <;> rfl
def preRings:List F→Bool | [x,y]=>isRing x&&isRing y&&(rightV (unRing x)&&rightV (unRing y)) | _=>false
def resRings:List F→F | [x,y]=>.bool (ringsV (unRing x) (unRing y)) | _=>.dflt
theorem okRings3:PureOK Tryz.prog 20 preRings resRings :=
 fn_pure_at (c:=bodyOf Tryz.f20) Tryz.func20 (by kernel_rfl) (by kernel_rfl) fun xs hp=>match xs,hp with
 | [x,y],hp=>by
  simp only [preRings,Bool.and_eq_true] at hp
  have hx:=right_in hp.2.1
  have:=hx.high
  exact ⟨[ringF (unRing x),ringF (unRing y)],_,⟨(ring_eqv hp.1.1).1,(ring_eqv hp.1.2).1,trivial⟩,t20 400 _ _ _ (rm2_loop hx (right_in hp.2.2) (unRing x).length 0 400 (by omega) (by omega)),.refl _⟩
/-! ### function 18 -/
def S18_2 (p:List Pt) (l:List Sg) (n:Int) (i:Int):St:=⟨bads 3 ((U.hp 0 0) :: bads 9 ((U.f (segsF l)) :: (U.f (F.int .i64 n)) :: (U.f (F.int .i64 i)) :: bads 21 [])),[HO.box [(U.f (ptsF p))]]⟩
def S18_5 (p:List Pt) (l:List Sg) (n:Int) (i:Int) (a:Int) (b:Int) (c:Int) (d:Int) (m:List Sg) (u:Int) (j:Int):St:=⟨bads 3 ((U.hp 0 0) :: bads 2 ((U.hp 1 0) :: bads 6 ((U.f (segsF l)) :: (U.f (F.int .i64 n)) :: (U.f (F.int .i64 i)) :: bads 4 ((U.f (segsF m)) :: (U.f (F.int .i64 u)) :: (U.f (F.int .i64 j)) :: bads 14 [])))),[HO.box [(U.f (ptsF p))],HO.box [(U.f (F.int .i64 a)),(U.f (F.int .i64 b)),(U.f (F.int .i64 c)),(U.f (F.int .i64 d))]]⟩
abbrev KJ85 (ρ:Type):=(List Pt)→(List Sg)→(Int)→(Int)→(Int)→(Int)→(Int)→(Int)→(List Sg)→(Int)→(Int)→Option ρ
abbrev KJ812 (ρ:Type):=(List Pt)→(List Sg)→(Int)→(Int)→Option ρ
def T18_2 {ρ:Type} (ret:KJ87 ρ) (c2:KJ812 ρ) (c5:KJ85 ρ) (p:List Pt) (l:List Sg) (n:Int) (i:Int):Option ρ :=
 (bsel (decide (i<n))
 (bsel (decide (0≤i))
 (bsel (decide (i<(↑l.length:Int)))
 (bsel (isRing (F.agg [ptsF p])&&isShort (unRing (F.agg [ptsF p])))
 (c5 (p) (l) (n) (i) ((l.getD i.toNat Sg.zero).x0) ((l.getD i.toNat Sg.zero).y0) ((l.getD i.toNat Sg.zero).x1) ((l.getD i.toNat Sg.zero).y1) (sidesOf (unRing (F.agg [ptsF p]))) ((↑(sidesOf (unRing (F.agg [ptsF p]))).length:Int)) (0))
 none)
 none)
 none)
 (ret (false)))
def T18_5 {ρ:Type} (ret:KJ87 ρ) (c2:KJ812 ρ) (c5:KJ85 ρ) (p:List Pt) (l:List Sg) (n:Int) (i:Int) (a:Int) (b:Int) (c:Int) (d:Int) (m:List Sg) (u:Int) (j:Int):Option ρ :=
 (bsel (decide (j<u))
 (bsel (decide (0≤j))
 (bsel (decide (j<(↑m.length:Int)))
 (bsel (segOkV a b c d&&segOkV (m.getD j.toNat Sg.zero).x0 (m.getD j.toNat Sg.zero).y0 (m.getD j.toNat Sg.zero).x1 (m.getD j.toNat Sg.zero).y1)
 (bsel (kindIV a b c d (m.getD j.toNat Sg.zero).x0 (m.getD j.toNat Sg.zero).y0 (m.getD j.toNat Sg.zero).x1 (m.getD j.toNat Sg.zero).y1 != 0)
 (ret (true))
 (c5 (p) (l) (n) (i) (a) (b) (c) (d) (m) (u) (IntKind.i64.wrap (j+1))))
 none)
 none)
 none)
 (c2 (p) (l) (n) (IntKind.i64.wrap (i+1))))
mutual
def L18_2:Nat→(List Pt)→(List Sg)→(Int)→(Int)→Option (Bool)
 | 0,_,_,_,_=>none
 | k+1,p,l,n,i=>T18_2 some (L18_2 k) (L18_5 k) p l n i
def L18_5:Nat→(List Pt)→(List Sg)→(Int)→(Int)→(Int)→(Int)→(Int)→(Int)→(List Sg)→(Int)→(Int)→Option (Bool)
 | 0,_,_,_,_,_,_,_,_,_,_,_=>none
 | k+1,p,l,n,i,a,b,c,d,m,u,j=>T18_5 some (L18_2 k) (L18_5 k) p l n i a b c d m u j
end
def T18 {ρ:Type} (ret:KJ87 ρ) (c2:KJ812 ρ) (c5:KJ85 ρ) (q:List Pt) (p:List Pt):Option ρ :=
 (bsel (isRing (F.agg [ptsF q])&&isShort (unRing (F.agg [ptsF q])))
 (c2 (p) (sidesOf (unRing (F.agg [ptsF q]))) ((↑(sidesOf (unRing (F.agg [ptsF q]))).length:Int)) (0))
 none)
def G18 (k:Nat) (q:List Pt) (p:List Pt):Option (Bool):=T18 some (L18_2 k) (L18_5 k) q p
mutual
theorem t18_2:∀ (k:Nat) (p:List Pt) (l:List Sg) (n:Int) (i:Int) (res:Bool),L18_2 k p l n i=some res→Ends Tryz.prog Tryz.f18.results.toList (at_ Tryz.f18 2) (S18_2 p l n i) (F.bool res)
 | 0,_,_,_,_,_,h=>nomatch h
 | k+1,p,l,n,i,res,h=>by
  refine Ends.of_cut tyOK envK3_ok (T:=[(2,[3,13,14,15],1000),(5,[3,6,13,14,15,20,21,22],1000)]) (n:=200) ?_
  refine gE (Y:=T18_2 (fun res=>some (.ret (F.bool res))) (fun p l n i=>some (.cut (at_ Tryz.f18 2) (S18_2 p l n i))) (fun p l n i a b c d m u j=>some (.cut (at_ Tryz.f18 5) (S18_5 p l n i a b c d m u j))) p l n i) (by kernel_rfl) ?_
  exact (gS h (fun _ h=>(gS h (fun _ h=>(gS h (fun _ h=>(gS h (fun _ h=>gC (t18_5 k _ _ _ _ _ _ _ _ _ _ _ res h)) gN)) gN)) gN)) (fun _ h=>gR (by cases h;rfl)))
theorem t18_5:∀ (k:Nat) (p:List Pt) (l:List Sg) (n:Int) (i:Int) (a:Int) (b:Int) (c:Int) (d:Int) (m:List Sg) (u:Int) (j:Int) (res:Bool),L18_5 k p l n i a b c d m u j=some res→Ends Tryz.prog Tryz.f18.results.toList (at_ Tryz.f18 5) (S18_5 p l n i a b c d m u j) (F.bool res)
 | 0,_,_,_,_,_,_,_,_,_,_,_,_,h=>nomatch h
 | k+1,p,l,n,i,a,b,c,d,m,u,j,res,h=>by
  refine Ends.of_cut tyOK envK3_ok (T:=[(2,[3,13,14,15],1000),(5,[3,6,13,14,15,20,21,22],1000)]) (n:=200) ?_
  refine gE (Y:=T18_5 (fun res=>some (.ret (F.bool res))) (fun p l n i=>some (.cut (at_ Tryz.f18 2) (S18_2 p l n i))) (fun p l n i a b c d m u j=>some (.cut (at_ Tryz.f18 5) (S18_5 p l n i a b c d m u j))) p l n i a b c d m u j) (by kernel_rfl) ?_
  exact (gS h (fun _ h=>(gS h (fun _ h=>(gS h (fun _ h=>(gS h (fun _ h=>(gS h (fun _ h=>gR (by cases h;rfl)) (fun _ h=>gC (t18_5 k _ _ _ _ _ _ _ _ _ _ _ res h)))) gN)) gN)) gN)) (fun _ h=>gC (t18_2 k _ _ _ _ res h)))
end
theorem t18 (k:Nat) (q:List Pt) (p:List Pt) (res:Bool) (h:G18 k q p=some res):Ends Tryz.prog Tryz.f18.results.toList [.code (bodyOf Tryz.f18)] (start Tryz.f18.ntmps ([F.agg [ptsF q],F.agg [ptsF p]].map .f)) (F.bool res):=by
 refine Ends.of_run tyOK envK3_ok (T:=[(2,[3,13,14,15],1000),(5,[3,6,13,14,15,20,21,22],1000)]) (n:=200) ?_
 refine gE (Y:=T18 (fun res=>some (.ret (F.bool res))) (fun p l n i=>some (.cut (at_ Tryz.f18 2) (S18_2 p l n i))) (fun p l n i a b c d m u j=>some (.cut (at_ Tryz.f18 5) (S18_5 p l n i a b c d m u j))) q p) (by kernel_rfl) ?_
 exact (gS h (fun _ h=>gC (t18_2 k _ _ _ _ res h)) gN)
theorem im5_loop {q p:List Pt} (hq:RingIn q) (hp:RingIn p) {i:Nat} (hi:i<q.length) {R:Bool} {K:Nat} (hout:∀ k,K≤k→L18_2 k p (sidesOf q) q.length ((i+1:Nat):Int)=some R) :
  ∀ (d j k:Nat),j+d=p.length→d+1+K≤k→L18_5 k p (sidesOf q) q.length i (sideAt q i).x0 (sideAt q i).y0 (sideAt q i).x1 (sideAt q i).y1 (sidesOf p) p.length j=some (bif allUp (fun j=>!ringHit q p i j) j d then R else true)
 | d,j,0,_,hk=>by omega
 | 0,j,k+1,hj,hk=>by
  have:=hq.high
  rw [L18_5]
  unfold T18_5
  rw [decide_eq_false (show ¬ (j:Int)<p.length by omega),bsel_false,wrapI (by omega) (by omega),show (i:Int)+1=((i+1:Nat):Int) by omega,hout k (by omega)]
  rfl
 | d+1,j,k+1,hj,hk=>by
  have h1:=hq.high
  have h2:=hp.high
  have ih:=im5_loop hq hp hi hout d (j+1) k (by omega) (by omega)
  have wj:IntKind.i64.wrap ((j:Int)+1)=((j+1:Nat):Int):=by rw [wrapI (by omega) (by omega)];omega
  have hj':j<p.length:=by omega
  have si:=side_ok hq hi
  have sj:=side_ok hp hj'
  have hc:ringHit q p i j=(kindIV (sideAt q i).x0 (sideAt q i).y0 (sideAt q i).x1 (sideAt q i).y1 (sideAt p j).x0 (sideAt p j).y0 (sideAt p j).x1 (sideAt p j).y1 != 0):=by
   unfold ringHit
   rw [← kI_3 si sj]
   rfl
  unfold okS at si sj
  rw [L18_5]
  unfold T18_5
  simp only [decide_eq_true (show (j:Int)<p.length by omega),decide_eq_true (show (0:Int)≤j by omega),sidesOf_len,Int.toNat_natCast,sidesOf_get p hj',si,sj,wj,ih,Bool.and_self,bsel_true]
  rw [allUp_cut,hc]
  cases (kindIV (sideAt q i).x0 (sideAt q i).y0 (sideAt q i).x1 (sideAt q i).y1 (sideAt p j).x0 (sideAt p j).y0 (sideAt p j).x1 (sideAt p j).y1 != 0) <;> rfl
theorem im2_loop {q p:List Pt} (hq:RingIn q) (hp:RingIn p):∀ (d i k:Nat),i+d=q.length→15*d+1≤k→L18_2 k p (sidesOf q) q.length i=some (!allUp (fun i=>allUp (fun j=>!ringHit q p i j) 0 p.length) i d)
 | d,i,0,_,hk=>by omega
 | 0,i,k+1,hi,hk=>by
  rw [L18_2]
  unfold T18_2
  rw [decide_eq_false (show ¬ (i:Int)<q.length by omega)]
  rfl
 | d+1,i,k+1,hi,hk=>by
  have h1:=hp.high
  have h2:=hq.high
  have ih:=im5_loop hq hp (i:=i) (by omega) (K:=15*d+1) (fun k hk=>im2_loop hq hp d (i+1) k (by omega) hk) p.length 0 k (by omega) (by omega)
  rw [L18_2]
  unfold T18_2
  simp only [decide_eq_true (show (i:Int)<q.length by omega),decide_eq_true (show (0:Int)≤i by omega),sidesOf_len,unRing_agg,isRing_agg,isShort,decide_eq_true (show p.length≤1000 by omega),Int.toNat_natCast,sidesOf_get q (show i<q.length by omega),Bool.and_self,bsel_true]
  refine ih.trans ?_
  rw [allUp_cut]
  cases allUp (fun j=>!ringHit q p i j) 0 p.length <;> rfl
theorem okRingsI:PureOK Tryz.prog 18 preRings resRings :=
 fn_pure_at (c:=bodyOf Tryz.f18) Tryz.func18 (by kernel_rfl) (by kernel_rfl) fun xs hp=>match xs,hp with
 | [x,y],hp=>by
  simp only [preRings,Bool.and_eq_true] at hp
  have hx:=right_in hp.2.1
  have hh:=hx.high
  exact ⟨[ringF (unRing x),ringF (unRing y)],_,⟨(ring_eqv hp.1.1).1,(ring_eqv hp.1.2).1,trivial⟩,t18 400 _ _ _ (by
   unfold G18 T18
   simp only [unRing_agg,isRing_agg,isShort,decide_eq_true (show (unRing x).length≤1000 by omega),Bool.and_self,bsel_true,sidesOf_len]
   exact im2_loop hx (right_in hp.2.2) (unRing x).length 0 400 (by omega) (by omega)),.refl _⟩
def envK4:Env:=(envK3.add 20 (.pure preRings resRings)).add 18 (.pure preRings resRings)
theorem envK4_ok:EnvOK Tryz.prog envK4:=(Env.add_ok (Env.add_ok envK3_ok okRings3.sp) okRingsI.sp)
end
noncomputable section
/-! ### function 17 -/
def T17 {ρ:Type} (ret:KJ87 ρ) (q:List Pt) (p:List Pt):Option ρ :=
 (bsel (isRing (F.agg [ptsF q])&&isRing (F.agg [ptsF p])&&(rightV (unRing (F.agg [ptsF q]))&&rightV (unRing (F.agg [ptsF p]))))
 (ret (ringsV (unRing (F.agg [ptsF q])) (unRing (F.agg [ptsF p]))))
 none)
def G17 (q:List Pt) (p:List Pt):Option (Bool):=T17 some q p
theorem t17 (q:List Pt) (p:List Pt) (res:Bool) (h:G17 q p=some res):EndsN Tryz.prog 1 Tryz.f17.results.toList [.code (bodyOf Tryz.f17)] (startN Tryz.f17.ntmps [U.f (F.agg [ptsF p]),U.hp 0 0] [HO.box [(U.f (ptsF q))]]) (F.tup [F.bool res,F.agg [ptsF q]]):=by
 refine Ends.of_run tyOK envK4_ok (T:=[]) (n:=200) ?_
 refine gE (Y:=T17 (fun res=>some (.ret (F.tup [F.bool res,F.agg [ptsF q]]))) q p) (by kernel_rfl) ?_
 exact (gS h (fun _ h=>gR (by cases h;rfl)) gN)
def preCl:List F→F→Bool | [y],x=>isPts y&&isRing x&&(rightV (unPts y)&&rightV (unRing x)) | _,_=>false
def resCl:List F→F→F × List F | [y],x=>(.bool (ringsV (unPts y) (unRing x)),[y]) | cs,_=>(.dflt,cs)
theorem okCl:SpOK Tryz.prog 17 (.shared (bxPre decArg preCl) (bxRes decArg resCl)) :=
 fn_box_at (mk:=argMk) (c:=bodyOf Tryz.f17) Tryz.func17 (by kernel_rfl) (by kernel_rfl) decArg_ok (fun h=>argMk_le h) fun cs x hp=>match cs,hp with
 | [y],hp=>by
  simp only [preCl,Bool.and_eq_true] at hp
  obtain ⟨⟨h1,h2⟩,h3,h4⟩:=hp
  refine ⟨[ptsF (unPts y)],ringF (unRing x),_,_,⟨(pts_eqv h1).1,trivial⟩,(ring_eqv h2).1,t17 (unPts y) (unRing x) _ (by
   unfold G17 T17
   rw [unRing_agg,unRing_agg,isRing_agg,isRing_agg,h3,h4]
   rfl),.refl _,⟨(pts_eqv h1).2,trivial⟩⟩
def envK5:Env:=envK4.add 17 (.shared (bxPre decArg preCl) (bxRes decArg resCl))
theorem envK5_ok:EnvOK Tryz.prog envK5:=(Env.add_ok envK4_ok okCl)
end
noncomputable section
/-! ### function 34 -/
def S34_2 (q:List Pt) (l:List (List Pt)) (n:Int) (i:Int):St:=⟨(U.f (ringsF l)) :: (U.fn 17 [U.hp 0 0]) :: bads 5 ((U.f (F.int .i64 n)) :: (U.f (F.int .i64 i)) :: bads 10 []),[HO.box [(U.f (ptsF q))]]⟩
def T34_2 {ρ:Type} (ret:KJ86 ρ) (c2:(List Pt)→(List (List Pt))→(Int)→(Int)→Option ρ) (q:List Pt) (l:List (List Pt)) (n:Int) (i:Int):Option ρ :=
 (bsel (decide (i<n))
 (bsel (decide (0≤i))
 (bsel (decide (i<(↑l.length:Int)))
 (bsel (isPts (ptsF q)&&isRing (F.agg [ptsF (l.getD i.toNat [])])&&(rightV (unPts (ptsF q))&&rightV (unRing (F.agg [ptsF (l.getD i.toNat [])]))))
 (bsel (ringsV (unPts (ptsF q)) (unRing (F.agg [ptsF (l.getD i.toNat [])])))
 (ret (i))
 (c2 (q) (l) (n) (IntKind.i64.wrap (i+1))))
 none)
 none)
 none)
 (ret (-1)))
def L34_2:Nat→(List Pt)→(List (List Pt))→(Int)→(Int)→Option (Int)
 | 0,_,_,_,_=>none
 | k+1,q,l,n,i=>T34_2 some (L34_2 k) q l n i
def T34 {ρ:Type} (ret:KJ86 ρ) (c2:(List Pt)→(List (List Pt))→(Int)→(Int)→Option ρ) (q:List Pt) (l:List (List Pt)):Option ρ :=
 (c2 (q) (l) ((↑l.length:Int)) (0))
def G34 (k:Nat) (q:List Pt) (l:List (List Pt)):Option (Int):=T34 some (L34_2 k) q l
theorem t34_2:∀ (k:Nat) (q:List Pt) (l:List (List Pt)) (n:Int) (i:Int) (res:Int),L34_2 k q l n i=some res→EndsN Tryz.prog 1 Tryz.f34.results.toList (at_ Tryz.f34 2) (S34_2 q l n i) (F.tup [F.int .i64 res,F.agg [ptsF q]])
 | 0,_,_,_,_,_,h=>nomatch h
 | k+1,q,l,n,i,res,h=>by
  refine Ends.of_cut tyOK envK5_ok (T:=[(2,[0,1,7,8],1000)]) (n:=200) ?_
  refine gE (Y:=T34_2 (fun res=>some (.ret (F.tup [F.int .i64 res,F.agg [ptsF q]]))) (fun q l n i=>some (.cut (at_ Tryz.f34 2) (S34_2 q l n i))) q l n i) (by kernel_rfl) ?_
  exact (gS h (fun _ h=>(gS h (fun _ h=>(gS h (fun _ h=>(gS h (fun _ h=>(gS h (fun _ h=>gR (by cases h;rfl)) (fun _ h=>gC (t34_2 k _ _ _ _ res h)))) gN)) gN)) gN)) (fun _ h=>gR (by cases h;rfl)))
theorem t34 (k:Nat) (q:List Pt) (l:List (List Pt)) (res:Int) (h:G34 k q l=some res):EndsN Tryz.prog 1 Tryz.f34.results.toList [.code (bodyOf Tryz.f34)] (startN Tryz.f34.ntmps [U.f (ringsF l),(U.fn 17 [U.hp 0 0])] [HO.box [(U.f (ptsF q))]]) (F.tup [F.int .i64 res,F.agg [ptsF q]]):=by
 refine Ends.of_run tyOK envK5_ok (T:=[(2,[0,1,7,8],1000)]) (n:=200) ?_
 refine gE (Y:=T34 (fun res=>some (.ret (F.tup [F.int .i64 res,F.agg [ptsF q]]))) (fun q l n i=>some (.cut (at_ Tryz.f34 2) (S34_2 q l n i))) q l) (by kernel_rfl) ?_
 exact gC (t34_2 k _ _ _ _ res h)
def hitGo (q:List Pt):List (List Pt)→Nat→Int
 | [],_=>-1
 | p :: r,i=>bif ringsV q p then (i:Int) else hitGo q r (i+1)
def anyHit (q:List Pt) (l:List (List Pt)):Bool:=l.any (ringsV q)
theorem hit_any (q:List Pt):∀ (l:List (List Pt)) (i:Nat),decide (hitGo q l i ≥ 0)=anyHit q l
 | [],i=>rfl
 | p :: r,i=>by
  unfold anyHit hitGo
  rw [List.any_cons]
  cases ringsV q p with
  | true=>rw [cond_true,decide_eq_true (by omega)];rfl
  | false=>rw [cond_false,hit_any q r (i+1)];rfl
theorem hit_loop {q:List Pt} {l:List (List Pt)} (hn:l.length≤1000) (hq:rightV q=true) (hl:∀ p ∈ l,rightV p=true):∀ (d i k:Nat),i+d=l.length→d+1≤k→L34_2 k q l l.length i=some (hitGo q (l.drop i) i)
 | d,i,0,_,hk=>by omega
 | 0,i,k+1,hi,hk=>by
  rw [L34_2]
  unfold T34_2
  rw [decide_eq_false (show ¬ (i:Int)<l.length by omega),List.drop_eq_nil_of_le (by omega)]
  rfl
 | d+1,i,k+1,hi,hk=>by
  have hlt:i<l.length:=by omega
  have hg:l.getD i []=l[i]:=by simp [List.getD,List.getElem?_eq_getElem hlt]
  have wi:IntKind.i64.wrap ((i:Int)+1)=((i+1:Nat):Int):=by rw [wrapI (by omega) (by omega)];omega
  rw [L34_2]
  unfold T34_2
  rw [decide_eq_true (show (i:Int)<l.length by omega),decide_eq_true (show (0:Int)≤i by omega),Int.toNat_natCast,hg,wi,hit_loop hn hq hl d (i+1) k (by omega) (by omega),List.drop_eq_getElem_cons hlt,hitGo,unRing_agg,isRing_agg,isPts_ptsF,unPts_ptsF,hq,hl _ (List.getElem_mem hlt)]
  simp only [bsel_true,Bool.and_self]
  cases ringsV q l[i] <;> rfl
def isRights (l:List (List Pt)):Bool:=l.all rightV&&decide (l.length≤1000)
theorem isRights_iff {l:List (List Pt)}:isRights l=true ↔ (∀ p ∈ l,rightV p=true)∧l.length≤1000:=by
 unfold isRights
 rw [Bool.and_eq_true,List.all_eq_true,decide_eq_true_eq]
def preIdxF:List F→F→Bool | [y],x=>isPts y&&isRings x&&(rightV (unPts y)&&isRights (unRings x)) | _,_=>false
def resIdxF:List F→F→F × List F | [y],x=>(.int .i64 (hitGo (unPts y) (unRings x) 0),[y]) | cs,_=>(.dflt,cs)
theorem okIdxF:SpOK Tryz.prog 34 (.shared (bxPre (decFn 17) preIdxF) (bxRes (decFn 17) resIdxF)) :=
 fn_box_at (mk:=fnMk 17) (c:=bodyOf Tryz.f34) Tryz.func34 (by kernel_rfl) (by kernel_rfl) (decFn_ok _) (fun h=>fnMk_le h) fun cs x hp=>match cs,hp with
 | [y],hp=>by
  simp only [preIdxF,Bool.and_eq_true] at hp
  obtain ⟨⟨h1,h2⟩,h3,h4⟩:=hp
  obtain ⟨h5,h6⟩:=isRights_iff.1 h4
  exact ⟨[ptsF (unPts y)],ringsF (unRings x),_,_,⟨(pts_eqv h1).1,trivial⟩,(rings_eqv h2).1,t34 2000 (unPts y) (unRings x) _ (hit_loop h6 h3 h5 (unRings x).length 0 2000 (by omega) (by omega)),.refl _,⟨(pts_eqv h1).2,trivial⟩⟩
def envK6:Env:=envK5.add 34 (.shared (bxPre (decFn 17) preIdxF) (bxRes (decFn 17) resIdxF))
theorem envK6_ok:EnvOK Tryz.prog envK6:=(Env.add_ok envK5_ok okIdxF)
end
noncomputable section
/-! ### function 16 -/
def T16 {ρ:Type} (ret:KJ87 ρ) (q:List Pt) (l:List (List Pt)):Option ρ :=
 (bsel (isPts (ptsF q)&&isRings (ringsF l)&&(rightV (unPts (ptsF q))&&isRights (unRings (ringsF l))))
 (ret (decide (hitGo (unPts (ptsF q)) (unRings (ringsF l)) 0 ≥ 0)))
 none)
def G16 (q:List Pt) (l:List (List Pt)):Option (Bool):=T16 some q l
theorem t16 (q:List Pt) (l:List (List Pt)) (res:Bool) (h:G16 q l=some res):EndsN Tryz.prog 1 Tryz.f16.results.toList [.code (bodyOf Tryz.f16)] (startN Tryz.f16.ntmps [U.f (ringsF l),(U.fn 17 [U.hp 0 0])] [HO.box [(U.f (ptsF q))]]) (F.tup [F.bool res,F.agg [ptsF q]]):=by
 refine Ends.of_run tyOK envK6_ok (T:=[]) (n:=200) ?_
 refine gE (Y:=T16 (fun res=>some (.ret (F.tup [F.bool res,F.agg [ptsF q]]))) q l) (by kernel_rfl) ?_
 exact (gS h (fun _ h=>gR (by cases h;rfl)) gN)
def resHasF:List F→F→F × List F | [y],x=>(.bool (anyHit (unPts y) (unRings x)),[y]) | cs,_=>(.dflt,cs)
theorem okHasF:SpOK Tryz.prog 16 (.shared (bxPre (decFn 17) preIdxF) (bxRes (decFn 17) resHasF)) :=
 fn_box_at (mk:=fnMk 17) (c:=bodyOf Tryz.f16) Tryz.func16 (by kernel_rfl) (by kernel_rfl) (decFn_ok _) (fun h=>fnMk_le h) fun cs x hp=>match cs,hp with
 | [y],hp=>by
  simp only [preIdxF,Bool.and_eq_true] at hp
  obtain ⟨⟨h1,h2⟩,h3,h4⟩:=hp
  exact ⟨[ptsF (unPts y)],ringsF (unRings x),_,_,⟨(pts_eqv h1).1,trivial⟩,(rings_eqv h2).1,t16 (unPts y) (unRings x) (anyHit (unPts y) (unRings x)) (by
   unfold G16 T16
   rw [isPts_ptsF,unPts_ptsF,isRings_ringsF,unRings_ringsF,h3,h4,hit_any]
   rfl),.refl _,⟨(pts_eqv h1).2,trivial⟩⟩
def envK7:Env:=envK6.add 16 (.shared (bxPre (decFn 17) preIdxF) (bxRes (decFn 17) resHasF))
theorem envK7_ok:EnvOK Tryz.prog envK7:=(Env.add_ok envK6_ok okHasF)
end
noncomputable section
set_option maxHeartbeats 1000000
def sumGo:List (List Pt)→Int→Int
 | [],s=>s
 | r :: l,s=>sumGo l (IntKind.i64.wrap (s+(r.length:Int)))
def spotsV (l:List (List Pt)):Int:=sumGo l 0
/-! ### function 14 -/
def S14_3 (l:List (List Pt)) (s:Int) (n:Int) (i:Int):St:=⟨bads 3 ((U.f (F.int .i64 s)) :: bads 2 ((U.f (ringsF l)) :: (U.f (F.int .i64 n)) :: (U.f (F.int .i64 i)) :: bads 10 [])),[]⟩
abbrev KJ810 (ρ:Type):=(List (List Pt))→(Int)→(Int)→(Int)→Option ρ
def T14_3 {ρ:Type} (ret:KJ86 ρ) (c3:KJ810 ρ) (l:List (List Pt)) (s:Int) (n:Int) (i:Int):Option ρ :=
 (bsel (decide (i<n))
 (bsel (decide (0≤i))
 (bsel (decide (i<(↑l.length:Int)))
 (c3 (l) (IntKind.i64.wrap (s+(↑(l.getD i.toNat []).length:Int))) (n) (IntKind.i64.wrap (i+1)))
 none)
 none)
 (ret (s)))
def L14_3:Nat→(List (List Pt))→(Int)→(Int)→(Int)→Option (Int)
 | 0,_,_,_,_=>none
 | k+1,l,s,n,i=>T14_3 some (L14_3 k) l s n i
def T14 {ρ:Type} (ret:KJ86 ρ) (c3:KJ810 ρ) (l:List (List Pt)):Option ρ :=
 (c3 (l) (0) ((↑l.length:Int)) (0))
def G14 (k:Nat) (l:List (List Pt)):Option (Int):=T14 some (L14_3 k) l
theorem t14_3:∀ (k:Nat) (l:List (List Pt)) (s:Int) (n:Int) (i:Int) (r:Int),L14_3 k l s n i=some r→Ends Tryz.prog Tryz.f14.results.toList (at_ Tryz.f14 3) (S14_3 l s n i) (F.int .i64 r)
 | 0,_,_,_,_,_,h=>nomatch h
 | k+1,l,s,n,i,r,h=>by
  refine Ends.of_cut tyOK envK7_ok (T:=[(3,[3,6,7,8],1000)]) (n:=200) ?_
  refine gE (Y:=T14_3 (fun r=>some (.ret (F.int .i64 r))) (fun l s n i=>some (.cut (at_ Tryz.f14 3) (S14_3 l s n i))) l s n i) (by kernel_rfl) ?_
  exact (gS h (fun _ h=>(gS h (fun _ h=>(gS h (fun _ h=>gC (t14_3 k _ _ _ _ r h)) gN)) gN)) (fun _ h=>gR (by cases h;rfl)))
theorem t14 (k:Nat) (l:List (List Pt)) (r:Int) (h:G14 k l=some r):Ends Tryz.prog Tryz.f14.results.toList [.code (bodyOf Tryz.f14)] (start Tryz.f14.ntmps ([ringsF l].map .f)) (F.int .i64 r):=by
 refine Ends.of_run tyOK envK7_ok (T:=[(3,[3,6,7,8],1000)]) (n:=200) ?_
 refine gE (Y:=T14 (fun r=>some (.ret (F.int .i64 r))) (fun l s n i=>some (.cut (at_ Tryz.f14 3) (S14_3 l s n i))) l) (by kernel_rfl) ?_
 exact gC (t14_3 k _ _ _ _ r h)
theorem spots_in_loop {l:List (List Pt)} (hn:l.length≤1000):∀ (d i k:Nat) (s:Int),i+d=l.length→d+1≤k→L14_3 k l s l.length i=some (sumGo (l.drop i) s)
 | d,i,0,_,_,hk=>by omega
 | 0,i,k+1,s,hi,hk=>by
  rw [L14_3]
  unfold T14_3
  rw [decide_eq_false (show ¬ (i:Int)<l.length by omega),List.drop_eq_nil_of_le (by omega)]
  rfl
 | d+1,i,k+1,s,hi,hk=>by
  have hlt:i<l.length:=by omega
  have hg:l.getD i []=l[i]:=by simp [List.getD,List.getElem?_eq_getElem hlt]
  have wi:IntKind.i64.wrap ((i:Int)+1)=((i+1:Nat):Int):=by rw [wrapI (by omega) (by omega)];omega
  rw [L14_3]
  unfold T14_3
  rw [decide_eq_true (show (i:Int)<l.length by omega),decide_eq_true (show (0:Int)≤i by omega),Int.toNat_natCast,hg,wi,spots_in_loop hn d (i+1) k _ (by omega) (by omega),List.drop_eq_getElem_cons hlt,sumGo]
  rfl
def isFew (l:List (List Pt)):Bool:=decide (l.length≤1000)
def preSpotsIn:List F→Bool | [x]=>isRings x&&isFew (unRings x) | _=>false
def resSpotsIn:List F→F | [x]=>.int .i64 (spotsV (unRings x)) | _=>.dflt
theorem okSpotsIn:PureOK Tryz.prog 14 preSpotsIn resSpotsIn :=
 fn_pure_at (c:=bodyOf Tryz.f14) Tryz.func14 (by kernel_rfl) (by kernel_rfl) fun xs hp=>match xs,hp with
 | [x],hp=>by
  simp only [preSpotsIn,Bool.and_eq_true] at hp
  have h:(unRings x).length≤1000:=of_decide_eq_true hp.2
  exact ⟨[ringsF (unRings x)],_,⟨(rings_eqv hp.1).1,trivial⟩,t14 2000 _ _ (spots_in_loop h (unRings x).length 0 2000 0 (by omega) (by omega)),.refl _⟩
def badGo:List (List Pt)→Nat→Int × Int→Int × Int
 | [],_,R=>R
 | r :: l,i,R=>bif fault3V r != 0 then (IntKind.i64.wrap (10+fault3V r),(i:Int)) else badGo l (i+1) R
def meetGo (l:List (List Pt)):Nat→Nat→Int × Int
 | 0,_=>(0,0)
 | d+1,i=>bif anyHit (l.getD i []) (l.take i) then (3,(i:Int)) else meetGo l d (i+1)
def layerP (l:List (List Pt)):Int × Int:=bif decide (l.length > 6) then (1,0) else bif decide (spotsV l > 20) then (2,0) else badGo l 0 (meetGo l l.length 0)
/-! ### function 7 -/
def S7_5 (l:List (List Pt)) (s:Int) (i:Int):St:=⟨(U.f (ringsF l)) :: bads 3 ((U.f (F.int .i64 s)) :: (U.f (F.int .i64 i)) :: bads 60 []),[]⟩
def S7_11 (l:List (List Pt)) (i:Int):St:=⟨(U.f (ringsF l)) :: bads 5 ((U.f (F.int .i64 i)) :: bads 59 []),[]⟩
def S7_17 (l:List (List Pt)) (i:Int):St:=⟨(U.f (ringsF l)) :: bads 7 ((U.f (F.int .i64 i)) :: bads 57 []),[]⟩
def S7_20 (l:List (List Pt)) (i:Int) (j:Int):St:=⟨(U.f (ringsF l)) :: bads 7 ((U.f (F.int .i64 i)) :: (U.f (F.int .i64 j)) :: bads 56 []),[]⟩
abbrev KJ81 (ρ:Type):=(List (List Pt))→(Int)→(Int)→Option ρ
abbrev KJ84 (ρ:Type):=(List (List Pt))→(Int)→Option ρ
abbrev KJ89 (ρ:Type):=(Int)→(Int)→Option ρ
def T7_5 {ρ:Type} (ret:KJ89 ρ) (c5:KJ81 ρ) (c11:KJ84 ρ) (c17:KJ84 ρ) (c20:KJ81 ρ) (l:List (List Pt)) (s:Int) (i:Int):Option ρ :=
 (bsel (decide (i<(↑l.length:Int)))
 (bsel (decide (0≤i))
 (bsel (decide (i<(↑l.length:Int)))
 (c5 (l) (IntKind.i64.wrap (s+(↑(lenOf ((List.drop 0 (ringF (l.getD i.toNat [])).cells).headD F.dflt)):Int))) (IntKind.i64.wrap (i+1)))
 none)
 none)
 (bsel (decide (s > 20))
 (ret (2) (0))
 (c11 (l) (0))))
def T7_11 {ρ:Type} (ret:KJ89 ρ) (c5:KJ81 ρ) (c11:KJ84 ρ) (c17:KJ84 ρ) (c20:KJ81 ρ) (l:List (List Pt)) (i:Int):Option ρ :=
 (bsel (decide (i<(↑l.length:Int)))
 (bsel (decide (0≤i))
 (bsel (decide (i<(↑l.length:Int)))
 (bsel (isRing (F.agg [ptsF (l.getD i.toNat [])]))
 (bsel (fault3V (unRing (F.agg [ptsF (l.getD i.toNat [])])) != 0)
 (ret (IntKind.i64.wrap (10+fault3V (unRing (F.agg [ptsF (l.getD i.toNat [])])))) (i))
 (c11 (l) (IntKind.i64.wrap (i+1))))
 none)
 none)
 none)
 (c17 (l) (0)))
def T7_17 {ρ:Type} (ret:KJ89 ρ) (c5:KJ81 ρ) (c11:KJ84 ρ) (c17:KJ84 ρ) (c20:KJ81 ρ) (l:List (List Pt)) (i:Int):Option ρ :=
 (bsel (decide (i<(↑l.length:Int)))
 (c20 (l) (i) (0))
 (ret (0) (0)))
def T7_20 {ρ:Type} (ret:KJ89 ρ) (c5:KJ81 ρ) (c11:KJ84 ρ) (c17:KJ84 ρ) (c20:KJ81 ρ) (l:List (List Pt)) (i:Int) (j:Int):Option ρ :=
 (bsel (decide (j<i))
 (bsel (decide (0≤i))
 (bsel (decide (i<(↑l.length:Int)))
 (bsel (decide (0≤j))
 (bsel (decide (j<(↑l.length:Int)))
 (bsel (isRing (F.agg [ptsF (l.getD i.toNat [])])&&isRing (F.agg [ptsF (l.getD j.toNat [])])&&(rightV (unRing (F.agg [ptsF (l.getD i.toNat [])]))&&rightV (unRing (F.agg [ptsF (l.getD j.toNat [])]))))
 (bsel (ringsV (unRing (F.agg [ptsF (l.getD i.toNat [])])) (unRing (F.agg [ptsF (l.getD j.toNat [])])))
 (ret (3) (i))
 (c20 (l) (i) (IntKind.i64.wrap (j+1))))
 none)
 none)
 none)
 none)
 none)
 (c17 (l) (IntKind.i64.wrap (i+1))))
mutual
def L7_5:Nat→(List (List Pt))→(Int)→(Int)→Option ((Int) × (Int))
 | 0,_,_,_=>none
 | k+1,l,s,i=>T7_5 (fun a b=>some (a,b)) (L7_5 k) (L7_11 k) (L7_17 k) (L7_20 k) l s i
 termination_by structural k=>k
def L7_11:Nat→(List (List Pt))→(Int)→Option ((Int) × (Int))
 | 0,_,_=>none
 | k+1,l,i=>T7_11 (fun a b=>some (a,b)) (L7_5 k) (L7_11 k) (L7_17 k) (L7_20 k) l i
 termination_by structural k=>k
def L7_17:Nat→(List (List Pt))→(Int)→Option ((Int) × (Int))
 | 0,_,_=>none
 | k+1,l,i=>T7_17 (fun a b=>some (a,b)) (L7_5 k) (L7_11 k) (L7_17 k) (L7_20 k) l i
 termination_by structural k=>k
def L7_20:Nat→(List (List Pt))→(Int)→(Int)→Option ((Int) × (Int))
 | 0,_,_,_=>none
 | k+1,l,i,j=>T7_20 (fun a b=>some (a,b)) (L7_5 k) (L7_11 k) (L7_17 k) (L7_20 k) l i j
 termination_by structural k=>k
end
def T7 {ρ:Type} (ret:KJ89 ρ) (c5:KJ81 ρ) (c11:KJ84 ρ) (c17:KJ84 ρ) (c20:KJ81 ρ) (l:List (List Pt)):Option ρ :=
 (bsel (decide ((↑l.length:Int) > 6))
 (ret (1) (0))
 (c5 (l) (0) (0)))
def G7 (k:Nat) (l:List (List Pt)):Option ((Int) × (Int)):=T7 (fun a b=>some (a,b)) (L7_5 k) (L7_11 k) (L7_17 k) (L7_20 k) l
mutual
theorem t7_5:∀ (k:Nat) (l:List (List Pt)) (s:Int) (i:Int) (a:Int) (b:Int),L7_5 k l s i=some (a,b)→Ends Tryz.prog Tryz.f7.results.toList (at_ Tryz.f7 5) (S7_5 l s i) (F.tup [F.int .i64 a,F.int .i64 b])
 | 0,_,_,_,_,_,h=>nomatch h
 | k+1,l,s,i,a,b,h=>by
  refine Ends.of_cut tyOK envK7_ok (T:=[(5,[0,4,5],1000),(11,[0,6],1000),(17,[0,8],1000),(20,[0,8,9],1000)]) (n:=200) ?_
  refine gE (Y:=T7_5 (fun a b=>some (.ret (F.tup [F.int .i64 a,F.int .i64 b]))) (fun l s i=>some (.cut (at_ Tryz.f7 5) (S7_5 l s i))) (fun l i=>some (.cut (at_ Tryz.f7 11) (S7_11 l i))) (fun l i=>some (.cut (at_ Tryz.f7 17) (S7_17 l i))) (fun l i j=>some (.cut (at_ Tryz.f7 20) (S7_20 l i j))) l s i) (by kernel_rfl) ?_
  exact (gS h (fun _ h=>(gS h (fun _ h=>(gS h (fun _ h=>gC (t7_5 k _ _ _ a b h)) gN)) gN)) (fun _ h=>(gS h (fun _ h=>gR (by cases h;rfl)) (fun _ h=>gC (t7_11 k _ _ a b h)))))
theorem t7_11:∀ (k:Nat) (l:List (List Pt)) (i:Int) (a:Int) (b:Int),L7_11 k l i=some (a,b)→Ends Tryz.prog Tryz.f7.results.toList (at_ Tryz.f7 11) (S7_11 l i) (F.tup [F.int .i64 a,F.int .i64 b])
 | 0,_,_,_,_,h=>nomatch h
 | k+1,l,i,a,b,h=>by
  refine Ends.of_cut tyOK envK7_ok (T:=[(5,[0,4,5],1000),(11,[0,6],1000),(17,[0,8],1000),(20,[0,8,9],1000)]) (n:=200) ?_
  refine gE (Y:=T7_11 (fun a b=>some (.ret (F.tup [F.int .i64 a,F.int .i64 b]))) (fun l s i=>some (.cut (at_ Tryz.f7 5) (S7_5 l s i))) (fun l i=>some (.cut (at_ Tryz.f7 11) (S7_11 l i))) (fun l i=>some (.cut (at_ Tryz.f7 17) (S7_17 l i))) (fun l i j=>some (.cut (at_ Tryz.f7 20) (S7_20 l i j))) l i) (by kernel_rfl) ?_
  exact (gS h (fun _ h=>(gS h (fun _ h=>(gS h (fun _ h=>(gS h (fun _ h=>(gS h (fun _ h=>gR (by cases h;rfl)) (fun _ h=>gC (t7_11 k _ _ a b h)))) gN)) gN)) gN)) (fun _ h=>gC (t7_17 k _ _ a b h)))
theorem t7_17:∀ (k:Nat) (l:List (List Pt)) (i:Int) (a:Int) (b:Int),L7_17 k l i=some (a,b)→Ends Tryz.prog Tryz.f7.results.toList (at_ Tryz.f7 17) (S7_17 l i) (F.tup [F.int .i64 a,F.int .i64 b])
 | 0,_,_,_,_,h=>nomatch h
 | k+1,l,i,a,b,h=>by
  refine Ends.of_cut tyOK envK7_ok (T:=[(5,[0,4,5],1000),(11,[0,6],1000),(17,[0,8],1000),(20,[0,8,9],1000)]) (n:=200) ?_
  refine gE (Y:=T7_17 (fun a b=>some (.ret (F.tup [F.int .i64 a,F.int .i64 b]))) (fun l s i=>some (.cut (at_ Tryz.f7 5) (S7_5 l s i))) (fun l i=>some (.cut (at_ Tryz.f7 11) (S7_11 l i))) (fun l i=>some (.cut (at_ Tryz.f7 17) (S7_17 l i))) (fun l i j=>some (.cut (at_ Tryz.f7 20) (S7_20 l i j))) l i) (by kernel_rfl) ?_
  exact (gS h (fun _ h=>gC (t7_20 k _ _ _ a b h)) (fun _ h=>gR (by cases h;rfl)))
theorem t7_20:∀ (k:Nat) (l:List (List Pt)) (i:Int) (j:Int) (a:Int) (b:Int),L7_20 k l i j=some (a,b)→Ends Tryz.prog Tryz.f7.results.toList (at_ Tryz.f7 20) (S7_20 l i j) (F.tup [F.int .i64 a,F.int .i64 b])
 | 0,_,_,_,_,_,h=>nomatch h
 | k+1,l,i,j,a,b,h=>by
  refine Ends.of_cut tyOK envK7_ok (T:=[(5,[0,4,5],1000),(11,[0,6],1000),(17,[0,8],1000),(20,[0,8,9],1000)]) (n:=200) ?_
  refine gE (Y:=T7_20 (fun a b=>some (.ret (F.tup [F.int .i64 a,F.int .i64 b]))) (fun l s i=>some (.cut (at_ Tryz.f7 5) (S7_5 l s i))) (fun l i=>some (.cut (at_ Tryz.f7 11) (S7_11 l i))) (fun l i=>some (.cut (at_ Tryz.f7 17) (S7_17 l i))) (fun l i j=>some (.cut (at_ Tryz.f7 20) (S7_20 l i j))) l i j) (by kernel_rfl) ?_
  exact (gS h (fun _ h=>(gS h (fun _ h=>(gS h (fun _ h=>(gS h (fun _ h=>(gS h (fun _ h=>(gS h (fun _ h=>(gS h (fun _ h=>gR (by cases h;rfl)) (fun _ h=>gC (t7_20 k _ _ _ a b h)))) gN)) gN)) gN)) gN)) gN)) (fun _ h=>gC (t7_17 k _ _ a b h)))
end
theorem t7 (k:Nat) (l:List (List Pt)) (a:Int) (b:Int) (h:G7 k l=some (a,b)):Ends Tryz.prog Tryz.f7.results.toList [.code (bodyOf Tryz.f7)] (start Tryz.f7.ntmps ([ringsF l].map .f)) (F.tup [F.int .i64 a,F.int .i64 b]):=by
 refine Ends.of_run tyOK envK7_ok (T:=[(5,[0,4,5],1000),(11,[0,6],1000),(17,[0,8],1000),(20,[0,8,9],1000)]) (n:=200) ?_
 refine gE (Y:=T7 (fun a b=>some (.ret (F.tup [F.int .i64 a,F.int .i64 b]))) (fun l s i=>some (.cut (at_ Tryz.f7 5) (S7_5 l s i))) (fun l i=>some (.cut (at_ Tryz.f7 11) (S7_11 l i))) (fun l i=>some (.cut (at_ Tryz.f7 17) (S7_17 l i))) (fun l i j=>some (.cut (at_ Tryz.f7 20) (S7_20 l i j))) l) (by kernel_rfl) ?_
 exact (gS h (fun _ h=>gR (by cases h;rfl)) (fun _ h=>gC (t7_5 k _ _ _ a b h)))
theorem lf20_loop {l:List (List Pt)} (hn:l.length≤6) (hr:∀ r ∈ l,rightV r=true) {i:Nat} (hi:i<l.length) {R:Int × Int} {K:Nat} (hout:∀ k,K≤k→L7_17 k l ((i+1:Nat):Int)=some R) :
  ∀ (d j k:Nat),j+d=i→d+1+K≤k→L7_20 k l i j=some (bif anyHit (l.getD i []) ((l.take i).drop j) then (3,(i:Int)) else R)
 | d,j,0,_,hk=>by omega
 | 0,j,k+1,hj,hk=>by
  rw [L7_20]
  unfold T7_20
  rw [decide_eq_false (show ¬ (j:Int)<i by omega),bsel_false,wrapI (by omega) (by omega),show (i:Int)+1=((i+1:Nat):Int) by omega,hout k (by omega),List.drop_eq_nil_of_le (by rw [List.length_take];omega)]
  rfl
 | d+1,j,k+1,hj,hk=>by
  have ih:=lf20_loop hn hr hi hout d (j+1) k (by omega) (by omega)
  have wj:IntKind.i64.wrap ((j:Int)+1)=((j+1:Nat):Int):=by rw [wrapI (by omega) (by omega)];omega
  have hjt:j<(l.take i).length:=by rw [List.length_take];omega
  have hgj:(l.take i)[j]=l.getD j []:=by simp [List.getD,List.getElem?_eq_getElem (show j<l.length by omega)]
  have ri:=hr _ (getD_in (d:=[]) hi)
  have rj:=hr _ (getD_in (d:=[]) (show j<l.length by omega))
  rw [L7_20]
  unfold T7_20
  simp only [decide_eq_true (show (j:Int)<i by omega),decide_eq_true (show (0:Int)≤i by omega),decide_eq_true (show (i:Int)<l.length by omega),decide_eq_true (show (0:Int)≤j by omega),decide_eq_true (show (j:Int)<l.length by omega),Int.toNat_natCast,unRing_agg,isRing_agg,ri,rj,wj,ih,Bool.and_self,bsel_true]
  rw [List.drop_eq_getElem_cons hjt,hgj]
  unfold anyHit
  rw [List.any_cons]
  cases ringsV (l.getD i []) (l.getD j []) <;> rfl
theorem lf17_loop {l:List (List Pt)} (hn:l.length≤6) (hr:∀ r ∈ l,rightV r=true):∀ (d i k:Nat),i+d=l.length→10*d+1≤k→L7_17 k l i=some (meetGo l d i)
 | d,i,0,_,hk=>by omega
 | 0,i,k+1,hi,hk=>by
  rw [L7_17]
  unfold T7_17
  rw [decide_eq_false (show ¬ (i:Int)<l.length by omega)]
  rfl
 | d+1,i,k+1,hi,hk=>by
  have ih:=lf20_loop hn hr (i:=i) (by omega) (K:=10*d+1) (fun k hk=>lf17_loop hn hr d (i+1) k (by omega) hk) i 0 k (by omega) (by omega)
  rw [L7_17]
  unfold T7_17
  rw [decide_eq_true (show (i:Int)<l.length by omega),bsel_true]
  exact ih
theorem lf11_loop {l:List (List Pt)} (hn:l.length≤6) {R:Int × Int} {K:Nat} (hout:(∀ r ∈ l,rightV r=true)→∀ k,K≤k→L7_17 k l 0=some R) :
  ∀ (d i k:Nat),i+d=l.length→d+1+K≤k→(∀ r ∈ l.take i,rightV r=true)→L7_11 k l i=some (badGo (l.drop i) i R)
 | d,i,0,_,hk,_=>by omega
 | 0,i,k+1,hi,hk,ht=>by
  rw [List.take_of_length_le (by omega)] at ht
  rw [L7_11]
  unfold T7_11
  rw [decide_eq_false (show ¬ (i:Int)<l.length by omega),bsel_false,hout ht k (by omega),List.drop_eq_nil_of_le (by omega)]
  rfl
 | d+1,i,k+1,hi,hk,ht=>by
  have hlt:i<l.length:=by omega
  have hg:l.getD i []=l[i]:=by simp [List.getD,List.getElem?_eq_getElem hlt]
  have wi:IntKind.i64.wrap ((i:Int)+1)=((i+1:Nat):Int):=by rw [wrapI (by omega) (by omega)];omega
  rw [L7_11]
  unfold T7_11
  rw [decide_eq_true (show (i:Int)<l.length by omega),decide_eq_true (show (0:Int)≤i by omega),Int.toNat_natCast,hg,wi,unRing_agg,isRing_agg,List.drop_eq_getElem_cons hlt,badGo]
  simp only [bsel_true]
  cases hf:(fault3V l[i] != 0) with
  | true=>rfl
  | false =>
   have hrr:rightV l[i]=true:=by
    unfold rightV
    rw [bne,Bool.not_eq_false'] at hf
    exact hf
   rw [bsel_false,cond_false,lf11_loop hn hout d (i+1) k (by omega) (by omega) fun p hp=>by
    rw [List.take_succ_eq_append_getElem hlt,List.mem_append] at hp
    rcases hp with hp | hp
    ·exact ht p hp
    ·simp at hp;subst hp;exact hrr]
theorem lf5_loop {l:List (List Pt)} (hn:l.length≤6) {R:Int × Int} {K:Nat} (hout:∀ k,K≤k→L7_11 k l 0=some R):∀ (d i k:Nat) (s:Int),i+d=l.length→d+1+K≤k→L7_5 k l s i=some (bif decide (sumGo (l.drop i) s > 20) then (2,0) else R)
 | d,i,0,_,_,hk=>by omega
 | 0,i,k+1,s,hi,hk=>by
  rw [L7_5]
  unfold T7_5
  rw [decide_eq_false (show ¬ (i:Int)<l.length by omega),bsel_false,hout k (by omega),List.drop_eq_nil_of_le (by omega),sumGo]
  cases decide (s > 20) <;> rfl
 | d+1,i,k+1,s,hi,hk=>by
  have hlt:i<l.length:=by omega
  have hg:l.getD i []=l[i]:=by simp [List.getD,List.getElem?_eq_getElem hlt]
  have wi:IntKind.i64.wrap ((i:Int)+1)=((i+1:Nat):Int):=by rw [wrapI (by omega) (by omega)];omega
  have e:∀ r:List Pt,lenOf ((List.drop 0 (ringF r).cells).headD F.dflt)=r.length:=fun _=>rfl
  rw [L7_5]
  unfold T7_5
  rw [decide_eq_true (show (i:Int)<l.length by omega),decide_eq_true (show (0:Int)≤i by omega),Int.toNat_natCast,wi]
  simp only [e,hg,bsel_true]
  rw [lf5_loop hn hout d (i+1) k _ (by omega) (by omega),List.drop_eq_getElem_cons hlt,sumGo]
theorem layer3_law (l:List (List Pt)):G7 200 l=some (layerP l):=by
 unfold G7 T7 layerP
 by_cases h:l.length > 6
 ·rw [decide_eq_true (show (l.length:Int) > 6 by omega),decide_eq_true h];rfl
 ·rw [decide_eq_false (show ¬ (l.length:Int) > 6 by omega),decide_eq_false h]
  exact lf5_loop (by omega) (R:=badGo l 0 (meetGo l l.length 0)) (K:=100) (fun k hk=>lf11_loop (by omega) (R:=meetGo l l.length 0) (K:=80) (fun hr k hk=>lf17_loop (by omega) hr l.length 0 k (by omega) (by omega)) l.length 0 k (by omega) (by omega) (by simp)) l.length 0 200 0 (by omega) (by omega)
def preLayer:List F→Bool | [x]=>isRings x | _=>false
def resLayer:List F→F | [x]=>.tup [.int .i64 (layerP (unRings x)).1,.int .i64 (layerP (unRings x)).2] | _=>.dflt
theorem okLayer3:PureOK Tryz.prog 7 preLayer resLayer :=
 fn_pure_at (c:=bodyOf Tryz.f7) Tryz.func7 (by kernel_rfl) (by kernel_rfl) fun xs hp=>match xs,hp with
 | [x],hp=>⟨[ringsF (unRings x)],_,⟨(rings_eqv hp).1,trivial⟩,t7 200 _ _ _ (layer3_law _),.refl _⟩
def envK8:Env:=(envK7.add 14 (.pure preSpotsIn resSpotsIn)).add 7 (.pure preLayer resLayer)
theorem envK8_ok:EnvOK Tryz.prog envK8:=(Env.add_ok (Env.add_ok envK7_ok okSpotsIn.sp) okLayer3.sp)
end
noncomputable section
set_option maxHeartbeats 1000000
/-! ### function 6 -/
def S6_6 (l:List (List Pt)) (n:Int) (i:Int):St:=⟨(U.f (ringsF l)) :: bads 16 ((U.f (ringsF l)) :: (U.f (F.int .i64 n)) :: (U.f (F.int .i64 i)) :: bads 26 []),[]⟩
def S6_13 (l:List (List Pt)) (n:Int) (i:Int):St:=⟨(U.f (ringsF l)) :: bads 31 ((U.f (ringsF l)) :: (U.f (F.int .i64 n)) :: (U.f (F.int .i64 i)) :: bads 11 []),[]⟩
def T6_6 {ρ:Type} (ret:KJ89 ρ) (c6:KJ81 ρ) (c13:KJ81 ρ) (l:List (List Pt)) (n:Int) (i:Int):Option ρ :=
 (bsel (decide (i<n))
 (bsel (decide (0≤i))
 (bsel (decide (i<(↑l.length:Int)))
 (bsel (isRing (F.agg [ptsF (l.getD i.toNat [])]))
 (bsel (fault3V (unRing (F.agg [ptsF (l.getD i.toNat [])])) != 0)
 (ret (IntKind.i64.wrap (10+fault3V (unRing (F.agg [ptsF (l.getD i.toNat [])])))) (i))
 (c6 (l) (n) (IntKind.i64.wrap (i+1))))
 none)
 none)
 none)
 (c13 (l) ((↑l.length:Int)) (0)))
def T6_13 {ρ:Type} (ret:KJ89 ρ) (c6:KJ81 ρ) (c13:KJ81 ρ) (l:List (List Pt)) (n:Int) (i:Int):Option ρ :=
 (bsel (decide (i<n))
 (bsel (decide (0≤i))
 (bsel (decide (i<(↑l.length:Int)))
 (bsel (decide (0≤i))
 (bsel (decide (i≤(↑l.length:Int)))
 (bsel (isPts (ptsF (l.getD i.toNat []))&&isRings (F.sl (i.toNat-Int.toNat 0) fun j ↦ ringF (l.getD (Int.toNat 0+j) []))&&(rightV (unPts (ptsF (l.getD i.toNat [])))&&isRights (unRings (F.sl (i.toNat-Int.toNat 0) fun j ↦ ringF (l.getD (Int.toNat 0+j) [])))))
 (bsel ((unRings (F.sl (i.toNat-Int.toNat 0) fun j ↦ ringF (l.getD (Int.toNat 0+j) []))).any (ringsV (unPts (ptsF (l.getD i.toNat [])))))
 (ret (3) (i))
 (c13 (l) (n) (IntKind.i64.wrap (i+1))))
 none)
 none)
 none)
 none)
 none)
 (ret (0) (0)))
mutual
def L6_6:Nat→(List (List Pt))→(Int)→(Int)→Option ((Int) × (Int))
 | 0,_,_,_=>none
 | k+1,l,n,i=>T6_6 (fun a b=>some (a,b)) (L6_6 k) (L6_13 k) l n i
def L6_13:Nat→(List (List Pt))→(Int)→(Int)→Option ((Int) × (Int))
 | 0,_,_,_=>none
 | k+1,l,n,i=>T6_13 (fun a b=>some (a,b)) (L6_6 k) (L6_13 k) l n i
end
def T6 {ρ:Type} (ret:KJ89 ρ) (c6:KJ81 ρ) (c13:KJ81 ρ) (l:List (List Pt)):Option ρ :=
 (bsel (decide ((↑l.length:Int) > 6))
 (ret (1) (0))
 (bsel (isRings (ringsF l)&&isFew (unRings (ringsF l)))
 (bsel (decide (spotsV (unRings (ringsF l)) > 20))
 (ret (2) (0))
 (c6 (l) ((↑l.length:Int)) (0)))
 none))
def G6 (k:Nat) (l:List (List Pt)):Option ((Int) × (Int)):=T6 (fun a b=>some (a,b)) (L6_6 k) (L6_13 k) l
mutual
theorem t6_6:∀ (k:Nat) (l:List (List Pt)) (n:Int) (i:Int) (a:Int) (b:Int),L6_6 k l n i=some (a,b)→Ends Tryz.prog Tryz.f6.results.toList (at_ Tryz.f6 6) (S6_6 l n i) (F.tup [F.int .i64 a,F.int .i64 b])
 | 0,_,_,_,_,_,h=>nomatch h
 | k+1,l,n,i,a,b,h=>by
  refine Ends.of_cut tyOK envK8_ok (T:=[(6,[0,17,18,19],1000),(13,[0,32,33,34],1000)]) (n:=200) ?_
  refine gE (Y:=T6_6 (fun a b=>some (.ret (F.tup [F.int .i64 a,F.int .i64 b]))) (fun l n i=>some (.cut (at_ Tryz.f6 6) (S6_6 l n i))) (fun l n i=>some (.cut (at_ Tryz.f6 13) (S6_13 l n i))) l n i) (by kernel_rfl) ?_
  exact (gS h (fun _ h=>(gS h (fun _ h=>(gS h (fun _ h=>(gS h (fun _ h=>(gS h (fun _ h=>gR (by cases h;rfl)) (fun _ h=>gC (t6_6 k _ _ _ a b h)))) gN)) gN)) gN)) (fun _ h=>gC (t6_13 k _ _ _ a b h)))
theorem t6_13:∀ (k:Nat) (l:List (List Pt)) (n:Int) (i:Int) (a:Int) (b:Int),L6_13 k l n i=some (a,b)→Ends Tryz.prog Tryz.f6.results.toList (at_ Tryz.f6 13) (S6_13 l n i) (F.tup [F.int .i64 a,F.int .i64 b])
 | 0,_,_,_,_,_,h=>nomatch h
 | k+1,l,n,i,a,b,h=>by
  refine Ends.of_cut tyOK envK8_ok (T:=[(6,[0,17,18,19],1000),(13,[0,32,33,34],1000)]) (n:=200) ?_
  refine gE (Y:=T6_13 (fun a b=>some (.ret (F.tup [F.int .i64 a,F.int .i64 b]))) (fun l n i=>some (.cut (at_ Tryz.f6 6) (S6_6 l n i))) (fun l n i=>some (.cut (at_ Tryz.f6 13) (S6_13 l n i))) l n i) (by kernel_rfl) ?_
  exact (gS h (fun _ h=>(gS h (fun _ h=>(gS h (fun _ h=>(gS h (fun _ h=>(gS h (fun _ h=>(gS h (fun _ h=>(gS h (fun _ h=>gR (by cases h;rfl)) (fun _ h=>gC (t6_13 k _ _ _ a b h)))) gN)) gN)) gN)) gN)) gN)) (fun _ h=>gR (by cases h;rfl)))
end
theorem t6 (k:Nat) (l:List (List Pt)) (a:Int) (b:Int) (h:G6 k l=some (a,b)):Ends Tryz.prog Tryz.f6.results.toList [.code (bodyOf Tryz.f6)] (start Tryz.f6.ntmps ([ringsF l].map .f)) (F.tup [F.int .i64 a,F.int .i64 b]):=by
 refine Ends.of_run tyOK envK8_ok (T:=[(6,[0,17,18,19],1000),(13,[0,32,33,34],1000)]) (n:=200) ?_
 refine gE (Y:=T6 (fun a b=>some (.ret (F.tup [F.int .i64 a,F.int .i64 b]))) (fun l n i=>some (.cut (at_ Tryz.f6 6) (S6_6 l n i))) (fun l n i=>some (.cut (at_ Tryz.f6 13) (S6_13 l n i))) l) (by kernel_rfl) ?_
 exact (gS h (fun _ h=>gR (by cases h;rfl)) (fun _ h=>(gS h (fun _ h=>(gS h (fun _ h=>gR (by cases h;rfl)) (fun _ h=>gC (t6_6 k _ _ _ a b h)))) gN)))
theorem il13_loop {l:List (List Pt)} (hn:l.length≤6) (hr:∀ r ∈ l,rightV r=true):∀ (d i k:Nat),i+d=l.length→d+1≤k→L6_13 k l l.length i=some (meetGo l d i)
 | d,i,0,_,hk=>by omega
 | 0,i,k+1,hi,hk=>by
  rw [L6_13]
  unfold T6_13
  rw [decide_eq_false (show ¬ (i:Int)<l.length by omega)]
  rfl
 | d+1,i,k+1,hi,hk=>by
  have ih:=il13_loop hn hr d (i+1) k (by omega) (by omega)
  have wi:IntKind.i64.wrap ((i:Int)+1)=((i+1:Nat):Int):=by rw [wrapI (by omega) (by omega)];omega
  obtain ⟨u1,u2⟩:=unRings_take l i (by omega)
  have ri:=hr _ (getD_in (d:=[]) (show i<l.length by omega))
  have hrs:isRights (l.take i)=true:=isRights_iff.2 ⟨fun p hp=>hr p (List.mem_of_mem_take hp),by rw [List.length_take];omega⟩
  have hh:(l.take i).any (ringsV (l.getD i []))=anyHit (l.getD i []) (l.take i):=rfl
  rw [L6_13]
  unfold T6_13
  simp only [decide_eq_true (show (i:Int)<l.length by omega),decide_eq_true (show (0:Int)≤i by omega),decide_eq_true (show (i:Int)≤l.length by omega),Int.toNat_natCast,Int.toNat_zero,Nat.sub_zero,Nat.zero_add,isPts_ptsF,unPts_ptsF,u1,u2,ri,hrs,hh,wi,ih,Bool.and_self,bsel_true,meetGo]
  cases anyHit (l.getD i []) (l.take i) <;> rfl
theorem il6_loop {l:List (List Pt)} (hn:l.length≤6) {R:Int × Int} {K:Nat} (hout:(∀ r ∈ l,rightV r=true)→∀ k,K≤k→L6_13 k l l.length 0=some R) :
  ∀ (d i k:Nat),i+d=l.length→d+1+K≤k→(∀ r ∈ l.take i,rightV r=true)→L6_6 k l l.length i=some (badGo (l.drop i) i R)
 | d,i,0,_,hk,_=>by omega
 | 0,i,k+1,hi,hk,ht=>by
  rw [List.take_of_length_le (by omega)] at ht
  rw [L6_6]
  unfold T6_6
  rw [decide_eq_false (show ¬ (i:Int)<l.length by omega),bsel_false,hout ht k (by omega),List.drop_eq_nil_of_le (by omega)]
  rfl
 | d+1,i,k+1,hi,hk,ht=>by
  have hlt:i<l.length:=by omega
  have hg:l.getD i []=l[i]:=by simp [List.getD,List.getElem?_eq_getElem hlt]
  have wi:IntKind.i64.wrap ((i:Int)+1)=((i+1:Nat):Int):=by rw [wrapI (by omega) (by omega)];omega
  rw [L6_6]
  unfold T6_6
  rw [decide_eq_true (show (i:Int)<l.length by omega),decide_eq_true (show (0:Int)≤i by omega),Int.toNat_natCast,hg,wi,unRing_agg,isRing_agg,List.drop_eq_getElem_cons hlt,badGo]
  simp only [bsel_true]
  cases hf:(fault3V l[i] != 0) with
  | true=>rfl
  | false =>
   have hrr:rightV l[i]=true:=by
    unfold rightV
    rw [bne,Bool.not_eq_false'] at hf
    exact hf
   rw [bsel_false,cond_false,il6_loop hn hout d (i+1) k (by omega) (by omega) fun p hp=>by
    rw [List.take_succ_eq_append_getElem hlt,List.mem_append] at hp
    rcases hp with hp | hp
    ·exact ht p hp
    ·simp at hp;subst hp;exact hrr]
theorem layerI_law (l:List (List Pt)):G6 200 l=some (layerP l):=by
 unfold G6 T6 layerP
 by_cases h:l.length > 6
 ·rw [decide_eq_true (show (l.length:Int) > 6 by omega),decide_eq_true h];rfl
 ·rw [decide_eq_false (show ¬ (l.length:Int) > 6 by omega),decide_eq_false h,isRings_ringsF,unRings_ringsF,show isFew l=true from decide_eq_true (by omega)]
  simp only [Bool.and_self,bsel_true,bsel_false,cond_false]
  cases decide (spotsV l > 20) with
  | true=>rfl
  | false=>exact il6_loop (by omega) (R:=meetGo l l.length 0) (K:=80) (fun hr k hk=>il13_loop (by omega) hr l.length 0 k (by omega) (by omega)) l.length 0 200 (by omega) (by omega) (by simp)
theorem okLayerI:PureOK Tryz.prog 6 preLayer resLayer :=
 fn_pure_at (c:=bodyOf Tryz.f6) Tryz.func6 (by kernel_rfl) (by kernel_rfl) fun xs hp=>match xs,hp with
 | [x],hp=>⟨[ringsF (unRings x)],_,⟨(rings_eqv hp).1,trivial⟩,t6 200 _ _ _ (layerI_law _),.refl _⟩
def envK9:Env:=envK8.add 6 (.pure preLayer resLayer)
theorem envK9_ok:EnvOK Tryz.prog envK9:=(Env.add_ok envK8_ok okLayerI.sp)
end
noncomputable section
def layerV (l:List (List Pt)):Bool:=(layerP l).1==0
def resLayerOk:List F→F | [x]=>.bool (layerV (unRings x)) | _=>.dflt
/-! ### function 23 -/
def T23 {ρ:Type} (ret:KJ87 ρ) (l:List (List Pt)):Option ρ :=
 (bsel (isRings (ringsF l))
 (ret ((layerP (unRings (ringsF l))).fst==0))
 none)
def G23 (l:List (List Pt)):Option (Bool):=T23 some l
theorem t23 (l:List (List Pt)) (b:Bool) (h:G23 l=some b):Ends Tryz.prog Tryz.f23.results.toList [.code (bodyOf Tryz.f23)] (start Tryz.f23.ntmps ([ringsF l].map .f)) (F.bool b):=by
 refine Ends.of_run tyOK envK9_ok (T:=[]) (n:=200) ?_
 refine gE (Y:=T23 (fun b=>some (.ret (F.bool b))) l) (by kernel_rfl) ?_
 exact (gS h (fun _ h=>gR (by cases h;rfl)) gN)
theorem okLayerOkI:PureOK Tryz.prog 23 preLayer resLayerOk :=
 fn_pure_at (c:=bodyOf Tryz.f23) Tryz.func23 (by kernel_rfl) (by kernel_rfl) fun xs hp=>match xs,hp with
 | [x],hp=>⟨[ringsF (unRings x)],_,⟨(rings_eqv hp).1,trivial⟩,t23 (unRings x) (layerV (unRings x)) (by unfold G23 T23;rw [isRings_ringsF,unRings_ringsF];rfl),.refl _⟩
def envK10:Env:=envK9.add 23 (.pure preLayer resLayerOk)
theorem envK10_ok:EnvOK Tryz.prog envK10:=(Env.add_ok envK9_ok okLayerOkI.sp)
end
noncomputable section
set_option maxHeartbeats 1000000
/-! ### function 84 -/
def T84 {ρ:Type} (ret:KJ86 ρ) (a0:Int) (a1:Int) (a2:Int) (a3:Int) (a4:Int) (a5:Int) (a6:Int) (a7:Int) (a8:Int) (a9:Int) (a10:Int) (a11:Int) (b0:Int) (b1:Int) (b2:Int) (b3:Int) (b4:Int) (b5:Int) (b6:Int) (b7:Int) (b8:Int) (b9:Int) (b10:Int) (b11:Int) (c0:Int) (c1:Int) (c2:Int) (c3:Int) (c4:Int) (c5:Int) (c6:Int) (c7:Int) (c8:Int) (c9:Int) (c10:Int) (c11:Int):Option ρ :=
 (bsel (isPw a0 a1 a2 a3 a4 a5 a6 a7 a8 a9 a10 a11)
 (bsel (isPw b0 b1 b2 b3 b4 b5 b6 b7 b8 b9 b10 b11)
 (bsel (isPw c0 c1 c2 c3 c4 c5 c6 c7 c8 c9 c10 c11)
 (bsel (isNum 400 (numF (wdsS b4 b5 b6 b7))&&isNum 400 (numF (wdsS c8 c9 c10 c11)))
 (bsel (isNum 400 (numF (wdsS c4 c5 c6 c7))&&isNum 400 (numF (wdsS b8 b9 b10 b11)))
 (bsel (isNum 400 (resBy [numF (wdsS b4 b5 b6 b7),numF (wdsS c8 c9 c10 c11)])&&isNum 400 (resBy [numF (wdsS c4 c5 c6 c7),numF (wdsS b8 b9 b10 b11)]))
 (bsel (isNum 400 (resLess2 [resBy [numF (wdsS b4 b5 b6 b7),numF (wdsS c8 c9 c10 c11)],resBy [numF (wdsS c4 c5 c6 c7),numF (wdsS b8 b9 b10 b11)]])&&isNum 400 (numF (wdsS a0 a1 a2 a3)))
 (bsel (isNum 400 (numF (wdsS b8 b9 b10 b11))&&isNum 400 (numF (wdsS c0 c1 c2 c3)))
 (bsel (isNum 400 (numF (wdsS c8 c9 c10 c11))&&isNum 400 (numF (wdsS b0 b1 b2 b3)))
 (bsel (isNum 400 (resBy [numF (wdsS b8 b9 b10 b11),numF (wdsS c0 c1 c2 c3)])&&isNum 400 (resBy [numF (wdsS c8 c9 c10 c11),numF (wdsS b0 b1 b2 b3)]))
 (bsel (isNum 400 (resLess2 [resBy [numF (wdsS b8 b9 b10 b11),numF (wdsS c0 c1 c2 c3)],resBy [numF (wdsS c8 c9 c10 c11),numF (wdsS b0 b1 b2 b3)]])&&isNum 400 (numF (wdsS a4 a5 a6 a7)))
 (bsel (isNum 400 (numF (wdsS b0 b1 b2 b3))&&isNum 400 (numF (wdsS c4 c5 c6 c7)))
 (bsel (isNum 400 (numF (wdsS c0 c1 c2 c3))&&isNum 400 (numF (wdsS b4 b5 b6 b7)))
 (bsel (isNum 400 (resBy [numF (wdsS b0 b1 b2 b3),numF (wdsS c4 c5 c6 c7)])&&isNum 400 (resBy [numF (wdsS c0 c1 c2 c3),numF (wdsS b4 b5 b6 b7)]))
 (bsel (isNum 400 (resLess2 [resBy [numF (wdsS b0 b1 b2 b3),numF (wdsS c4 c5 c6 c7)],resBy [numF (wdsS c0 c1 c2 c3),numF (wdsS b4 b5 b6 b7)]])&&isNum 400 (numF (wdsS a8 a9 a10 a11)))
 (bsel (isNum 400 (numF (unNum (resLess2 [resBy [numF (wdsS b4 b5 b6 b7),numF (wdsS c8 c9 c10 c11)],resBy [numF (wdsS c4 c5 c6 c7),numF (wdsS b8 b9 b10 b11)]])*unNum (numF (wdsS a0 a1 a2 a3))))&&isNum 400 (numF (unNum (resLess2 [resBy [numF (wdsS b8 b9 b10 b11),numF (wdsS c0 c1 c2 c3)],resBy [numF (wdsS c8 c9 c10 c11),numF (wdsS b0 b1 b2 b3)]])*unNum (numF (wdsS a4 a5 a6 a7)))))
 (bsel (isNum 400 (resPlus [numF (unNum (resLess2 [resBy [numF (wdsS b4 b5 b6 b7),numF (wdsS c8 c9 c10 c11)],resBy [numF (wdsS c4 c5 c6 c7),numF (wdsS b8 b9 b10 b11)]])*unNum (numF (wdsS a0 a1 a2 a3))),numF (unNum (resLess2 [resBy [numF (wdsS b8 b9 b10 b11),numF (wdsS c0 c1 c2 c3)],resBy [numF (wdsS c8 c9 c10 c11),numF (wdsS b0 b1 b2 b3)]])*unNum (numF (wdsS a4 a5 a6 a7)))])&&isNum 400 (numF (unNum (resLess2 [resBy [numF (wdsS b0 b1 b2 b3),numF (wdsS c4 c5 c6 c7)],resBy [numF (wdsS c0 c1 c2 c3),numF (wdsS b4 b5 b6 b7)]])*unNum (numF (wdsS a8 a9 a10 a11)))))
 (bsel (isNum 400 (resPlus [resPlus [numF (unNum (resLess2 [resBy [numF (wdsS b4 b5 b6 b7),numF (wdsS c8 c9 c10 c11)],resBy [numF (wdsS c4 c5 c6 c7),numF (wdsS b8 b9 b10 b11)]])*unNum (numF (wdsS a0 a1 a2 a3))),numF (unNum (resLess2 [resBy [numF (wdsS b8 b9 b10 b11),numF (wdsS c0 c1 c2 c3)],resBy [numF (wdsS c8 c9 c10 c11),numF (wdsS b0 b1 b2 b3)]])*unNum (numF (wdsS a4 a5 a6 a7)))],numF (unNum (resLess2 [resBy [numF (wdsS b0 b1 b2 b3),numF (wdsS c4 c5 c6 c7)],resBy [numF (wdsS c0 c1 c2 c3),numF (wdsS b4 b5 b6 b7)]])*unNum (numF (wdsS a8 a9 a10 a11)))]))
 (ret ((unNum (resPlus [resPlus [numF (unNum (resLess2 [resBy [numF (wdsS b4 b5 b6 b7),numF (wdsS c8 c9 c10 c11)],resBy [numF (wdsS c4 c5 c6 c7),numF (wdsS b8 b9 b10 b11)]])*unNum (numF (wdsS a0 a1 a2 a3))),numF (unNum (resLess2 [resBy [numF (wdsS b8 b9 b10 b11),numF (wdsS c0 c1 c2 c3)],resBy [numF (wdsS c8 c9 c10 c11),numF (wdsS b0 b1 b2 b3)]])*unNum (numF (wdsS a4 a5 a6 a7)))],numF (unNum (resLess2 [resBy [numF (wdsS b0 b1 b2 b3),numF (wdsS c4 c5 c6 c7)],resBy [numF (wdsS c0 c1 c2 c3),numF (wdsS b4 b5 b6 b7)]])*unNum (numF (wdsS a8 a9 a10 a11)))])).sign))
 none)
 none)
 none)
 none)
 none)
 none)
 none)
 none)
 none)
 none)
 none)
 none)
 none)
 none)
 none)
 none)
 none)
 none)
def G84 (a0:Int) (a1:Int) (a2:Int) (a3:Int) (a4:Int) (a5:Int) (a6:Int) (a7:Int) (a8:Int) (a9:Int) (a10:Int) (a11:Int) (b0:Int) (b1:Int) (b2:Int) (b3:Int) (b4:Int) (b5:Int) (b6:Int) (b7:Int) (b8:Int) (b9:Int) (b10:Int) (b11:Int) (c0:Int) (c1:Int) (c2:Int) (c3:Int) (c4:Int) (c5:Int) (c6:Int) (c7:Int) (c8:Int) (c9:Int) (c10:Int) (c11:Int):Option (Int):=T84 some a0 a1 a2 a3 a4 a5 a6 a7 a8 a9 a10 a11 b0 b1 b2 b3 b4 b5 b6 b7 b8 b9 b10 b11 c0 c1 c2 c3 c4 c5 c6 c7 c8 c9 c10 c11
theorem t84 (a0:Int) (a1:Int) (a2:Int) (a3:Int) (a4:Int) (a5:Int) (a6:Int) (a7:Int) (a8:Int) (a9:Int) (a10:Int) (a11:Int) (b0:Int) (b1:Int) (b2:Int) (b3:Int) (b4:Int) (b5:Int) (b6:Int) (b7:Int) (b8:Int) (b9:Int) (b10:Int) (b11:Int) (c0:Int) (c1:Int) (c2:Int) (c3:Int) (c4:Int) (c5:Int) (c6:Int) (c7:Int) (c8:Int) (c9:Int) (c10:Int) (c11:Int) (r:Int) (h:G84 a0 a1 a2 a3 a4 a5 a6 a7 a8 a9 a10 a11 b0 b1 b2 b3 b4 b5 b6 b7 b8 b9 b10 b11 c0 c1 c2 c3 c4 c5 c6 c7 c8 c9 c10 c11=some r):Ends Tryz.prog Tryz.f84.results.toList [.code (bodyOf Tryz.f84)] (start Tryz.f84.ntmps ([F.agg [F.int .u64 a0,F.int .u64 a1,F.int .u64 a2,F.int .u64 a3,F.int .u64 a4,F.int .u64 a5,F.int .u64 a6,F.int .u64 a7,F.int .u64 a8,F.int .u64 a9,F.int .u64 a10,F.int .u64 a11],F.agg [F.int .u64 b0,F.int .u64 b1,F.int .u64 b2,F.int .u64 b3,F.int .u64 b4,F.int .u64 b5,F.int .u64 b6,F.int .u64 b7,F.int .u64 b8,F.int .u64 b9,F.int .u64 b10,F.int .u64 b11],F.agg [F.int .u64 c0,F.int .u64 c1,F.int .u64 c2,F.int .u64 c3,F.int .u64 c4,F.int .u64 c5,F.int .u64 c6,F.int .u64 c7,F.int .u64 c8,F.int .u64 c9,F.int .u64 c10,F.int .u64 c11]].map .f)) (F.int .i64 r):=by
 refine Ends.of_run tyOK envK10_ok (T:=[]) (n:=200) ?_
 refine gE (Y:=T84 (fun r=>some (.ret (F.int .i64 r))) a0 a1 a2 a3 a4 a5 a6 a7 a8 a9 a10 a11 b0 b1 b2 b3 b4 b5 b6 b7 b8 b9 b10 b11 c0 c1 c2 c3 c4 c5 c6 c7 c8 c9 c10 c11) (by kernel_rfl) ?_
 exact (gS h (fun _ h=>(gS h (fun _ h=>(gS h (fun _ h=>(gS h (fun _ h=>(gS h (fun _ h=>(gS h (fun _ h=>(gS h (fun _ h=>(gS h (fun _ h=>(gS h (fun _ h=>(gS h (fun _ h=>(gS h (fun _ h=>(gS h (fun _ h=>(gS h (fun _ h=>(gS h (fun _ h=>(gS h (fun _ h=>(gS h (fun _ h=>(gS h (fun _ h=>(gS h (fun _ h=>gR (by cases h;rfl)) gN)) gN)) gN)) gN)) gN)) gN)) gN)) gN)) gN)) gN)) gN)) gN)) gN)) gN)) gN)) gN)) gN)) gN)
def detZ (x1 y1 w1 x2 y2 w2 x3 y3 w3:Int):Int:=(y2*w3-y3*w2)*x1+(w2*x3-w3*x2)*y1+(x2*y3-x3*y2)*w1
theorem add_bound2 {x y:Int} {n m:Nat} (hx:x.natAbs<18446744073709551616 ^ n) (hy:y.natAbs<18446744073709551616 ^ m):(x+y).natAbs<18446744073709551616 ^ (n+m+1):=by
 have:=sub_bound2 hx (show (-y).natAbs<18446744073709551616 ^ m by rw [Int.natAbs_neg];exact hy)
 rwa [Int.sub_neg] at this
theorem turn_law {a0 a1 a2 a3 a4 a5 a6 a7 a8 a9 a10 a11 b0 b1 b2 b3 b4 b5 b6 b7 b8 b9 b10 b11 c0 c1 c2 c3 c4 c5 c6 c7 c8 c9 c10 c11:Int} (ha:isPw a0 a1 a2 a3 a4 a5 a6 a7 a8 a9 a10 a11=true) (hb:isPw b0 b1 b2 b3 b4 b5 b6 b7 b8 b9 b10 b11=true) (hc:isPw c0 c1 c2 c3 c4 c5 c6 c7 c8 c9 c10 c11=true) :
  G84 a0 a1 a2 a3 a4 a5 a6 a7 a8 a9 a10 a11 b0 b1 b2 b3 b4 b5 b6 b7 b8 b9 b10 b11 c0 c1 c2 c3 c4 c5 c6 c7 c8 c9 c10 c11=some (detZ (wdsS a0 a1 a2 a3) (wdsS a4 a5 a6 a7) (wdsS a8 a9 a10 a11) (wdsS b0 b1 b2 b3) (wdsS b4 b5 b6 b7) (wdsS b8 b9 b10 b11) (wdsS c0 c1 c2 c3) (wdsS c4 c5 c6 c7) (wdsS c8 c9 c10 c11)).sign:=by
 obtain ⟨x1,x2,x3⟩:=pw_bounds ha
 obtain ⟨y1,y2,y3⟩:=pw_bounds hb
 obtain ⟨z1,z2,z3⟩:=pw_bounds hc
 unfold G84 T84
 generalize wdsS a0 a1 a2 a3=ax at *
 generalize wdsS a4 a5 a6 a7=ay at *
 generalize wdsS a8 a9 a10 a11=aw at *
 generalize wdsS b0 b1 b2 b3=bx at *
 generalize wdsS b4 b5 b6 b7=by' at *
 generalize wdsS b8 b9 b10 b11=bw at *
 generalize wdsS c0 c1 c2 c3=cx at *
 generalize wdsS c4 c5 c6 c7=cy at *
 generalize wdsS c8 c9 c10 c11=cw at *
 have m1:=mul_bound y2 z3
 have m2:=mul_bound z2 y3
 have m3:=mul_bound y3 z1
 have m4:=mul_bound z3 y1
 have m5:=mul_bound y1 z2
 have m6:=mul_bound z1 y2
 have s1:=sub_bound2 m1 m2
 have s2:=sub_bound2 m3 m4
 have s3:=sub_bound2 m5 m6
 have p1:=mul_bound s1 x1
 have p2:=mul_bound s2 x2
 have p3:=mul_bound s3 x3
 have q1:=add_bound2 p1 p2
 have q2:=add_bound2 q1 p3
 have n:∀ {z:Int} {k:Nat},z.natAbs<18446744073709551616 ^ k→k≤400→isNum 400 (numF z)=true:=fun h hk=>num_ok h hk
 simp only [ha,hb,hc,resBy_num,resLess_num,resPlus_num,unNum_numF,n x1 (by omega),n x2 (by omega),n x3 (by omega),n y1 (by omega),n y2 (by omega),n y3 (by omega),n z1 (by omega),n z2 (by omega),n z3 (by omega),n m1 (by omega),n m2 (by omega),n m3 (by omega),n m4 (by omega),n m5 (by omega),n m6 (by omega),n s1 (by omega),n s2 (by omega),n s3 (by omega),n p1 (by omega),n p2 (by omega),n p3 (by omega),n q1 (by omega),n q2 (by omega),Bool.and_self,bsel_true]
 rfl
def preTurn3:List F→Bool | [.agg [.int .u64 a0,.int .u64 a1,.int .u64 a2,.int .u64 a3,.int .u64 a4,.int .u64 a5,.int .u64 a6,.int .u64 a7,.int .u64 a8,.int .u64 a9,.int .u64 a10,.int .u64 a11],.agg [.int .u64 b0,.int .u64 b1,.int .u64 b2,.int .u64 b3,.int .u64 b4,.int .u64 b5,.int .u64 b6,.int .u64 b7,.int .u64 b8,.int .u64 b9,.int .u64 b10,.int .u64 b11],.agg [.int .u64 c0,.int .u64 c1,.int .u64 c2,.int .u64 c3,.int .u64 c4,.int .u64 c5,.int .u64 c6,.int .u64 c7,.int .u64 c8,.int .u64 c9,.int .u64 c10,.int .u64 c11]]=>isPw a0 a1 a2 a3 a4 a5 a6 a7 a8 a9 a10 a11&&isPw b0 b1 b2 b3 b4 b5 b6 b7 b8 b9 b10 b11&&isPw c0 c1 c2 c3 c4 c5 c6 c7 c8 c9 c10 c11 | _=>false
def resTurn3:List F→F | [.agg [.int .u64 a0,.int .u64 a1,.int .u64 a2,.int .u64 a3,.int .u64 a4,.int .u64 a5,.int .u64 a6,.int .u64 a7,.int .u64 a8,.int .u64 a9,.int .u64 a10,.int .u64 a11],.agg [.int .u64 b0,.int .u64 b1,.int .u64 b2,.int .u64 b3,.int .u64 b4,.int .u64 b5,.int .u64 b6,.int .u64 b7,.int .u64 b8,.int .u64 b9,.int .u64 b10,.int .u64 b11],.agg [.int .u64 c0,.int .u64 c1,.int .u64 c2,.int .u64 c3,.int .u64 c4,.int .u64 c5,.int .u64 c6,.int .u64 c7,.int .u64 c8,.int .u64 c9,.int .u64 c10,.int .u64 c11]]=>.int .i64 (detZ (wdsS a0 a1 a2 a3) (wdsS a4 a5 a6 a7) (wdsS a8 a9 a10 a11) (wdsS b0 b1 b2 b3) (wdsS b4 b5 b6 b7) (wdsS b8 b9 b10 b11) (wdsS c0 c1 c2 c3) (wdsS c4 c5 c6 c7) (wdsS c8 c9 c10 c11)).sign | _=>.dflt
theorem okTurn3:PureOK Tryz.prog 84 preTurn3 resTurn3 :=
 fn_pure (c:=bodyOf Tryz.f84) Tryz.func84 (by kernel_rfl) (by kernel_rfl) fun xs hp=>match xs,hp with
 | [.agg [.int .u64 a0,.int .u64 a1,.int .u64 a2,.int .u64 a3,.int .u64 a4,.int .u64 a5,.int .u64 a6,.int .u64 a7,.int .u64 a8,.int .u64 a9,.int .u64 a10,.int .u64 a11],.agg [.int .u64 b0,.int .u64 b1,.int .u64 b2,.int .u64 b3,.int .u64 b4,.int .u64 b5,.int .u64 b6,.int .u64 b7,.int .u64 b8,.int .u64 b9,.int .u64 b10,.int .u64 b11],.agg [.int .u64 c0,.int .u64 c1,.int .u64 c2,.int .u64 c3,.int .u64 c4,.int .u64 c5,.int .u64 c6,.int .u64 c7,.int .u64 c8,.int .u64 c9,.int .u64 c10,.int .u64 c11]],hp=>by
  simp only [preTurn3,Bool.and_eq_true] at hp
  exact t84 a0 a1 a2 a3 a4 a5 a6 a7 a8 a9 a10 a11 b0 b1 b2 b3 b4 b5 b6 b7 b8 b9 b10 b11 c0 c1 c2 c3 c4 c5 c6 c7 c8 c9 c10 c11 _ (turn_law hp.1.1 hp.1.2 hp.2)
def envA1:Env:=envK10.add 84 (.pure preTurn3 resTurn3)
theorem envA1_ok:EnvOK Tryz.prog envA1:=(Env.add_ok envK10_ok okTurn3.sp)
end
/-! A segment's ends lie on one side of another one's line, or the other way round, or all four on one line. -/
def apartH (px py qx qy ux uy vx vy:Int):Prop :=
 (0<crossZ px py qx qy ux uy∧0<crossZ px py qx qy vx vy) ∨ (crossZ px py qx qy ux uy<0∧crossZ px py qx qy vx vy<0) ∨
 (0<crossZ ux uy vx vy px py∧0<crossZ ux uy vx vy qx qy) ∨ (crossZ ux uy vx vy px py<0∧crossZ ux uy vx vy qx qy<0) ∨
 (crossZ px py qx qy ux uy=0∧crossZ px py qx qy vx vy=0∧crossZ ux uy vx vy px py=0∧crossZ ux uy vx vy qx qy=0)
theorem cross_flip (px py qx qy ux uy:Int):crossZ qx qy px py ux uy =-crossZ px py qx qy ux uy:=by unfold crossZ;grind
theorem apartH_flip1 {px py qx qy ux uy vx vy:Int} (h:apartH px py qx qy ux uy vx vy):apartH qx qy px py ux uy vx vy:=by
 unfold apartH at *
 rw [cross_flip px py qx qy ux uy,cross_flip px py qx qy vx vy]
 omega
theorem apartH_flip2 {px py qx qy ux uy vx vy:Int} (h:apartH px py qx qy ux uy vx vy):apartH px py qx qy vx vy ux uy:=by
 unfold apartH at *
 rw [cross_flip ux uy vx vy px py,cross_flip ux uy vx vy qx qy]
 omega
def cutB (ux uy vx vy px py:Int):Bool:=bif (decide (uy > py))==(decide (vy > py)) then false else bif decide (uy > py) then decide (0<crossZ vx vy ux uy px py) else decide (0<crossZ ux uy vx vy px py)
def sideB (px py qx qy wx wy:Int):Bool:=decide (py<wy)&&decide (wy≤qy)&&decide (crossZ px py qx qy wx wy<0)
theorem mul_pos_add {a b c d:Int} (ha:0<a) (hb:0≤b) (hc:0<c) (hd:0<d):0<a*c+b*d:=by
 have h1:=Int.mul_pos ha hc
 have h2:=Int.mul_nonneg hb (Int.le_of_lt hd)
 omega
theorem mul_neg_add {a b c d:Int} (ha:0<a) (hb:0≤b) (hc:c<0) (hd:d<0):a*c+b*d<0:=by
 have h1:=Int.mul_neg_of_pos_of_neg ha hc
 have h2:=Int.mul_nonpos_of_nonneg_of_nonpos hb (Int.le_of_lt hd)
 omega
theorem sign_of_mul {m x y:Int} (hm:0<m) (e:m*x=y):(0<y→0<x)∧(y<0→x<0)∧(y=0→x=0):=by
 refine ⟨fun h=>?_,fun h=>?_,fun h=>?_⟩
 ·rcases Int.lt_or_le 0 x with h1 | h1
  ·exact h1
  ·have:=Int.mul_nonpos_of_nonneg_of_nonpos (Int.le_of_lt hm) h1;omega
 ·rcases Int.lt_or_le x 0 with h1 | h1
  ·exact h1
  ·have:=Int.mul_nonneg (Int.le_of_lt hm) h1;omega
 ·subst h
  rcases Int.mul_eq_zero.1 e with h | h
  ·omega
  ·exact h
theorem cut_low {lx ly tx ty px py qx qy:Int} (hpq:py≤qy) (hl:ly<ty) (hs:(0<crossZ lx ly tx ty px py∧0<crossZ lx ly tx ty qx qy) ∨ (crossZ lx ly tx ty px py<0∧crossZ lx ly tx ty qx qy<0)) :
  (sideB px py qx qy lx ly=(decide (py<ly)&&decide (ly≤qy)&&decide (0<crossZ lx ly tx ty px py)))∧(sideB px py qx qy tx ty=(decide (py<ty)&&decide (ty≤qy)&&decide (0<crossZ lx ly tx ty px py))):=by
 have e1:(ty-ly)*crossZ px py qx qy lx ly = -((ly-py)*crossZ lx ly tx ty qx qy+(qy-ly)*crossZ lx ly tx ty px py):=by unfold crossZ;grind
 have e2:(ty-ly)*crossZ px py qx qy tx ty = -((ty-py)*crossZ lx ly tx ty qx qy+(qy-ty)*crossZ lx ly tx ty px py):=by unfold crossZ;grind
 have hd:0<ty-ly:=by omega
 unfold sideB
 constructor
 ·by_cases h1:py<ly
  ·by_cases h2:ly≤qy
   ·rw [decide_eq_true h1,decide_eq_true h2,Bool.true_and]
    rcases hs with ⟨s1,s2⟩ | ⟨s1,s2⟩
    ·have:=mul_pos_add (a:=ly-py) (b:=qy-ly) (by omega) (by omega) s2 s1
     have:=(sign_of_mul hd e1).2.1 (by omega)
     rw [decide_eq_true this,decide_eq_true s1]
    ·have:=mul_neg_add (a:=ly-py) (b:=qy-ly) (by omega) (by omega) s2 s1
     have:=(sign_of_mul hd e1).1 (by omega)
     rw [decide_eq_false (by omega),decide_eq_false (by omega)]
   ·rw [decide_eq_false h2];simp
  ·rw [decide_eq_false h1];simp
 ·by_cases h1:py<ty
  ·by_cases h2:ty≤qy
   ·rw [decide_eq_true h1,decide_eq_true h2,Bool.true_and]
    rcases hs with ⟨s1,s2⟩ | ⟨s1,s2⟩
    ·have:=mul_pos_add (a:=ty-py) (b:=qy-ty) (by omega) (by omega) s2 s1
     have:=(sign_of_mul hd e2).2.1 (by omega)
     rw [decide_eq_true this,decide_eq_true s1]
    ·have:=mul_neg_add (a:=ty-py) (b:=qy-ty) (by omega) (by omega) s2 s1
     have:=(sign_of_mul hd e2).1 (by omega)
     rw [decide_eq_false (by omega),decide_eq_false (by omega)]
   ·rw [decide_eq_false h2];simp
  ·rw [decide_eq_false h1];simp
theorem cut_up {lx ly tx ty px py:Int} (hl:ly<ty):cutB lx ly tx ty px py=(decide (ly≤py)&&decide (py<ty)&&decide (0<crossZ lx ly tx ty px py)):=by
 unfold cutB
 have e1:decide (ty > py)=decide (py<ty):=rfl
 rw [e1]
 by_cases h1:ly > py
 ·rw [decide_eq_true h1,decide_eq_true (show py<ty by omega),decide_eq_false (show ¬ ly≤py by omega)];rfl
 ·by_cases h2:py<ty
  ·rw [decide_eq_false h1,decide_eq_true h2,decide_eq_true (show ly≤py by omega)];rfl
  ·rw [decide_eq_false h1,decide_eq_false h2];simp
theorem cut_flat {ux uy vx vy px py:Int} (h:uy=vy):cutB ux uy vx vy px py=false:=by subst h;unfold cutB;simp
theorem cut_comm (ux uy vx vy px py:Int):cutB ux uy vx vy px py=cutB vx vy ux uy px py:=by
 unfold cutB
 cases decide (uy > py) <;> cases decide (vy > py) <;> rfl
theorem xor_low {py qy ly ty:Int} (D:Bool) (hpq:py≤qy) (hl:ly<ty):(decide (ly≤py)&&decide (py<ty)&&D).xor (decide (ly≤qy)&&decide (qy<ty)&&D)=(decide (py<ly)&&decide (ly≤qy)&&D).xor (decide (py<ty)&&decide (ty≤qy)&&D):=by
 have a1:decide (py<ly) = !decide (ly≤py):=by rw [← decide_not];exact decide_eq_decide.2 (by omega)
 have a2:decide (ty≤qy) = !decide (qy<ty):=by rw [← decide_not];exact decide_eq_decide.2 (by omega)
 rw [a1,a2]
 by_cases c1:ly≤py <;> by_cases c2:py<ty <;> by_cases c3:ly≤qy <;> by_cases c4:qy<ty <;> first
  | (exfalso;omega)
  | (simp only [c1,c2,c3,c4,decide_true,decide_false];cases D <;> rfl)
theorem cut_mid {lx ly tx ty px py qx qy:Int} (hpq:py<qy) (hl:ly<ty) (hs:(0<crossZ px py qx qy lx ly∧0<crossZ px py qx qy tx ty) ∨ (crossZ px py qx qy lx ly<0∧crossZ px py qx qy tx ty<0)) :
  (cutB lx ly tx ty px py=(decide (ly≤py)&&decide (py<ty)&&decide (crossZ px py qx qy lx ly<0)))∧(cutB lx ly tx ty qx qy=(decide (ly≤qy)&&decide (qy<ty)&&decide (crossZ px py qx qy lx ly<0))):=by
 have e1:(qy-py)*crossZ lx ly tx ty px py = -((ty-py)*crossZ px py qx qy lx ly+(py-ly)*crossZ px py qx qy tx ty):=by unfold crossZ;grind
 have e2:(qy-py)*crossZ lx ly tx ty qx qy = -((ty-qy)*crossZ px py qx qy lx ly+(qy-ly)*crossZ px py qx qy tx ty):=by unfold crossZ;grind
 have hd:0<qy-py:=by omega
 rw [cut_up hl,cut_up hl]
 constructor
 ·by_cases h1:ly≤py
  ·by_cases h2:py<ty
   ·rw [decide_eq_true h1,decide_eq_true h2,Bool.true_and]
    rcases hs with ⟨s1,s2⟩ | ⟨s1,s2⟩
    ·have:=mul_pos_add (a:=ty-py) (b:=py-ly) (by omega) (by omega) s1 s2
     have:=(sign_of_mul hd e1).2.1 (by omega)
     rw [decide_eq_false (by omega),decide_eq_false (by omega)]
    ·have:=mul_neg_add (a:=ty-py) (b:=py-ly) (by omega) (by omega) s1 s2
     have:=(sign_of_mul hd e1).1 (by omega)
     rw [decide_eq_true this,decide_eq_true s1]
   ·rw [decide_eq_false h2];simp
  ·rw [decide_eq_false h1];simp
 ·by_cases h1:ly≤qy
  ·by_cases h2:qy<ty
   ·rw [decide_eq_true h1,decide_eq_true h2,Bool.true_and]
    rcases hs with ⟨s1,s2⟩ | ⟨s1,s2⟩
    ·have:=mul_pos_add (a:=ty-qy) (b:=qy-ly) (by omega) (by omega) s1 s2
     have:=(sign_of_mul hd e2).2.1 (by omega)
     rw [decide_eq_false (by omega),decide_eq_false (by omega)]
    ·have:=mul_neg_add (a:=ty-qy) (b:=qy-ly) (by omega) (by omega) s1 s2
     have:=(sign_of_mul hd e2).1 (by omega)
     rw [decide_eq_true this,decide_eq_true s1]
   ·rw [decide_eq_false h2];simp
  ·rw [decide_eq_false h1];simp
theorem edge_rise {lx ly tx ty px py qx qy:Int} (hpq:py≤qy) (hl:ly<ty) (h:apartH px py qx qy lx ly tx ty) :
  (cutB lx ly tx ty px py).xor (cutB lx ly tx ty qx qy)=(sideB px py qx qy lx ly).xor (sideB px py qx qy tx ty):=by
 have line:((0<crossZ lx ly tx ty px py∧0<crossZ lx ly tx ty qx qy) ∨ (crossZ lx ly tx ty px py<0∧crossZ lx ly tx ty qx qy<0))→(cutB lx ly tx ty px py).xor (cutB lx ly tx ty qx qy)=(sideB px py qx qy lx ly).xor (sideB px py qx qy tx ty):=fun h=>by
  obtain ⟨k1,k2⟩:=cut_low hpq hl h
  have s1:decide (0<crossZ lx ly tx ty qx qy)=decide (0<crossZ lx ly tx ty px py):=decide_eq_decide.2 (by omega)
  rw [k1,k2,cut_up hl,cut_up hl,s1]
  exact xor_low _ hpq hl
 have pq:((0<crossZ px py qx qy lx ly∧0<crossZ px py qx qy tx ty) ∨ (crossZ px py qx qy lx ly<0∧crossZ px py qx qy tx ty<0))→(cutB lx ly tx ty px py).xor (cutB lx ly tx ty qx qy)=(sideB px py qx qy lx ly).xor (sideB px py qx qy tx ty):=fun h=>by
  by_cases he:py<qy
  ·obtain ⟨k1,k2⟩:=cut_mid he hl h
   have s1:decide (crossZ px py qx qy tx ty<0)=decide (crossZ px py qx qy lx ly<0):=decide_eq_decide.2 (by omega)
   unfold sideB
   rw [k1,k2,s1]
   exact xor_low _ hpq hl
  ·obtain rfl:py=qy:=by omega
   have f1:crossZ px py qx py lx ly=(qx-px)*(ly-py):=by unfold crossZ;grind
   have f2:crossZ px py qx py tx ty=(qx-px)*(ty-py):=by unfold crossZ;grind
   have hno:¬ (ly≤py∧py<ty):=fun ⟨h1,h2⟩=>by
    rw [f1,f2] at h
    have z1:0≤ty-py:=by omega
    have z2:ly-py≤0:=by omega
    rcases Int.le_total 0 (qx-px) with h3 | h3
    ·have:=Int.mul_nonneg h3 z1
     have:=Int.mul_nonpos_of_nonneg_of_nonpos h3 z2
     omega
    ·have:=Int.mul_nonpos_of_nonpos_of_nonneg h3 z1
     have:=Int.mul_nonneg_of_nonpos_of_nonpos h3 z2
     omega
   have g1:(decide (ly≤py)&&decide (py<ty))=false:=by rw [← Bool.decide_and];exact decide_eq_false hno
   have g2:∀ z:Int,(decide (py<z)&&decide (z≤py))=false:=fun z=>by rw [← Bool.decide_and];exact decide_eq_false (by omega)
   unfold sideB
   rw [cut_up hl,cut_up hl,g1,g2,g2]
   rfl
 rcases h with h | h | h | h | ⟨h1,h2,h3,h4⟩
 ·exact pq (.inl h)
 ·exact pq (.inr h)
 ·exact line (.inl h)
 ·exact line (.inr h)
 ·unfold sideB
  rw [cut_up hl,cut_up hl,h1,h2,h3,h4]
  simp
theorem edge_flat {px py qx qy ux uy vx:Int} (hpq:py≤qy) (h:apartH px py qx qy ux uy vx uy):sideB px py qx qy ux uy=sideB px py qx qy vx uy:=by
 have f1:crossZ ux uy vx uy px py=(vx-ux)*(py-uy):=by unfold crossZ;grind
 have f2:crossZ ux uy vx uy qx qy=(vx-ux)*(qy-uy):=by unfold crossZ;grind
 unfold sideB
 by_cases h1:py<uy
 ·by_cases h2:uy≤qy
  ·rw [decide_eq_true h1,decide_eq_true h2]
   congr 1
   refine decide_eq_decide.2 ?_
   rw [apartH,f1,f2] at h
   have z1:py-uy≤0:=by omega
   have z2:0≤qy-uy:=by omega
   rcases Int.le_total 0 (vx-ux) with h3 | h3
   ·have:=Int.mul_nonneg h3 z2
    have:=Int.mul_nonpos_of_nonneg_of_nonpos h3 z1
    omega
   ·have:=Int.mul_nonpos_of_nonpos_of_nonneg h3 z2
    have:=Int.mul_nonneg_of_nonpos_of_nonpos h3 z1
    omega
  ·rw [decide_eq_false h2];simp
 ·rw [decide_eq_false h1];simp
theorem edge_any {ux uy vx vy px py qx qy:Int} (hpq:py≤qy) (h:apartH px py qx qy ux uy vx vy) :
  (cutB ux uy vx vy px py).xor (cutB ux uy vx vy qx qy)=(sideB px py qx qy ux uy).xor (sideB px py qx qy vx vy):=by
 rcases Int.lt_trichotomy uy vy with h1 | h1 | h1
 ·exact edge_rise hpq h1 h
 ·subst h1
  rw [cut_flat rfl,cut_flat rfl,edge_flat hpq h]
  simp
 ·have:=edge_rise hpq h1 (apartH_flip2 h)
  rw [cut_comm ux uy,cut_comm ux uy,this,Bool.xor_comm]
/-! Rings as rows of spots. -/
def xorUp (f:Nat→Bool):Nat→Bool
 | 0=>false
 | n+1=>(xorUp f n).xor (f n)
theorem xorUp_congr {f g:Nat→Bool}:∀ n,(∀ i,i<n→f i=g i)→xorUp f n=xorUp g n
 | 0,_=>rfl
 | n+1,h=>by rw [xorUp,xorUp,xorUp_congr n fun i hi=>h i (by omega),h n (by omega)]
theorem xorUp_xor (f g:Nat→Bool):∀ n,xorUp (fun i=>(f i).xor (g i)) n=(xorUp f n).xor (xorUp g n)
 | 0=>rfl
 | n+1=>by
  rw [xorUp,xorUp,xorUp,xorUp_xor f g n]
  cases xorUp f n <;> cases xorUp g n <;> cases f n <;> cases g n <;> rfl
theorem xorUp_head (f:Nat→Bool):∀ n,xorUp f (n+1)=(f 0).xor (xorUp (fun i=>f (i+1)) n)
 | 0=>by simp [xorUp]
 | n+1=>by rw [xorUp,xorUp_head f n,xorUp,Bool.xor_assoc]
theorem xorUp_next (f:Nat→Bool):∀ n,xorUp (fun i=>f ((i+1) % n)) n=xorUp f n
 | 0=>rfl
 | n+1=>by
  have e:xorUp (fun i=>f ((i+1) % (n+1))) n=xorUp (fun i=>f (i+1)) n:=xorUp_congr n fun i hi=>by rw [Nat.mod_eq_of_lt (show i+1<n+1 by omega)]
  rw [xorUp,e,xorUp_head f n,Nat.mod_self,Bool.xor_comm]
theorem xorUp_some {f:Nat→Bool}:∀ n,xorUp f n=true→∃ i,i<n∧f i=true
 | 0,h=>by cases h
 | n+1,h=>by
  cases hf:f n with
  | true=>exact ⟨n,by omega,hf⟩
  | false =>
   rw [xorUp,hf,Bool.xor_false] at h
   obtain ⟨i,hi,h⟩:=xorUp_some n h
   exact ⟨i,by omega,h⟩
def parF (X Y:Nat→Int) (n:Nat) (px py:Int):Bool:=xorUp (fun i=>cutB (X i) (Y i) (X ((i+1) % n)) (Y ((i+1) % n)) px py) n
theorem par_way1 {X Y:Nat→Int} {n:Nat} {px py qx qy:Int} (hpq:py≤qy) (h:∀ i,i<n→apartH px py qx qy (X i) (Y i) (X ((i+1) % n)) (Y ((i+1) % n))):parF X Y n px py=parF X Y n qx qy:=by
 have e:(parF X Y n px py).xor (parF X Y n qx qy)=false:=by
  unfold parF
  rw [← xorUp_xor,xorUp_congr n fun i hi=>edge_any hpq (h i hi),xorUp_xor,xorUp_next (fun i=>sideB px py qx qy (X i) (Y i)) n,Bool.xor_self]
 cases h1:parF X Y n px py <;> cases h2:parF X Y n qx qy <;> rw [h1,h2] at e <;> first | rfl | cases e
theorem par_way {X Y:Nat→Int} {n:Nat} {px py qx qy:Int} (h:∀ i,i<n→apartH px py qx qy (X i) (Y i) (X ((i+1) % n)) (Y ((i+1) % n))):parF X Y n px py=parF X Y n qx qy:=by
 rcases Int.le_total py qy with h1 | h1
 ·exact par_way1 h1 h
 ·exact (par_way1 h1 fun i hi=>apartH_flip1 (h i hi)).symm
theorem par_ring {X Y A B:Nat→Int} {n k:Nat} (h:∀ j,j<k→∀ i,i<n→apartH (A j) (B j) (A ((j+1) % k)) (B ((j+1) % k)) (X i) (Y i) (X ((i+1) % n)) (Y ((i+1) % n))):∀ j,j<k→parF X Y n (A j) (B j)=parF X Y n (A 0) (B 0)
 | 0,_=>rfl
 | j+1,hj=>by
  have:=par_way (h j (by omega))
  rw [Nat.mod_eq_of_lt hj] at this
  rw [← this,par_ring h j (by omega)]
theorem cut_right {ux uy vx vy px py:Int} (h:cutB ux uy vx vy px py=true):px<ux ∨ px<vx:=by
 have key:∀ {lx ly tx ty:Int},ly<ty→cutB lx ly tx ty px py=true→px<lx ∨ px<tx:=fun {lx ly tx ty} hl h=>by
  rw [cut_up hl,Bool.and_eq_true,Bool.and_eq_true,decide_eq_true_eq,decide_eq_true_eq,decide_eq_true_eq] at h
  obtain ⟨⟨h1,h2⟩,h3⟩:=h
  rcases Int.lt_or_le px lx with h4 | h4
  ·exact .inl h4
  ·rcases Int.lt_or_le px tx with h5 | h5
   ·exact .inr h5
   ·exfalso
    have e:crossZ lx ly tx ty px py = -((px-tx)*(py-ly)+(px-lx)*(ty-py)):=by unfold crossZ;grind
    have z1:=Int.mul_nonneg (show 0≤px-tx by omega) (show 0≤py-ly by omega)
    have z2:=Int.mul_nonneg (show 0≤px-lx by omega) (show 0≤ty-py by omega)
    omega
 rcases Int.lt_trichotomy uy vy with h1 | h1 | h1
 ·exact key h1 h
 ·rw [cut_flat h1] at h;cases h
 ·rw [cut_comm] at h
  exact (key h1 h).symm
theorem odd_right {X Y:Nat→Int} {n:Nat} {px py:Int} (h:parF X Y n px py=true):∃ i,i<n∧px<X i:=by
 obtain ⟨i,hi,hc⟩:=xorUp_some n h
 rcases cut_right hc with h1 | h1
 ·exact ⟨i,hi,h1⟩
 ·exact ⟨(i+1) % n,Nat.mod_lt _ (by omega),h1⟩
theorem max_ex (X:Nat→Int):∀ n,0<n→∃ i,i<n∧∀ j,j<n→X j≤X i
 | 0,h=>by omega
 | 1,_=>⟨0,by omega,fun j hj=>by
   have:j=0:=by omega
   rw [this];exact Int.le_refl _⟩
 | n+2,_=>by
  obtain ⟨i,hi,hm⟩:=max_ex X (n+1) (by omega)
  rcases Int.le_total (X (n+1)) (X i) with h | h
  ·exact ⟨i,by omega,fun j hj=>by
    by_cases hj':j<n+1
    ·exact hm j hj'
    ·obtain rfl:j=n+1:=by omega
     exact h⟩
  ·exact ⟨n+1,by omega,fun j hj=>by
    by_cases hj':j<n+1
    ·exact Int.le_trans (hm j hj') h
    ·obtain rfl:j=n+1:=by omega
     exact Int.le_refl _⟩
theorem par_asym {X Y A B:Nat→Int} {n k:Nat} (hk:0<k) (h1:∀ j,j<k→parF X Y n (A j) (B j)=true) (h2:∀ i,i<n→parF A B k (X i) (Y i)=true):False:=by
 obtain ⟨j,hj,hm⟩:=max_ex A k hk
 obtain ⟨i,hi,h3⟩:=odd_right (h1 j hj)
 obtain ⟨j',hj',h4⟩:=odd_right (h2 i hi)
 have:=hm j' hj'
 omega
/-! Where a rising side comes to a height, all told as many times as it rises. -/
structure Rise where
 lx:Int
 ly:Int
 tx:Int
 ty:Int
def Rise.d (e:Rise):Int:=e.ty-e.ly
def Rise.at (e:Rise) (y:Int):Int:=e.lx*(e.ty-y)+e.tx*(y-e.ly)
theorem rise_min (y:Int):∀ L:List Rise,L ≠ []→(∀ e ∈ L,0<e.d)→∃ e ∈ L,∀ f ∈ L,f.d*e.at y≤e.d*f.at y
 | [],h,_=>absurd rfl h
 | [a],_,_=>⟨a,by simp,fun f hf=>by
   rw [List.mem_singleton] at hf;subst hf;exact Int.le_refl _⟩
 | a :: b :: L,_,hp=>by
  obtain ⟨m,hm,hmin⟩:=rise_min y (b :: L) (by simp) fun e he=>hp e (List.mem_cons_of_mem _ he)
  rcases Int.le_total (m.d*a.at y) (a.d*m.at y) with h | h
  ·refine ⟨a,by simp,fun f hf=>?_⟩
   rcases List.mem_cons.1 hf with rfl | hf
   ·exact Int.le_refl _
   ·have h1:=hmin f hf
    have pm:=hp m (List.mem_cons_of_mem _ hm)
    have pf:=hp f (List.mem_cons_of_mem _ hf)
    have pa:=hp a (by simp)
    have k1:f.d*(m.d*a.at y)≤f.d*(a.d*m.at y):=Int.mul_le_mul_of_nonneg_left h (Int.le_of_lt pf)
    have k2:a.d*(f.d*m.at y)≤a.d*(m.d*f.at y):=Int.mul_le_mul_of_nonneg_left h1 (Int.le_of_lt pa)
    have k3:m.d*(f.d*a.at y)≤m.d*(a.d*f.at y):=by
     have e1:m.d*(f.d*a.at y)=f.d*(m.d*a.at y):=by grind
     have e2:m.d*(a.d*f.at y)=a.d*(m.d*f.at y):=by grind
     have e3:f.d*(a.d*m.at y)=a.d*(f.d*m.at y):=by grind
     omega
    exact Int.le_of_mul_le_mul_left k3 pm
  ·exact ⟨m,List.mem_cons_of_mem _ hm,fun f hf=>by
    rcases List.mem_cons.1 hf with rfl | hf
    ·exact h
    ·exact hmin f hf⟩
def riseOf (ux uy vx vy:Int):Rise:=bif decide (uy<vy) then ⟨ux,uy,vx,vy⟩ else ⟨vx,vy,ux,uy⟩
theorem cut_scale {D:Int} (hD:0<D) (ux uy vx vy px py:Int):cutB (D*ux) uy (D*vx) vy (D*px) py=cutB ux uy vx vy px py:=by
 have e:∀ a b c d:Int,decide (0<crossZ (D*a) b (D*c) d (D*px) py)=decide (0<crossZ a b c d px py):=fun a b c d=>decide_eq_decide.2 (by
  have e:crossZ (D*a) b (D*c) d (D*px) py=D*crossZ a b c d px py:=by unfold crossZ;grind
  rw [e]
  exact ⟨fun h=>(sign_of_mul hD rfl).1 h,fun h=>Int.mul_pos hD h⟩)
 unfold cutB
 rw [e,e]
theorem par_scale {D:Int} (hD:0<D) (X Y:Nat→Int) (n:Nat) (px py:Int):parF (fun i=>D*X i) Y n (D*px) py=parF X Y n px py :=
 xorUp_congr n fun i _=>cut_scale hD _ _ _ _ _ _
def apartN (px py qx qy ux uy vx vy:Int):Prop:=apartH px py qx qy ux uy vx vy ∧
 (crossZ px py qx qy ux uy=0∧crossZ px py qx qy vx vy=0∧py ≠ qy→∀ y,((py≤y∧y≤qy) ∨ (qy≤y∧y≤py))→((uy≤y∧y≤vy) ∨ (vy≤y∧y≤uy))→False)
theorem rise_ne {e f:Rise} {y:Int} (he:e.ly≤y∧y<e.ty) (hf:f.ly≤y∧y<f.ty) (h:apartN e.lx e.ly e.tx e.ty f.lx f.ly f.tx f.ty):f.d*e.at y ≠ e.d*f.at y:=by
 intro heq
 have i1:(f.ty-y)*crossZ e.lx e.ly e.tx e.ty f.lx f.ly+(y-f.ly)*crossZ e.lx e.ly e.tx e.ty f.tx f.ty=f.d*e.at y-e.d*f.at y:=by unfold crossZ Rise.d Rise.at;grind
 have i2:(e.ty-y)*crossZ f.lx f.ly f.tx f.ty e.lx e.ly+(y-e.ly)*crossZ f.lx f.ly f.tx f.ty e.tx e.ty=e.d*f.at y-f.d*e.at y:=by unfold crossZ Rise.d Rise.at;grind
 obtain ⟨h1,h2⟩:=h
 rcases h1 with ⟨a,b⟩ | ⟨a,b⟩ | ⟨a,b⟩ | ⟨a,b⟩ | ⟨a,b,_,_⟩
 ·have:=mul_pos_add (a:=f.ty-y) (b:=y-f.ly) (by omega) (by omega) a b;omega
 ·have:=mul_neg_add (a:=f.ty-y) (b:=y-f.ly) (by omega) (by omega) a b;omega
 ·have:=mul_pos_add (a:=e.ty-y) (b:=y-e.ly) (by omega) (by omega) a b;omega
 ·have:=mul_neg_add (a:=e.ty-y) (b:=y-e.ly) (by omega) (by omega) a b;omega
 ·exact h2 ⟨a,b,by omega⟩ y (.inl ⟨he.1,by omega⟩) (.inl ⟨hf.1,by omega⟩)
theorem cut_at {e f:Rise} {y px:Int} (hd:0<e.d) (hf:f.ly<f.ty) (hp:e.d*px<e.at y) (hmin:f.ly≤y→y<f.ty→f.d*px<f.at y→f.d*e.at y<e.d*f.at y) :
  cutB (e.d*f.lx) f.ly (e.d*f.tx) f.ty (e.at y) y=cutB f.lx f.ly f.tx f.ty px y:=by
 have i1:crossZ (e.d*f.lx) f.ly (e.d*f.tx) f.ty (e.at y) y=e.d*f.at y-f.d*e.at y:=by unfold crossZ;simp only [Rise.d,Rise.at];grind
 have i2:crossZ f.lx f.ly f.tx f.ty px y=f.at y-f.d*px:=by unfold crossZ Rise.d Rise.at;grind
 rw [cut_up hf,cut_up hf,i1,i2]
 by_cases h1:f.ly≤y
 ·by_cases h2:y<f.ty
  ·rw [decide_eq_true h1,decide_eq_true h2,Bool.true_and]
   refine decide_eq_decide.2 ⟨fun h=>?_,fun h=>?_⟩
   ·have hfd:0<f.d:=by unfold Rise.d;omega
    have k1:f.d*(e.d*px)<f.d*e.at y:=Int.mul_lt_mul_of_pos_left hp hfd
    have k2:e.d*(f.d*px)=f.d*(e.d*px):=by grind
    have k3:e.d*(f.d*px)<e.d*f.at y:=by omega
    have:=Int.lt_of_mul_lt_mul_left k3 (Int.le_of_lt hd)
    omega
   ·have:=hmin h1 h2 (by omega)
    omega
  ·rw [decide_eq_false h2];simp
 ·rw [decide_eq_false h1];simp
theorem apart_part {e:Rise} {y ax ay bx bY:Int} (hy:e.ly<y∧y<e.ty) (h:apartH e.lx e.ly e.tx e.ty ax ay bx bY):apartH (e.d*e.lx) e.ly (e.at y) y (e.d*ax) ay (e.d*bx) bY:=by
 have hd:0<e.d:=by unfold Rise.d;omega
 have hl:0<y-e.ly:=by omega
 have i1:∀ wx wy:Int,crossZ (e.d*e.lx) e.ly (e.at y) y (e.d*wx) wy=(y-e.ly)*crossZ e.lx e.ly e.tx e.ty wx wy:=fun wx wy=>by unfold crossZ;simp only [Rise.d,Rise.at];grind
 have i2:crossZ (e.d*ax) ay (e.d*bx) bY (e.d*e.lx) e.ly=e.d*crossZ ax ay bx bY e.lx e.ly:=by unfold crossZ;grind
 have i3:crossZ (e.d*ax) ay (e.d*bx) bY (e.at y) y=(e.ty-y)*crossZ ax ay bx bY e.lx e.ly+(y-e.ly)*crossZ ax ay bx bY e.tx e.ty:=by unfold crossZ;simp only [Rise.d,Rise.at];grind
 unfold apartH
 rw [i1,i1,i2,i3]
 rcases h with ⟨a,b⟩ | ⟨a,b⟩ | ⟨a,b⟩ | ⟨a,b⟩ | ⟨a,b,c,d⟩
 ·exact .inl ⟨Int.mul_pos hl a,Int.mul_pos hl b⟩
 ·exact .inr (.inl ⟨Int.mul_neg_of_pos_of_neg hl a,Int.mul_neg_of_pos_of_neg hl b⟩)
 ·exact .inr (.inr (.inl ⟨Int.mul_pos hd a,mul_pos_add (by omega) (by omega) a b⟩))
 ·exact .inr (.inr (.inr (.inl ⟨Int.mul_neg_of_pos_of_neg hd a,mul_neg_add (by omega) (by omega) a b⟩)))
 ·exact .inr (.inr (.inr (.inr ⟨by rw [a,Int.mul_zero],by rw [b,Int.mul_zero],by rw [c,Int.mul_zero],by rw [c,d,Int.mul_zero,Int.mul_zero];rfl⟩)))
theorem apartN_flip1 {px py qx qy ux uy vx vy:Int} (h:apartN px py qx qy ux uy vx vy):apartN qx qy px py ux uy vx vy :=
 ⟨apartH_flip1 h.1,fun ⟨h1,h2,h3⟩ y g1 g2=>h.2 ⟨by have:=cross_flip px py qx qy ux uy;omega,by have:=cross_flip px py qx qy vx vy;omega,fun e=>h3 e.symm⟩ y g1.symm g2⟩
theorem apartN_flip2 {px py qx qy ux uy vx vy:Int} (h:apartN px py qx qy ux uy vx vy):apartN px py qx qy vx vy ux uy :=
 ⟨apartH_flip2 h.1,fun ⟨h1,h2,h3⟩ y g1 g2=>h.2 ⟨h2,h1,h3⟩ y g1 g2.symm⟩
theorem rise_apart {ux uy vx vy ax ay bx bY:Int} (h:apartN ux uy vx vy ax ay bx bY):apartN (riseOf ux uy vx vy).lx (riseOf ux uy vx vy).ly (riseOf ux uy vx vy).tx (riseOf ux uy vx vy).ty ax ay bx bY:=by
 unfold riseOf
 cases decide (uy<vy) with
 | true=>exact h
 | false=>exact apartN_flip1 h
theorem rise_apart2 {ux uy vx vy ax ay bx bY:Int} (h:apartN ux uy vx vy ax ay bx bY):apartN ux uy vx vy (riseOf ax ay bx bY).lx (riseOf ax ay bx bY).ly (riseOf ax ay bx bY).tx (riseOf ax ay bx bY).ty:=by
 unfold riseOf
 cases decide (ay<bY) with
 | true=>exact h
 | false=>exact apartN_flip2 h
theorem rise_up {ux uy vx vy:Int} (h:uy ≠ vy):(riseOf ux uy vx vy).ly<(riseOf ux uy vx vy).ty:=by
 unfold riseOf
 by_cases h1:uy<vy
 ·rw [decide_eq_true h1];exact h1
 ·rw [decide_eq_false h1];show vy<uy;omega
theorem rise_d {ux uy vx vy:Int} (h:uy ≠ vy):0<(riseOf ux uy vx vy).d:=by
 have:=rise_up (ux:=ux) (vx:=vx) h
 unfold Rise.d
 omega
theorem cut_rise (D ux uy vx vy px py:Int):cutB (D*ux) uy (D*vx) vy px py=cutB (D*(riseOf ux uy vx vy).lx) (riseOf ux uy vx vy).ly (D*(riseOf ux uy vx vy).tx) (riseOf ux uy vx vy).ty px py:=by
 unfold riseOf
 cases decide (uy<vy) with
 | true=>rfl
 | false=>exact cut_comm _ _ _ _ _ _
theorem cut_rise1 (ux uy vx vy px py:Int):cutB ux uy vx vy px py=cutB (riseOf ux uy vx vy).lx (riseOf ux uy vx vy).ly (riseOf ux uy vx vy).tx (riseOf ux uy vx vy).ty px py:=by
 have:=cut_rise 1 ux uy vx vy px py
 simpa using this
theorem cut_iff {e:Rise} {px py:Int} (h:e.ly<e.ty):cutB e.lx e.ly e.tx e.ty px py=true ↔ (e.ly≤py∧py<e.ty)∧e.d*px<e.at py:=by
 have i2:crossZ e.lx e.ly e.tx e.ty px py=e.at py-e.d*px:=by unfold crossZ Rise.d Rise.at;grind
 rw [cut_up h,Bool.and_eq_true,Bool.and_eq_true,decide_eq_true_eq,decide_eq_true_eq,decide_eq_true_eq,i2]
 omega
theorem par_hit {X Y:Nat→Int} {n:Nat} {px py:Int} {e:Rise} (hc:(e.ly≤py∧py<e.ty)∧e.d*px<e.at py) (hn:∀ i,i<n→apartN e.lx e.ly e.tx e.ty (X i) (Y i) (X ((i+1) % n)) (Y ((i+1) % n)))
  (hmin:∀ i,i<n→cutB (X i) (Y i) (X ((i+1) % n)) (Y ((i+1) % n)) px py=true→(riseOf (X i) (Y i) (X ((i+1) % n)) (Y ((i+1) % n))).d*e.at py≤e.d*(riseOf (X i) (Y i) (X ((i+1) % n)) (Y ((i+1) % n))).at py) :
  parF X Y n e.lx e.ly=parF X Y n px py:=by
 have hd:0<e.d:=by unfold Rise.d;omega
 have s1:parF (fun i=>e.d*X i) Y n (e.at py) py=parF X Y n px py:=by
  refine xorUp_congr n fun i hi=>?_
  have hni:=hn i hi
  have hmi:=hmin i hi
  simp only
  generalize X i=ux at *
  generalize Y i=uy at *
  generalize X ((i+1) % n)=vx at *
  generalize Y ((i+1) % n)=vy at *
  by_cases hf:uy=vy
  ·rw [cut_flat hf,cut_flat hf]
  ·have hu:=rise_up (ux:=ux) (vx:=vx) hf
   have ha:=rise_apart2 hni
   rw [cut_rise,cut_rise1 ux uy vx vy px py]
   rw [cut_rise1 ux uy vx vy px py] at hmi
   generalize riseOf ux uy vx vy=f at *
   refine cut_at hd hu hc.2 fun h1 h2 h3=>?_
   have h4:=hmi ((cut_iff hu).2 ⟨⟨h1,h2⟩,h3⟩)
   have h5:=rise_ne hc.1 ⟨h1,h2⟩ ha
   omega
 have s2:parF (fun i=>e.d*X i) Y n (e.d*e.lx) e.ly=parF (fun i=>e.d*X i) Y n (e.at py) py:=by
  by_cases hy:e.ly=py
  ·have:e.at py=e.d*e.lx:=by subst hy;unfold Rise.d Rise.at;grind
   rw [this,hy]
  ·exact par_way fun i hi=>apart_part ⟨by omega,hc.1.2⟩ (hn i hi).1
 rw [← s1,← s2,par_scale hd]
def cutsOf (A B:Nat→Int) (k:Nat) (px py:Int):List Rise:=((List.range k).filter fun j=>cutB (A j) (B j) (A ((j+1) % k)) (B ((j+1) % k)) px py).map fun j=>riseOf (A j) (B j) (A ((j+1) % k)) (B ((j+1) % k))
theorem mem_cuts {A B:Nat→Int} {k:Nat} {px py:Int} {e:Rise}:e ∈ cutsOf A B k px py ↔ ∃ j,j<k∧cutB (A j) (B j) (A ((j+1) % k)) (B ((j+1) % k)) px py=true∧e=riseOf (A j) (B j) (A ((j+1) % k)) (B ((j+1) % k)):=by
 unfold cutsOf
 rw [List.mem_map]
 constructor
 ·rintro ⟨j,hj,rfl⟩
  rw [List.mem_filter,List.mem_range] at hj
  exact ⟨j,hj.1,hj.2,rfl⟩
 ·rintro ⟨j,h1,h2,rfl⟩
  exact ⟨j,List.mem_filter.2 ⟨List.mem_range.2 h1,h2⟩,rfl⟩
theorem cut_not_flat {ux uy vx vy px py:Int} (h:cutB ux uy vx vy px py=true):uy ≠ vy:=fun e=>by
 rw [cut_flat e] at h;cases h
theorem rise_end {P:Int→Int→Prop} {ux uy vx vy:Int} (h1:P ux uy) (h2:P vx vy):P (riseOf ux uy vx vy).lx (riseOf ux uy vx vy).ly:=by
 unfold riseOf
 cases decide (uy<vy) with
 | true=>exact h1
 | false=>exact h2
theorem par_trans {X Y A B:Nat→Int} {n k:Nat} {px py:Int} (hKJ:∀ j,j<k→∀ i,i<n→apartN (A j) (B j) (A ((j+1) % k)) (B ((j+1) % k)) (X i) (Y i) (X ((i+1) % n)) (Y ((i+1) % n)))
  (hJK:∀ i,i<n→∀ j,j<k→apartN (X i) (Y i) (X ((i+1) % n)) (Y ((i+1) % n)) (A j) (B j) (A ((j+1) % k)) (B ((j+1) % k)))
  (h1:parF A B k px py=true) (h2:∀ j,j<k→parF X Y n (A j) (B j)=true) (h3:∀ i,i<n→parF A B k (X i) (Y i)=false):parF X Y n px py=true:=by
 obtain ⟨j0,hj0,hc0⟩:=xorUp_some k h1
 have hne:cutsOf A B k px py++cutsOf X Y n px py ≠ []:=by
  have:riseOf (A j0) (B j0) (A ((j0+1) % k)) (B ((j0+1) % k)) ∈ cutsOf A B k px py:=mem_cuts.2 ⟨j0,hj0,hc0,rfl⟩
  intro e
  rw [List.append_eq_nil_iff] at e
  rw [e.1] at this
  cases this
 obtain ⟨e,he,hmin⟩:=rise_min py _ hne fun e he=>by
  rw [List.mem_append,mem_cuts,mem_cuts] at he
  rcases he with ⟨j,hj,hc,rfl⟩ | ⟨j,hj,hc,rfl⟩
  ·exact rise_d (cut_not_flat hc)
  ·exact rise_d (cut_not_flat hc)
 rw [List.mem_append,mem_cuts,mem_cuts] at he
 rcases he with ⟨j,hj,hc,he⟩ | ⟨i,hi,hc,he⟩
 ·have hu:=rise_up (cut_not_flat hc) (ux:=A j) (vx:=A ((j+1) % k))
  have hc':=hc
  rw [cut_rise1,cut_iff hu,← he] at hc'
  have hl:parF X Y n e.lx e.ly=true:=by rw [he];exact rise_end (P:=fun x y=>parF X Y n x y=true) (h2 j hj) (h2 _ (Nat.mod_lt _ (by omega)))
  rw [← par_hit hc' (fun i hi=>by rw [he];exact rise_apart (hKJ j hj i hi)) fun i hi hci=>hmin _ (List.mem_append_right _ (mem_cuts.2 ⟨i,hi,hci,rfl⟩)),hl]
 ·exfalso
  have hu:=rise_up (cut_not_flat hc) (ux:=X i) (vx:=X ((i+1) % n))
  have hc':=hc
  rw [cut_rise1,cut_iff hu,← he] at hc'
  have hl:parF A B k e.lx e.ly=false:=by rw [he];exact rise_end (P:=fun x y=>parF A B k x y=false) (h3 i hi) (h3 _ (Nat.mod_lt _ (by omega)))
  rw [par_hit hc' (fun j hj=>by rw [he];exact rise_apart (hJK i hi j hj)) fun j hj hcj=>hmin _ (List.mem_append_left _ (mem_cuts.2 ⟨j,hj,hcj,rfl⟩)),h1] at hl
  cases hl
theorem line_sign {dx dy a b:Int} (hx:0<dx) (e:dx*a=dy*b):(0<dy→(a≤0→b≤0)∧(0≤a→0≤b)∧(0<b→0<a))∧(dy<0→(a≤0→0≤b)∧(0≤a→b≤0)∧(0<b→a<0))∧(b=0→a=0):=by
 refine ⟨fun hy=>⟨fun ha=>?_,fun ha=>?_,fun hb=>?_⟩,fun hy=>⟨fun ha=>?_,fun ha=>?_,fun hb=>?_⟩,fun hb=>?_⟩
 ·have:=Int.mul_nonpos_of_nonneg_of_nonpos (Int.le_of_lt hx) ha
  rcases Int.lt_or_le 0 b with h | h
  ·have:=Int.mul_pos hy h;omega
  ·exact h
 ·have:=Int.mul_nonneg (Int.le_of_lt hx) ha
  rcases Int.lt_or_le b 0 with h | h
  ·have:=Int.mul_neg_of_pos_of_neg hy h;omega
  ·exact h
 ·have:=Int.mul_pos hy hb
  exact (sign_of_mul hx e).1 (by omega)
 ·have:=Int.mul_nonpos_of_nonneg_of_nonpos (Int.le_of_lt hx) ha
  rcases Int.lt_or_le b 0 with h | h
  ·have:=Int.mul_pos_of_neg_of_neg hy h;omega
  ·exact h
 ·have:=Int.mul_nonneg (Int.le_of_lt hx) ha
  rcases Int.lt_or_le 0 b with h | h
  ·have:=Int.mul_neg_of_neg_of_pos hy h;omega
  ·exact h
 ·have:=Int.mul_neg_of_neg_of_pos hy hb
  exact (sign_of_mul hx e).2.1 (by omega)
 ·subst hb
  exact (sign_of_mul hx e).2.2 (by rw [Int.mul_zero])
theorem apart_of_not {x0 y0 x1 y1 u0 v0 u1 v1:Int} (hs:lexLt x0 y0 x1 y1) (ht:lexLt u0 v0 u1 v1) (h:¬ meets x0 y0 x1 y1 u0 v0 u1 v1):apartN x0 y0 x1 y1 u0 v0 u1 v1:=by
 constructor
 ·by_cases hc:crossZ x0 y0 x1 y1 u0 v0=0∧crossZ x0 y0 x1 y1 u1 v1=0
  ·obtain ⟨k1,k2⟩:=collinear hs hc.1 hc.2
   exact .inr (.inr (.inr (.inr ⟨hc.1,hc.2,k1,k2⟩)))
  ·have h2:¬ (apart (crossZ x0 y0 x1 y1 u0 v0) (crossZ x0 y0 x1 y1 u1 v1)∧apart (crossZ u0 v0 u1 v1 x0 y0) (crossZ u0 v0 u1 v1 x1 y1)):=fun k=>h (.inr ⟨hc,k⟩)
   unfold apart at h2
   unfold apartH
   omega
 ·rintro ⟨h1,h2,hy⟩ y g1 g2
  apply h
  refine .inl ⟨h1,h2,?_⟩
  have e1:(x1-x0)*(v0-y1)=(y1-y0)*(u0-x1):=by unfold crossZ at h1;grind
  have e2:(x1-x0)*(v1-y0)=(y1-y0)*(u1-x0):=by unfold crossZ at h2;grind
  have e3:(x1-x0)*(v1-v0)=(y1-y0)*(u1-u0):=by unfold crossZ at h1 h2;grind
  unfold lexLt at hs ht
  unfold lexLe
  by_cases hx:x1-x0=0
  ·rw [hx,Int.zero_mul] at e1 e2
   have z1:u0-x1=0:=by rcases Int.mul_eq_zero.1 e1.symm with z | z <;> omega
   have z2:u1-x0=0:=by rcases Int.mul_eq_zero.1 e2.symm with z | z <;> omega
   omega
  ·have hx0:0<x1-x0:=by omega
   have l1:=line_sign hx0 e1
   have l2:=line_sign hx0 e2
   have l3:=line_sign hx0 e3
   have hu:u0<u1:=by
    rcases ht with ht | ⟨t1,t2⟩
    ·exact ht
    ·have:=l3.2.2 (by omega);omega
   have hx1:x0<x1:=by omega
   clear hs ht h h1 h2 e1 e2 e3
   rcases Int.lt_or_le 0 (y1-y0) with hd | hd
   ·have hv:=(l3.1 hd).2.2 (by omega)
    have a1:=(l1.1 hd).1
    have b1:=(l2.1 hd).2.1
    clear l1 l2 l3
    have g3:y0≤y∧y≤y1:=by omega
    have g4:v0≤y∧y≤v1:=by omega
    have:=a1 (by omega)
    have:=b1 (by omega)
    omega
   ·have hd:y1-y0<0:=by omega
    have hv:=(l3.2.1 hd).2.2 (by omega)
    have a1:=(l1.2.1 hd).2.1
    have b1:=(l2.2.1 hd).1
    have a2:=l1.2.2
    have b2:=l2.2.2
    clear l1 l2 l3
    have g3:y1≤y∧y≤y0:=by omega
    have g4:v1≤y∧y≤v0:=by omega
    have c1:=a1 (by omega)
    have c2:=b1 (by omega)
    refine ⟨?_,?_⟩
    ·by_cases hq:u0-x1=0
     ·have:=a2 hq;omega
     ·omega
    ·by_cases hq:u1-x0=0
     ·have:=b2 hq;omega
     ·omega
noncomputable section
set_option maxHeartbeats 1000000
/-! ### function 60 -/
def T60 {ρ:Type} (ret:KJ87 ρ) (ax:Int) (ay:Int) (bx:Int) (bY:Int) (px:Int) (py:Int):Option ρ :=
 (bsel ((wd3 ax==wd3 px&&(wd2 ax==wd2 px&&(wd1 ax==wd1 px&&(wd0 ax==wd0 px&&true)))&&(wd3 ay==wd3 py&&(wd2 ay==wd2 py&&(wd1 ay==wd1 py&&(wd0 ay==wd0 py&&true)))&&(wd3 1==wd3 1&&(wd2 1==wd2 1&&(wd1 1==wd1 1&&(wd0 1==wd0 1&&true)))&&true)))==false)
 (bsel (wd3 bx==wd3 px&&(wd2 bx==wd2 px&&(wd1 bx==wd1 px&&(wd0 bx==wd0 px&&true)))&&(wd3 bY==wd3 py&&(wd2 bY==wd2 py&&(wd1 bY==wd1 py&&(wd0 bY==wd0 py&&true)))&&true))
 (ret (true))
 (bsel (isPw (wd3 ax) (wd2 ax) (wd1 ax) (wd0 ax) (wd3 ay) (wd2 ay) (wd1 ay) (wd0 ay) (wd3 1) (wd2 1) (wd1 1) (wd0 1)&&isPw (wd3 px) (wd2 px) (wd1 px) (wd0 px) (wd3 py) (wd2 py) (wd1 py) (wd0 py) (wd3 1) (wd2 1) (wd1 1) (wd0 1))
 (bsel (isPw (wd3 px) (wd2 px) (wd1 px) (wd0 px) (wd3 py) (wd2 py) (wd1 py) (wd0 py) (wd3 1) (wd2 1) (wd1 1) (wd0 1)&&isPw (wd3 bx) (wd2 bx) (wd1 bx) (wd0 bx) (wd3 bY) (wd2 bY) (wd1 bY) (wd0 bY) (wd3 1) (wd2 1) (wd1 1) (wd0 1))
 (bsel (decide (IntKind.i64.wrap (cmp3V (wdsS (wd3 ax) (wd2 ax) (wd1 ax) (wd0 ax)) (wdsS (wd3 ay) (wd2 ay) (wd1 ay) (wd0 ay)) (wdsS (wd3 1) (wd2 1) (wd1 1) (wd0 1)) (wdsS (wd3 px) (wd2 px) (wd1 px) (wd0 px)) (wdsS (wd3 py) (wd2 py) (wd1 py) (wd0 py)) (wdsS (wd3 1) (wd2 1) (wd1 1) (wd0 1))*cmp3V (wdsS (wd3 px) (wd2 px) (wd1 px) (wd0 px)) (wdsS (wd3 py) (wd2 py) (wd1 py) (wd0 py)) (wdsS (wd3 1) (wd2 1) (wd1 1) (wd0 1)) (wdsS (wd3 bx) (wd2 bx) (wd1 bx) (wd0 bx)) (wdsS (wd3 bY) (wd2 bY) (wd1 bY) (wd0 bY)) (wdsS (wd3 1) (wd2 1) (wd1 1) (wd0 1))) > 0)==true)
 (bsel (isPw (wd3 ax) (wd2 ax) (wd1 ax) (wd0 ax) (wd3 ay) (wd2 ay) (wd1 ay) (wd0 ay) (wd3 1) (wd2 1) (wd1 1) (wd0 1)&&isPw (wd3 bx) (wd2 bx) (wd1 bx) (wd0 bx) (wd3 bY) (wd2 bY) (wd1 bY) (wd0 bY) (wd3 1) (wd2 1) (wd1 1) (wd0 1)&&isPw (wd3 px) (wd2 px) (wd1 px) (wd0 px) (wd3 py) (wd2 py) (wd1 py) (wd0 py) (wd3 1) (wd2 1) (wd1 1) (wd0 1))
 (ret ((detZ (wdsS (wd3 ax) (wd2 ax) (wd1 ax) (wd0 ax)) (wdsS (wd3 ay) (wd2 ay) (wd1 ay) (wd0 ay)) (wdsS (wd3 1) (wd2 1) (wd1 1) (wd0 1)) (wdsS (wd3 bx) (wd2 bx) (wd1 bx) (wd0 bx)) (wdsS (wd3 bY) (wd2 bY) (wd1 bY) (wd0 bY)) (wdsS (wd3 1) (wd2 1) (wd1 1) (wd0 1)) (wdsS (wd3 px) (wd2 px) (wd1 px) (wd0 px)) (wdsS (wd3 py) (wd2 py) (wd1 py) (wd0 py)) (wdsS (wd3 1) (wd2 1) (wd1 1) (wd0 1))).sign==0))
 none)
 (ret (false)))
 none)
 none))
 (ret (true)))
def G60 (ax:Int) (ay:Int) (bx:Int) (bY:Int) (px:Int) (py:Int):Option (Bool):=T60 some ax ay bx bY px py
theorem t60 (ax:Int) (ay:Int) (bx:Int) (bY:Int) (px:Int) (py:Int) (r:Bool) (h:G60 ax ay bx bY px py=some r):Ends Tryz.prog Tryz.f60.results.toList [.code (bodyOf Tryz.f60)] (start Tryz.f60.ntmps ([F.agg [F.int .u64 (wd3 ax),F.int .u64 (wd2 ax),F.int .u64 (wd1 ax),F.int .u64 (wd0 ax),F.int .u64 (wd3 ay),F.int .u64 (wd2 ay),F.int .u64 (wd1 ay),F.int .u64 (wd0 ay),F.int .u64 (wd3 1),F.int .u64 (wd2 1),F.int .u64 (wd1 1),F.int .u64 (wd0 1)],F.agg [F.int .u64 (wd3 bx),F.int .u64 (wd2 bx),F.int .u64 (wd1 bx),F.int .u64 (wd0 bx),F.int .u64 (wd3 bY),F.int .u64 (wd2 bY),F.int .u64 (wd1 bY),F.int .u64 (wd0 bY),F.int .u64 (wd3 1),F.int .u64 (wd2 1),F.int .u64 (wd1 1),F.int .u64 (wd0 1)],F.agg [F.int .u64 (wd3 px),F.int .u64 (wd2 px),F.int .u64 (wd1 px),F.int .u64 (wd0 px),F.int .u64 (wd3 py),F.int .u64 (wd2 py),F.int .u64 (wd1 py),F.int .u64 (wd0 py),F.int .u64 (wd3 1),F.int .u64 (wd2 1),F.int .u64 (wd1 1),F.int .u64 (wd0 1)]].map .f)) (F.bool r):=by
 refine Ends.of_run tyOK envA1_ok (T:=[]) (n:=200) ?_
 refine gE (Y:=T60 (fun r=>some (.ret (F.bool r))) ax ay bx bY px py) (by kernel_rfl) ?_
 exact (gS h (fun _ h=>(gS h (fun _ h=>gR (by cases h;rfl)) (fun _ h=>(gS h (fun _ h=>(gS h (fun _ h=>(gS h (fun _ h=>(gS h (fun _ h=>gR (by cases h;rfl)) gN)) (fun _ h=>gR (by cases h;rfl)))) gN)) gN)))) (fun _ h=>gR (by cases h;rfl)))
/-! ### function 61 -/
def T61 {ρ:Type} (ret:KJ87 ρ) (ax:Int) (ay:Int) (bx:Int) (bY:Int) (px:Int) (py:Int):Option ρ :=
 (bsel (isPw (wd3 ax) (wd2 ax) (wd1 ax) (wd0 ax) (wd3 ay) (wd2 ay) (wd1 ay) (wd0 ay) (wd3 1) (wd2 1) (wd1 1) (wd0 1))
 (bsel (isPw (wd3 bx) (wd2 bx) (wd1 bx) (wd0 bx) (wd3 bY) (wd2 bY) (wd1 bY) (wd0 bY) (wd3 1) (wd2 1) (wd1 1) (wd0 1))
 (bsel (isPw (wd3 px) (wd2 px) (wd1 px) (wd0 px) (wd3 py) (wd2 py) (wd1 py) (wd0 py) (wd3 1) (wd2 1) (wd1 1) (wd0 1))
 (bsel (isNum 400 (numF (wdsS (wd3 ay) (wd2 ay) (wd1 ay) (wd0 ay)))&&true)
 (bsel (isNum 400 (numF (wdsS (wd3 py) (wd2 py) (wd1 py) (wd0 py)))&&true)
 (bsel (isNum 399 (resBy [numF (wdsS (wd3 ay) (wd2 ay) (wd1 ay) (wd0 ay)),numF (wdsS (wd3 1) (wd2 1) (wd1 1) (wd0 1))])&&isNum 399 (resBy [numF (wdsS (wd3 py) (wd2 py) (wd1 py) (wd0 py)),numF (wdsS (wd3 1) (wd2 1) (wd1 1) (wd0 1))]))
 (bsel (isNum 400 (numF (wdsS (wd3 bY) (wd2 bY) (wd1 bY) (wd0 bY)))&&true)
 (bsel (isNum 400 (numF (wdsS (wd3 py) (wd2 py) (wd1 py) (wd0 py)))&&true)
 (bsel (isNum 399 (resBy [numF (wdsS (wd3 bY) (wd2 bY) (wd1 bY) (wd0 bY)),numF (wdsS (wd3 1) (wd2 1) (wd1 1) (wd0 1))])&&isNum 399 (resBy [numF (wdsS (wd3 py) (wd2 py) (wd1 py) (wd0 py)),numF (wdsS (wd3 1) (wd2 1) (wd1 1) (wd0 1))]))
 (bsel (decide ((unNum (resBy [numF (wdsS (wd3 ay) (wd2 ay) (wd1 ay) (wd0 ay)),numF (wdsS (wd3 1) (wd2 1) (wd1 1) (wd0 1))])-unNum (resBy [numF (wdsS (wd3 py) (wd2 py) (wd1 py) (wd0 py)),numF (wdsS (wd3 1) (wd2 1) (wd1 1) (wd0 1))])).sign > 0)==decide ((unNum (resBy [numF (wdsS (wd3 bY) (wd2 bY) (wd1 bY) (wd0 bY)),numF (wdsS (wd3 1) (wd2 1) (wd1 1) (wd0 1))])-unNum (resBy [numF (wdsS (wd3 py) (wd2 py) (wd1 py) (wd0 py)),numF (wdsS (wd3 1) (wd2 1) (wd1 1) (wd0 1))])).sign > 0))
 (ret (false))
 (bsel (decide ((unNum (resBy [numF (wdsS (wd3 ay) (wd2 ay) (wd1 ay) (wd0 ay)),numF (wdsS (wd3 1) (wd2 1) (wd1 1) (wd0 1))])-unNum (resBy [numF (wdsS (wd3 py) (wd2 py) (wd1 py) (wd0 py)),numF (wdsS (wd3 1) (wd2 1) (wd1 1) (wd0 1))])).sign > 0))
 (bsel (isPw (wd3 bx) (wd2 bx) (wd1 bx) (wd0 bx) (wd3 bY) (wd2 bY) (wd1 bY) (wd0 bY) (wd3 1) (wd2 1) (wd1 1) (wd0 1)&&isPw (wd3 ax) (wd2 ax) (wd1 ax) (wd0 ax) (wd3 ay) (wd2 ay) (wd1 ay) (wd0 ay) (wd3 1) (wd2 1) (wd1 1) (wd0 1)&&isPw (wd3 px) (wd2 px) (wd1 px) (wd0 px) (wd3 py) (wd2 py) (wd1 py) (wd0 py) (wd3 1) (wd2 1) (wd1 1) (wd0 1))
 (ret (decide ((detZ (wdsS (wd3 bx) (wd2 bx) (wd1 bx) (wd0 bx)) (wdsS (wd3 bY) (wd2 bY) (wd1 bY) (wd0 bY)) (wdsS (wd3 1) (wd2 1) (wd1 1) (wd0 1)) (wdsS (wd3 ax) (wd2 ax) (wd1 ax) (wd0 ax)) (wdsS (wd3 ay) (wd2 ay) (wd1 ay) (wd0 ay)) (wdsS (wd3 1) (wd2 1) (wd1 1) (wd0 1)) (wdsS (wd3 px) (wd2 px) (wd1 px) (wd0 px)) (wdsS (wd3 py) (wd2 py) (wd1 py) (wd0 py)) (wdsS (wd3 1) (wd2 1) (wd1 1) (wd0 1))).sign > 0)))
 none)
 (bsel (isPw (wd3 ax) (wd2 ax) (wd1 ax) (wd0 ax) (wd3 ay) (wd2 ay) (wd1 ay) (wd0 ay) (wd3 1) (wd2 1) (wd1 1) (wd0 1)&&isPw (wd3 bx) (wd2 bx) (wd1 bx) (wd0 bx) (wd3 bY) (wd2 bY) (wd1 bY) (wd0 bY) (wd3 1) (wd2 1) (wd1 1) (wd0 1)&&isPw (wd3 px) (wd2 px) (wd1 px) (wd0 px) (wd3 py) (wd2 py) (wd1 py) (wd0 py) (wd3 1) (wd2 1) (wd1 1) (wd0 1))
 (ret (decide ((detZ (wdsS (wd3 ax) (wd2 ax) (wd1 ax) (wd0 ax)) (wdsS (wd3 ay) (wd2 ay) (wd1 ay) (wd0 ay)) (wdsS (wd3 1) (wd2 1) (wd1 1) (wd0 1)) (wdsS (wd3 bx) (wd2 bx) (wd1 bx) (wd0 bx)) (wdsS (wd3 bY) (wd2 bY) (wd1 bY) (wd0 bY)) (wdsS (wd3 1) (wd2 1) (wd1 1) (wd0 1)) (wdsS (wd3 px) (wd2 px) (wd1 px) (wd0 px)) (wdsS (wd3 py) (wd2 py) (wd1 py) (wd0 py)) (wdsS (wd3 1) (wd2 1) (wd1 1) (wd0 1))).sign > 0)))
 none)))
 none)
 none)
 none)
 none)
 none)
 none)
 none)
 none)
 none)
def G61 (ax:Int) (ay:Int) (bx:Int) (bY:Int) (px:Int) (py:Int):Option (Bool):=T61 some ax ay bx bY px py
theorem t61 (ax:Int) (ay:Int) (bx:Int) (bY:Int) (px:Int) (py:Int) (r:Bool) (h:G61 ax ay bx bY px py=some r):Ends Tryz.prog Tryz.f61.results.toList [.code (bodyOf Tryz.f61)] (start Tryz.f61.ntmps ([F.agg [F.int .u64 (wd3 ax),F.int .u64 (wd2 ax),F.int .u64 (wd1 ax),F.int .u64 (wd0 ax),F.int .u64 (wd3 ay),F.int .u64 (wd2 ay),F.int .u64 (wd1 ay),F.int .u64 (wd0 ay),F.int .u64 (wd3 1),F.int .u64 (wd2 1),F.int .u64 (wd1 1),F.int .u64 (wd0 1)],F.agg [F.int .u64 (wd3 bx),F.int .u64 (wd2 bx),F.int .u64 (wd1 bx),F.int .u64 (wd0 bx),F.int .u64 (wd3 bY),F.int .u64 (wd2 bY),F.int .u64 (wd1 bY),F.int .u64 (wd0 bY),F.int .u64 (wd3 1),F.int .u64 (wd2 1),F.int .u64 (wd1 1),F.int .u64 (wd0 1)],F.agg [F.int .u64 (wd3 px),F.int .u64 (wd2 px),F.int .u64 (wd1 px),F.int .u64 (wd0 px),F.int .u64 (wd3 py),F.int .u64 (wd2 py),F.int .u64 (wd1 py),F.int .u64 (wd0 py),F.int .u64 (wd3 1),F.int .u64 (wd2 1),F.int .u64 (wd1 1),F.int .u64 (wd0 1)]].map .f)) (F.bool r):=by
 refine Ends.of_run tyOK envA1_ok (T:=[]) (n:=200) ?_
 refine gE (Y:=T61 (fun r=>some (.ret (F.bool r))) ax ay bx bY px py) (by kernel_rfl) ?_
 exact (gS h (fun _ h=>(gS h (fun _ h=>(gS h (fun _ h=>(gS h (fun _ h=>(gS h (fun _ h=>(gS h (fun _ h=>(gS h (fun _ h=>(gS h (fun _ h=>(gS h (fun _ h=>(gS h (fun _ h=>gR (by cases h;rfl)) (fun _ h=>(gS h (fun _ h=>(gS h (fun _ h=>gR (by cases h;rfl)) gN)) (fun _ h=>(gS h (fun _ h=>gR (by cases h;rfl)) gN)))))) gN)) gN)) gN)) gN)) gN)) gN)) gN)) gN)) gN)
def ptwsF (x y:Int):F:=.agg [.int .u64 (wd3 x),.int .u64 (wd2 x),.int .u64 (wd1 x),.int .u64 (wd0 x),.int .u64 (wd3 y),.int .u64 (wd2 y),.int .u64 (wd1 y),.int .u64 (wd0 y),.int .u64 (wd3 1),.int .u64 (wd2 1),.int .u64 (wd1 1),.int .u64 (wd0 1)]
def isPtw:F→Bool
 | .agg [.int .u64 p0,.int .u64 p1,.int .u64 p2,.int .u64 p3,.int .u64 p4,.int .u64 p5,.int .u64 p6,.int .u64 p7,.int .u64 p8,.int .u64 p9,.int .u64 p10,.int .u64 p11] =>
  (isI64 (wdsS p0 p1 p2 p3)&&(p0==wd3 (wdsS p0 p1 p2 p3)&&(p1==wd2 (wdsS p0 p1 p2 p3)&&(p2==wd1 (wdsS p0 p1 p2 p3)&&p3==wd0 (wdsS p0 p1 p2 p3))))) &&
  ((isI64 (wdsS p4 p5 p6 p7)&&(p4==wd3 (wdsS p4 p5 p6 p7)&&(p5==wd2 (wdsS p4 p5 p6 p7)&&(p6==wd1 (wdsS p4 p5 p6 p7)&&p7==wd0 (wdsS p4 p5 p6 p7))))) &&
  (p8==wd3 1&&(p9==wd2 1&&(p10==wd1 1&&p11==wd0 1))))
 | _=>false
def unPx:F→Int
 | .agg [.int .u64 p0,.int .u64 p1,.int .u64 p2,.int .u64 p3,_,_,_,_,_,_,_,_]=>wdsS p0 p1 p2 p3
 | _=>0
def unPy:F→Int
 | .agg [_,_,_,_,.int .u64 p4,.int .u64 p5,.int .u64 p6,.int .u64 p7,_,_,_,_]=>wdsS p4 p5 p6 p7
 | _=>0
theorem ptw_form {f:F} (h:isPtw f=true):f=ptwsF (unPx f) (unPy f)∧isI64 (unPx f)=true∧isI64 (unPy f)=true:=by
 unfold isPtw at h
 split at h
 ·rename_i p0 p1 p2 p3 p4 p5 p6 p7 p8 p9 p10 p11
  simp only [Bool.and_eq_true,beq_iff_eq] at h
  obtain ⟨⟨h0,a3,a2,a1,a0⟩,⟨h1,b3,b2,b1,b0⟩,c3,c2,c1,c0⟩:=h
  refine ⟨?_,h0,h1⟩
  show _=F.agg [.int .u64 (wd3 (wdsS p0 p1 p2 p3)),.int .u64 (wd2 (wdsS p0 p1 p2 p3)),.int .u64 (wd1 (wdsS p0 p1 p2 p3)),.int .u64 (wd0 (wdsS p0 p1 p2 p3)),.int .u64 (wd3 (wdsS p4 p5 p6 p7)),.int .u64 (wd2 (wdsS p4 p5 p6 p7)),.int .u64 (wd1 (wdsS p4 p5 p6 p7)),.int .u64 (wd0 (wdsS p4 p5 p6 p7)),.int .u64 (wd3 1),.int .u64 (wd2 1),.int .u64 (wd1 1),.int .u64 (wd0 1)]
  rw [← a3,← a2,← a1,← a0,← b3,← b2,← b1,← b0,← c3,← c2,← c1,← c0]
 ·cases h
theorem isPtw_ptw {x y:Int} (hx:isI64 x=true) (hy:isI64 y=true):isPtw (ptwsF x y)=true:=by
 simp only [isPtw,ptwsF,(wdsS_wd (wide_i64 hx)).1,(wdsS_wd (wide_i64 hy)).1,hx,hy,beq_self_eq_true,Bool.and_self]
theorem unPx_ptw {x:Int} (y:Int) (hx:isI64 x=true):unPx (ptwsF x y)=x:=(wdsS_wd (wide_i64 hx)).1
theorem unPy_ptw {y:Int} (x:Int) (hy:isI64 y=true):unPy (ptwsF x y)=y:=(wdsS_wd (wide_i64 hy)).1
theorem wd_beq {x y:Int} (hx:isI64 x=true) (hy:isI64 y=true):(wd3 x==wd3 y&&(wd2 x==wd2 y&&(wd1 x==wd1 y&&wd0 x==wd0 y)))=(x==y):=by
 by_cases h:x=y
 ·subst h;simp
 ·rw [beq_eq_false_iff_ne.2 h]
  cases hc:(wd3 x==wd3 y&&(wd2 x==wd2 y&&(wd1 x==wd1 y&&wd0 x==wd0 y))) with
  | false=>rfl
  | true =>
   simp only [Bool.and_eq_true,beq_iff_eq] at hc
   exfalso
   apply h
   rw [← (wdsS_wd (wide_i64 hx)).1,← (wdsS_wd (wide_i64 hy)).1,hc.1,hc.2.1,hc.2.2.1,hc.2.2.2]
theorem sign_rng (z:Int):-1≤z.sign∧z.sign≤1:=by
 rcases Int.lt_trichotomy z 0 with h | h | h
 ·rw [Int.sign_eq_neg_one_of_neg h];omega
 ·subst h;decide
 ·rw [Int.sign_eq_one_of_pos h];omega
theorem cmp3_rng (x y w u v t:Int):-1≤cmp3V x y w u v t∧cmp3V x y w u v t≤1:=by
 unfold cmp3V
 cases (x*t-u*w).sign != 0
 ·exact sign_rng _
 ·exact sign_rng _
theorem mul_rng {a b:Int} (ha:-1≤a∧a≤1) (hb:-1≤b∧b≤1):-1≤a*b∧a*b≤1:=by
 have:a = -1 ∨ a=0 ∨ a=1:=by omega
 rcases this with h | h | h <;> subst h <;> omega
def btwS (ax ay bx bY px py:Int):Bool:=(ax==px&&ay==py) || ((bx==px&&bY==py) || (decide (cmp3V ax ay 1 px py 1*cmp3V px py 1 bx bY 1 > 0)&&(crossZ ax ay bx bY px py).sign==0))
theorem det_cross (ax ay bx bY px py:Int):detZ ax ay 1 bx bY 1 px py 1=crossZ ax ay bx bY px py:=by unfold detZ crossZ;grind
theorem between_law {ax ay bx bY px py:Int} (h1:isI64 ax=true) (h2:isI64 ay=true) (h3:isI64 bx=true) (h4:isI64 bY=true) (h5:isI64 px=true) (h6:isI64 py=true):G60 ax ay bx bY px py=some (btwS ax ay bx bY px py):=by
 have hw:IntKind.i64.wrap (cmp3V ax ay 1 px py 1*cmp3V px py 1 bx bY 1)=cmp3V ax ay 1 px py 1*cmp3V px py 1 bx bY 1:=by
  have:=mul_rng (cmp3_rng ax ay 1 px py 1) (cmp3_rng px py 1 bx bY 1)
  exact wrapI (by omega) (by omega)
 have tt:∀ b:Bool,(b==true)=b:=fun b=>by cases b <;> rfl
 have ff:∀ b:Bool,(b==false) = !b:=fun b=>by cases b <;> rfl
 unfold G60 T60 btwS
 simp only [wd_beq h1 h5,wd_beq h2 h6,wd_beq h3 h5,wd_beq h4 h6,pw_of h1 h2,pw_of h3 h4,pw_of h5 h6,(wdsS_wd (wide_i64 h1)).1,(wdsS_wd (wide_i64 h2)).1,(wdsS_wd (wide_i64 h3)).1,(wdsS_wd (wide_i64 h4)).1,(wdsS_wd (wide_i64 h5)).1,(wdsS_wd (wide_i64 h6)).1,(wdsS_wd (wide_i64 one_i64)).1,hw,det_cross,beq_self_eq_true,tt,ff,Bool.and_true,Bool.and_self,bsel_true]
 cases (ax==px&&ay==py) <;> cases (bx==px&&bY==py) <;> cases decide (cmp3V ax ay 1 px py 1*cmp3V px py 1 bx bY 1 > 0) <;> rfl
theorem crosses_law {ax ay bx bY px py:Int} (h1:isI64 ax=true) (h2:isI64 ay=true) (h3:isI64 bx=true) (h4:isI64 bY=true) (h5:isI64 px=true) (h6:isI64 py=true):G61 ax ay bx bY px py=some (cutB ax ay bx bY px py):=by
 have w:∀ {z:Int},isI64 z=true→z.natAbs<18446744073709551616 ^ 4:=fun h=>wide_bound (wide_i64 h)
 have n4:∀ {z:Int},isI64 z=true→isNum 400 (numF z)=true:=fun h=>num_ok (w h) (by omega)
 have n3:∀ {z:Int},isI64 z=true→isNum 399 (numF z)=true:=fun h=>num_ok (w h) (by omega)
 have s:∀ x y:Int,decide ((x-y).sign > 0)=decide (x > y):=fun x y=>decide_eq_decide.2 (by
  rcases Int.lt_trichotomy (x-y) 0 with h | h | h
  ·rw [Int.sign_eq_neg_one_of_neg h];omega
  ·rw [h];simp;omega
  ·rw [Int.sign_eq_one_of_pos h];omega)
 have s0:∀ x:Int,decide (x.sign > 0)=decide (0<x):=fun x=>by
  have:=s x 0
  rw [Int.sub_zero] at this
  exact this
 unfold G61 T61 cutB
 simp only [pw_of h1 h2,pw_of h3 h4,pw_of h5 h6,(wdsS_wd (wide_i64 h1)).1,(wdsS_wd (wide_i64 h2)).1,(wdsS_wd (wide_i64 h3)).1,(wdsS_wd (wide_i64 h4)).1,(wdsS_wd (wide_i64 h5)).1,(wdsS_wd (wide_i64 h6)).1,(wdsS_wd (wide_i64 one_i64)).1,resBy_num,unNum_numF,Int.mul_one,n4 h2,n4 h4,n4 h6,n3 h2,n3 h4,n3 h6,s,s0,det_cross,Bool.and_true,Bool.and_self,bsel_true]
 cases decide (ay > py) <;> cases decide (bY > py) <;> rfl
def preBtw:List F→Bool | [a,b,p]=>isPtw a&&isPtw b&&isPtw p | _=>false
def bwsV (ax ay bx bY px py:Int):Bool:=btwS ax ay bx bY px py
def crsV (ax ay bx bY px py:Int):Bool:=cutB ax ay bx bY px py
def resBtw:List F→F | [a,b,p]=>.bool (bwsV (unPx a) (unPy a) (unPx b) (unPy b) (unPx p) (unPy p)) | _=>.dflt
def resCrs:List F→F | [a,b,p]=>.bool (crsV (unPx a) (unPy a) (unPx b) (unPy b) (unPx p) (unPy p)) | _=>.dflt
theorem okBtw:PureOK Tryz.prog 60 preBtw resBtw :=
 fn_pure_at (c:=bodyOf Tryz.f60) Tryz.func60 (by kernel_rfl) (by kernel_rfl) fun xs hp=>match xs,hp with
 | [a,b,p],hp=>by
  simp only [preBtw,Bool.and_eq_true] at hp
  obtain ⟨e1,i1,j1⟩:=ptw_form hp.1.1
  obtain ⟨e2,i2,j2⟩:=ptw_form hp.1.2
  obtain ⟨e3,i3,j3⟩:=ptw_form hp.2
  refine ⟨[ptwsF (unPx a) (unPy a),ptwsF (unPx b) (unPy b),ptwsF (unPx p) (unPy p)],_,?_,t60 _ _ _ _ _ _ _ (between_law i1 j1 i2 j2 i3 j3),.refl _⟩
  rw [← e1,← e2,← e3]
  exact FsLe.refl _
theorem okCrs:PureOK Tryz.prog 61 preBtw resCrs :=
 fn_pure_at (c:=bodyOf Tryz.f61) Tryz.func61 (by kernel_rfl) (by kernel_rfl) fun xs hp=>match xs,hp with
 | [a,b,p],hp=>by
  simp only [preBtw,Bool.and_eq_true] at hp
  obtain ⟨e1,i1,j1⟩:=ptw_form hp.1.1
  obtain ⟨e2,i2,j2⟩:=ptw_form hp.1.2
  obtain ⟨e3,i3,j3⟩:=ptw_form hp.2
  refine ⟨[ptwsF (unPx a) (unPy a),ptwsF (unPx b) (unPy b),ptwsF (unPx p) (unPy p)],_,?_,t61 _ _ _ _ _ _ _ (crosses_law i1 j1 i2 j2 i3 j3),.refl _⟩
  rw [← e1,← e2,← e3]
  exact FsLe.refl _
def resPtF:List F→F | [.agg [.int .i64 x,.int .i64 y]]=>ptwsF x y | _=>.dflt
theorem okPtF:PureOK Tryz.prog 39 preI2 resPtF :=
 fn_pure (c:=bodyOf Tryz.f39) Tryz.func39 (by kernel_rfl) (by kernel_rfl) fun xs hp=>match xs,hp with
 | [.agg [.int .i64 x,.int .i64 y]],hp=>by
  simp only [preI2,Bool.and_eq_true] at hp
  exact t39 x y _ (by unfold G39 T39;rw [hp.1,hp.2];rfl)
def envA2:Env:=((envA1.add 60 (.pure preBtw resBtw)).add 61 (.pure preBtw resCrs)).add 39 (.pure preI2 resPtF)
theorem envA2_ok:EnvOK Tryz.prog envA2:=(Env.add_ok (Env.add_ok (Env.add_ok envA1_ok okBtw.sp) okCrs.sp) okPtF.sp)
end
noncomputable section
set_option maxHeartbeats 1000000
/-! ### function 38 -/
def S38_3 (q:List Pt) (px:Int) (py:Int) (ins:Bool) (i:Int):St:=⟨bads 2 ((U.hp 0 0) :: (U.hp 1 0) :: bads 1 ((U.f (F.bool ins)) :: bads 5 ((U.f (ptsF q)) :: (U.f (F.int .i64 q.length)) :: (U.f (F.int .i64 i)) :: bads 29 []))),[HO.box [(U.f (ptsF q))],HO.box [(U.f (F.int .u64 (wd3 px))),(U.f (F.int .u64 (wd2 px))),(U.f (F.int .u64 (wd1 px))),(U.f (F.int .u64 (wd0 px))),(U.f (F.int .u64 (wd3 py))),(U.f (F.int .u64 (wd2 py))),(U.f (F.int .u64 (wd1 py))),(U.f (F.int .u64 (wd0 py))),(U.f (F.int .u64 (wd3 1))),(U.f (F.int .u64 (wd2 1))),(U.f (F.int .u64 (wd1 1))),(U.f (F.int .u64 (wd0 1)))]]⟩
def T38_3 {ρ:Type} (ret:KJ86 ρ) (c3:(List Pt)→(Int)→(Int)→(Bool)→(Int)→Option ρ) (q:List Pt) (px:Int) (py:Int) (ins:Bool) (i:Int):Option ρ :=
 (bsel (decide (i<(↑q.length:Int)))
 (bsel (decide (0≤i))
 (bsel (decide (i<(↑q.length:Int)))
 (bsel (isI64 (q.getD i.toNat Pt.zero).x&&isI64 (q.getD i.toNat Pt.zero).y)
 (bsel ((↑q.length:Int) != 0)
 (bsel (decide (0≤(IntKind.i64.wrap (i+1)).tmod (↑q.length:Int)))
 (bsel (decide ((IntKind.i64.wrap (i+1)).tmod (↑q.length:Int)<(↑q.length:Int)))
 (bsel (isI64 (q.getD ((IntKind.i64.wrap (i+1)).tmod (↑q.length:Int)).toNat Pt.zero).x&&isI64 (q.getD ((IntKind.i64.wrap (i+1)).tmod (↑q.length:Int)).toNat Pt.zero).y)
 (bsel (isPtw (F.agg [F.int .u64 (wd3 (q.getD i.toNat Pt.zero).x),F.int .u64 (wd2 (q.getD i.toNat Pt.zero).x),F.int .u64 (wd1 (q.getD i.toNat Pt.zero).x),F.int .u64 (wd0 (q.getD i.toNat Pt.zero).x),F.int .u64 (wd3 (q.getD i.toNat Pt.zero).y),F.int .u64 (wd2 (q.getD i.toNat Pt.zero).y),F.int .u64 (wd1 (q.getD i.toNat Pt.zero).y),F.int .u64 (wd0 (q.getD i.toNat Pt.zero).y),F.int .u64 (wd3 1),F.int .u64 (wd2 1),F.int .u64 (wd1 1),F.int .u64 (wd0 1)])&&isPtw (F.agg [F.int .u64 (wd3 (q.getD ((IntKind.i64.wrap (i+1)).tmod (↑q.length:Int)).toNat Pt.zero).x),F.int .u64 (wd2 (q.getD ((IntKind.i64.wrap (i+1)).tmod (↑q.length:Int)).toNat Pt.zero).x),F.int .u64 (wd1 (q.getD ((IntKind.i64.wrap (i+1)).tmod (↑q.length:Int)).toNat Pt.zero).x),F.int .u64 (wd0 (q.getD ((IntKind.i64.wrap (i+1)).tmod (↑q.length:Int)).toNat Pt.zero).x),F.int .u64 (wd3 (q.getD ((IntKind.i64.wrap (i+1)).tmod (↑q.length:Int)).toNat Pt.zero).y),F.int .u64 (wd2 (q.getD ((IntKind.i64.wrap (i+1)).tmod (↑q.length:Int)).toNat Pt.zero).y),F.int .u64 (wd1 (q.getD ((IntKind.i64.wrap (i+1)).tmod (↑q.length:Int)).toNat Pt.zero).y),F.int .u64 (wd0 (q.getD ((IntKind.i64.wrap (i+1)).tmod (↑q.length:Int)).toNat Pt.zero).y),F.int .u64 (wd3 1),F.int .u64 (wd2 1),F.int .u64 (wd1 1),F.int .u64 (wd0 1)])&&isPtw (F.agg [F.int .u64 (wd3 px),F.int .u64 (wd2 px),F.int .u64 (wd1 px),F.int .u64 (wd0 px),F.int .u64 (wd3 py),F.int .u64 (wd2 py),F.int .u64 (wd1 py),F.int .u64 (wd0 py),F.int .u64 (wd3 1),F.int .u64 (wd2 1),F.int .u64 (wd1 1),F.int .u64 (wd0 1)]))
 (bsel (bwsV (unPx (F.agg [F.int .u64 (wd3 (q.getD i.toNat Pt.zero).x),F.int .u64 (wd2 (q.getD i.toNat Pt.zero).x),F.int .u64 (wd1 (q.getD i.toNat Pt.zero).x),F.int .u64 (wd0 (q.getD i.toNat Pt.zero).x),F.int .u64 (wd3 (q.getD i.toNat Pt.zero).y),F.int .u64 (wd2 (q.getD i.toNat Pt.zero).y),F.int .u64 (wd1 (q.getD i.toNat Pt.zero).y),F.int .u64 (wd0 (q.getD i.toNat Pt.zero).y),F.int .u64 (wd3 1),F.int .u64 (wd2 1),F.int .u64 (wd1 1),F.int .u64 (wd0 1)])) (unPy (F.agg [F.int .u64 (wd3 (q.getD i.toNat Pt.zero).x),F.int .u64 (wd2 (q.getD i.toNat Pt.zero).x),F.int .u64 (wd1 (q.getD i.toNat Pt.zero).x),F.int .u64 (wd0 (q.getD i.toNat Pt.zero).x),F.int .u64 (wd3 (q.getD i.toNat Pt.zero).y),F.int .u64 (wd2 (q.getD i.toNat Pt.zero).y),F.int .u64 (wd1 (q.getD i.toNat Pt.zero).y),F.int .u64 (wd0 (q.getD i.toNat Pt.zero).y),F.int .u64 (wd3 1),F.int .u64 (wd2 1),F.int .u64 (wd1 1),F.int .u64 (wd0 1)])) (unPx (F.agg [F.int .u64 (wd3 (q.getD ((IntKind.i64.wrap (i+1)).tmod (↑q.length:Int)).toNat Pt.zero).x),F.int .u64 (wd2 (q.getD ((IntKind.i64.wrap (i+1)).tmod (↑q.length:Int)).toNat Pt.zero).x),F.int .u64 (wd1 (q.getD ((IntKind.i64.wrap (i+1)).tmod (↑q.length:Int)).toNat Pt.zero).x),F.int .u64 (wd0 (q.getD ((IntKind.i64.wrap (i+1)).tmod (↑q.length:Int)).toNat Pt.zero).x),F.int .u64 (wd3 (q.getD ((IntKind.i64.wrap (i+1)).tmod (↑q.length:Int)).toNat Pt.zero).y),F.int .u64 (wd2 (q.getD ((IntKind.i64.wrap (i+1)).tmod (↑q.length:Int)).toNat Pt.zero).y),F.int .u64 (wd1 (q.getD ((IntKind.i64.wrap (i+1)).tmod (↑q.length:Int)).toNat Pt.zero).y),F.int .u64 (wd0 (q.getD ((IntKind.i64.wrap (i+1)).tmod (↑q.length:Int)).toNat Pt.zero).y),F.int .u64 (wd3 1),F.int .u64 (wd2 1),F.int .u64 (wd1 1),F.int .u64 (wd0 1)])) (unPy (F.agg [F.int .u64 (wd3 (q.getD ((IntKind.i64.wrap (i+1)).tmod (↑q.length:Int)).toNat Pt.zero).x),F.int .u64 (wd2 (q.getD ((IntKind.i64.wrap (i+1)).tmod (↑q.length:Int)).toNat Pt.zero).x),F.int .u64 (wd1 (q.getD ((IntKind.i64.wrap (i+1)).tmod (↑q.length:Int)).toNat Pt.zero).x),F.int .u64 (wd0 (q.getD ((IntKind.i64.wrap (i+1)).tmod (↑q.length:Int)).toNat Pt.zero).x),F.int .u64 (wd3 (q.getD ((IntKind.i64.wrap (i+1)).tmod (↑q.length:Int)).toNat Pt.zero).y),F.int .u64 (wd2 (q.getD ((IntKind.i64.wrap (i+1)).tmod (↑q.length:Int)).toNat Pt.zero).y),F.int .u64 (wd1 (q.getD ((IntKind.i64.wrap (i+1)).tmod (↑q.length:Int)).toNat Pt.zero).y),F.int .u64 (wd0 (q.getD ((IntKind.i64.wrap (i+1)).tmod (↑q.length:Int)).toNat Pt.zero).y),F.int .u64 (wd3 1),F.int .u64 (wd2 1),F.int .u64 (wd1 1),F.int .u64 (wd0 1)])) (unPx (F.agg [F.int .u64 (wd3 px),F.int .u64 (wd2 px),F.int .u64 (wd1 px),F.int .u64 (wd0 px),F.int .u64 (wd3 py),F.int .u64 (wd2 py),F.int .u64 (wd1 py),F.int .u64 (wd0 py),F.int .u64 (wd3 1),F.int .u64 (wd2 1),F.int .u64 (wd1 1),F.int .u64 (wd0 1)])) (unPy (F.agg [F.int .u64 (wd3 px),F.int .u64 (wd2 px),F.int .u64 (wd1 px),F.int .u64 (wd0 px),F.int .u64 (wd3 py),F.int .u64 (wd2 py),F.int .u64 (wd1 py),F.int .u64 (wd0 py),F.int .u64 (wd3 1),F.int .u64 (wd2 1),F.int .u64 (wd1 1),F.int .u64 (wd0 1)])))
 (ret (0))
 (bsel (isPtw (F.agg [F.int .u64 (wd3 (q.getD i.toNat Pt.zero).x),F.int .u64 (wd2 (q.getD i.toNat Pt.zero).x),F.int .u64 (wd1 (q.getD i.toNat Pt.zero).x),F.int .u64 (wd0 (q.getD i.toNat Pt.zero).x),F.int .u64 (wd3 (q.getD i.toNat Pt.zero).y),F.int .u64 (wd2 (q.getD i.toNat Pt.zero).y),F.int .u64 (wd1 (q.getD i.toNat Pt.zero).y),F.int .u64 (wd0 (q.getD i.toNat Pt.zero).y),F.int .u64 (wd3 1),F.int .u64 (wd2 1),F.int .u64 (wd1 1),F.int .u64 (wd0 1)])&&isPtw (F.agg [F.int .u64 (wd3 (q.getD ((IntKind.i64.wrap (i+1)).tmod (↑q.length:Int)).toNat Pt.zero).x),F.int .u64 (wd2 (q.getD ((IntKind.i64.wrap (i+1)).tmod (↑q.length:Int)).toNat Pt.zero).x),F.int .u64 (wd1 (q.getD ((IntKind.i64.wrap (i+1)).tmod (↑q.length:Int)).toNat Pt.zero).x),F.int .u64 (wd0 (q.getD ((IntKind.i64.wrap (i+1)).tmod (↑q.length:Int)).toNat Pt.zero).x),F.int .u64 (wd3 (q.getD ((IntKind.i64.wrap (i+1)).tmod (↑q.length:Int)).toNat Pt.zero).y),F.int .u64 (wd2 (q.getD ((IntKind.i64.wrap (i+1)).tmod (↑q.length:Int)).toNat Pt.zero).y),F.int .u64 (wd1 (q.getD ((IntKind.i64.wrap (i+1)).tmod (↑q.length:Int)).toNat Pt.zero).y),F.int .u64 (wd0 (q.getD ((IntKind.i64.wrap (i+1)).tmod (↑q.length:Int)).toNat Pt.zero).y),F.int .u64 (wd3 1),F.int .u64 (wd2 1),F.int .u64 (wd1 1),F.int .u64 (wd0 1)])&&isPtw (F.agg [F.int .u64 (wd3 px),F.int .u64 (wd2 px),F.int .u64 (wd1 px),F.int .u64 (wd0 px),F.int .u64 (wd3 py),F.int .u64 (wd2 py),F.int .u64 (wd1 py),F.int .u64 (wd0 py),F.int .u64 (wd3 1),F.int .u64 (wd2 1),F.int .u64 (wd1 1),F.int .u64 (wd0 1)]))
 (bsel (crsV (unPx (F.agg [F.int .u64 (wd3 (q.getD i.toNat Pt.zero).x),F.int .u64 (wd2 (q.getD i.toNat Pt.zero).x),F.int .u64 (wd1 (q.getD i.toNat Pt.zero).x),F.int .u64 (wd0 (q.getD i.toNat Pt.zero).x),F.int .u64 (wd3 (q.getD i.toNat Pt.zero).y),F.int .u64 (wd2 (q.getD i.toNat Pt.zero).y),F.int .u64 (wd1 (q.getD i.toNat Pt.zero).y),F.int .u64 (wd0 (q.getD i.toNat Pt.zero).y),F.int .u64 (wd3 1),F.int .u64 (wd2 1),F.int .u64 (wd1 1),F.int .u64 (wd0 1)])) (unPy (F.agg [F.int .u64 (wd3 (q.getD i.toNat Pt.zero).x),F.int .u64 (wd2 (q.getD i.toNat Pt.zero).x),F.int .u64 (wd1 (q.getD i.toNat Pt.zero).x),F.int .u64 (wd0 (q.getD i.toNat Pt.zero).x),F.int .u64 (wd3 (q.getD i.toNat Pt.zero).y),F.int .u64 (wd2 (q.getD i.toNat Pt.zero).y),F.int .u64 (wd1 (q.getD i.toNat Pt.zero).y),F.int .u64 (wd0 (q.getD i.toNat Pt.zero).y),F.int .u64 (wd3 1),F.int .u64 (wd2 1),F.int .u64 (wd1 1),F.int .u64 (wd0 1)])) (unPx (F.agg [F.int .u64 (wd3 (q.getD ((IntKind.i64.wrap (i+1)).tmod (↑q.length:Int)).toNat Pt.zero).x),F.int .u64 (wd2 (q.getD ((IntKind.i64.wrap (i+1)).tmod (↑q.length:Int)).toNat Pt.zero).x),F.int .u64 (wd1 (q.getD ((IntKind.i64.wrap (i+1)).tmod (↑q.length:Int)).toNat Pt.zero).x),F.int .u64 (wd0 (q.getD ((IntKind.i64.wrap (i+1)).tmod (↑q.length:Int)).toNat Pt.zero).x),F.int .u64 (wd3 (q.getD ((IntKind.i64.wrap (i+1)).tmod (↑q.length:Int)).toNat Pt.zero).y),F.int .u64 (wd2 (q.getD ((IntKind.i64.wrap (i+1)).tmod (↑q.length:Int)).toNat Pt.zero).y),F.int .u64 (wd1 (q.getD ((IntKind.i64.wrap (i+1)).tmod (↑q.length:Int)).toNat Pt.zero).y),F.int .u64 (wd0 (q.getD ((IntKind.i64.wrap (i+1)).tmod (↑q.length:Int)).toNat Pt.zero).y),F.int .u64 (wd3 1),F.int .u64 (wd2 1),F.int .u64 (wd1 1),F.int .u64 (wd0 1)])) (unPy (F.agg [F.int .u64 (wd3 (q.getD ((IntKind.i64.wrap (i+1)).tmod (↑q.length:Int)).toNat Pt.zero).x),F.int .u64 (wd2 (q.getD ((IntKind.i64.wrap (i+1)).tmod (↑q.length:Int)).toNat Pt.zero).x),F.int .u64 (wd1 (q.getD ((IntKind.i64.wrap (i+1)).tmod (↑q.length:Int)).toNat Pt.zero).x),F.int .u64 (wd0 (q.getD ((IntKind.i64.wrap (i+1)).tmod (↑q.length:Int)).toNat Pt.zero).x),F.int .u64 (wd3 (q.getD ((IntKind.i64.wrap (i+1)).tmod (↑q.length:Int)).toNat Pt.zero).y),F.int .u64 (wd2 (q.getD ((IntKind.i64.wrap (i+1)).tmod (↑q.length:Int)).toNat Pt.zero).y),F.int .u64 (wd1 (q.getD ((IntKind.i64.wrap (i+1)).tmod (↑q.length:Int)).toNat Pt.zero).y),F.int .u64 (wd0 (q.getD ((IntKind.i64.wrap (i+1)).tmod (↑q.length:Int)).toNat Pt.zero).y),F.int .u64 (wd3 1),F.int .u64 (wd2 1),F.int .u64 (wd1 1),F.int .u64 (wd0 1)])) (unPx (F.agg [F.int .u64 (wd3 px),F.int .u64 (wd2 px),F.int .u64 (wd1 px),F.int .u64 (wd0 px),F.int .u64 (wd3 py),F.int .u64 (wd2 py),F.int .u64 (wd1 py),F.int .u64 (wd0 py),F.int .u64 (wd3 1),F.int .u64 (wd2 1),F.int .u64 (wd1 1),F.int .u64 (wd0 1)])) (unPy (F.agg [F.int .u64 (wd3 px),F.int .u64 (wd2 px),F.int .u64 (wd1 px),F.int .u64 (wd0 px),F.int .u64 (wd3 py),F.int .u64 (wd2 py),F.int .u64 (wd1 py),F.int .u64 (wd0 py),F.int .u64 (wd3 1),F.int .u64 (wd2 1),F.int .u64 (wd1 1),F.int .u64 (wd0 1)])))
 (c3 (q) (px) (py) (!ins) (IntKind.i64.wrap (i+1)))
 (c3 (q) (px) (py) (ins) (IntKind.i64.wrap (i+1))))
 none))
 none)
 none)
 none)
 none)
 none)
 none)
 none)
 none)
 (bsel (ins)
 (ret (1))
 (ret (-1))))
def L38_3:Nat→(List Pt)→(Int)→(Int)→(Bool)→(Int)→Option (Int)
 | 0,_,_,_,_,_=>none
 | k+1,q,px,py,ins,i=>T38_3 some (L38_3 k) q px py ins i
def T38 {ρ:Type} (ret:KJ86 ρ) (c3:(List Pt)→(Int)→(Int)→(Bool)→(Int)→Option ρ) (q:List Pt) (px:Int) (py:Int):Option ρ :=
 (c3 (q) (px) (py) (false) (0))
def G38 (k:Nat) (q:List Pt) (px:Int) (py:Int):Option (Int):=T38 some (L38_3 k) q px py
theorem t38_3:∀ (k:Nat) (q:List Pt) (px:Int) (py:Int) (ins:Bool) (i:Int) (r:Int),L38_3 k q px py ins i=some r→Ends Tryz.prog Tryz.f38.results.toList (at_ Tryz.f38 3) (S38_3 q px py ins i) (F.int .i64 r)
 | 0,_,_,_,_,_,_,h=>nomatch h
 | k+1,q,px,py,ins,i,r,h=>by
  refine Ends.of_cut tyOK envA2_ok (T:=[(3,[2,3,5,11,12,13],1000)]) (n:=200) ?_
  refine gE (Y:=T38_3 (fun r=>some (.ret (F.int .i64 r))) (fun q px py ins i=>some (.cut (at_ Tryz.f38 3) (S38_3 q px py ins i))) q px py ins i) (by kernel_rfl) ?_
  exact (gS h (fun _ h=>(gS h (fun _ h=>(gS h (fun _ h=>(gS h (fun _ h=>(gS h (fun _ h=>(gS h (fun _ h=>(gS h (fun _ h=>(gS h (fun _ h=>(gS h (fun _ h=>(gS h (fun _ h=>gR (by cases h;rfl)) (fun _ h=>(gS h (fun _ h=>(gS h (fun _ h=>gC (t38_3 k _ _ _ _ _ r h)) (fun _ h=>gC (t38_3 k _ _ _ _ _ r h)))) gN)))) gN)) gN)) gN)) gN)) gN)) gN)) gN)) gN)) (fun _ h=>(gS h (fun _ h=>gR (by cases h;rfl)) (fun _ h=>gR (by cases h;rfl)))))
theorem t38 (k:Nat) (q:List Pt) (px:Int) (py:Int) (r:Int) (h:G38 k q px py=some r):Ends Tryz.prog Tryz.f38.results.toList [.code (bodyOf Tryz.f38)] (start Tryz.f38.ntmps ([F.agg [ptsF q],F.agg [F.int .u64 (wd3 px),F.int .u64 (wd2 px),F.int .u64 (wd1 px),F.int .u64 (wd0 px),F.int .u64 (wd3 py),F.int .u64 (wd2 py),F.int .u64 (wd1 py),F.int .u64 (wd0 py),F.int .u64 (wd3 1),F.int .u64 (wd2 1),F.int .u64 (wd1 1),F.int .u64 (wd0 1)]].map .f)) (F.int .i64 r):=by
 refine Ends.of_run tyOK envA2_ok (T:=[(3,[2,3,5,11,12,13],1000)]) (n:=200) ?_
 refine gE (Y:=T38 (fun r=>some (.ret (F.int .i64 r))) (fun q px py ins i=>some (.cut (at_ Tryz.f38 3) (S38_3 q px py ins i))) q px py) (by kernel_rfl) ?_
 exact gC (t38_3 k _ _ _ _ _ r h)
theorem ptw_fold (x y:Int):F.agg [F.int .u64 (wd3 x),F.int .u64 (wd2 x),F.int .u64 (wd1 x),F.int .u64 (wd0 x),F.int .u64 (wd3 y),F.int .u64 (wd2 y),F.int .u64 (wd1 y),F.int .u64 (wd0 y),F.int .u64 (wd3 1),F.int .u64 (wd2 1),F.int .u64 (wd1 1),F.int .u64 (wd0 1)]=ptwsF x y:=rfl
def rx (q:List Pt) (i:Nat):Int:=(q.getD i .zero).x
def ry (q:List Pt) (i:Nat):Int:=(q.getD i .zero).y
def btwAt (q:List Pt) (px py:Int) (i:Nat):Bool:=btwS (rx q i) (ry q i) (rx q ((i+1) % q.length)) (ry q ((i+1) % q.length)) px py
def cutAt (q:List Pt) (px py:Int) (i:Nat):Bool:=cutB (rx q i) (ry q i) (rx q ((i+1) % q.length)) (ry q ((i+1) % q.length)) px py
def sideGo (q:List Pt) (px py:Int):Nat→Nat→Bool→Int
 | 0,_,b=>bif b then 1 else -1
 | d+1,i,b=>bif btwAt q px py i then 0 else sideGo q px py d (i+1) (b.xor (cutAt q px py i))
def sidePV (q:List Pt) (px py:Int):Int:=sideGo q px py q.length 0 false
theorem ringAt_i64 {q:List Pt} (h:RingIn q) {i:Nat} (hi:i<q.length):isI64 (q.getD i .zero).x=true∧isI64 (q.getD i .zero).y=true:=by
 have:=h.spots _ (getD_in (d:=.zero) hi)
 unfold spotIn at this
 exact ⟨isI64_iff.2 (by omega),isI64_iff.2 (by omega)⟩
theorem side_loop {q:List Pt} (hq:RingIn q) {px py:Int} (hx:isI64 px=true) (hy:isI64 py=true):∀ (d i:Nat) (b:Bool),i+d=q.length→L38_3 (d+1) q px py b i=some (sideGo q px py d i b)
 | 0,i,b,h=>by
  have c1:decide ((i:Int)<(q.length:Int))=false:=decide_eq_false (by omega)
  rw [L38_3]
  simp only [T38_3,c1,bsel_false,sideGo]
  cases b <;> rfl
 | d+1,i,b,h=>by
  have hi:i<q.length:=by omega
  have hn:=hq.high
  obtain ⟨c1,c2,c3,c4,c5,c6⟩:=next_conds hi (show q.length≤1000 by omega)
  obtain ⟨i1,i2⟩:=ringAt_i64 hq hi
  obtain ⟨j1,j2⟩:=ringAt_i64 hq (Nat.mod_lt (i+1) (show 0<q.length by omega))
  rw [L38_3,sideGo]
  simp only [T38_3,c1,tmod_nat,c2,c3,c4,c5,c6,Int.toNat_natCast,ptw_fold,isPtw_ptw,unPx_ptw,unPy_ptw,i1,i2,j1,j2,hx,hy,Bool.and_self,bsel_true]
  have e1:bwsV (q.getD i .zero).x (q.getD i .zero).y (q.getD ((i+1) % q.length) .zero).x (q.getD ((i+1) % q.length) .zero).y px py=btwAt q px py i:=rfl
  have e2:crsV (q.getD i .zero).x (q.getD i .zero).y (q.getD ((i+1) % q.length) .zero).x (q.getD ((i+1) % q.length) .zero).y px py=cutAt q px py i:=rfl
  rw [e1,e2,side_loop hq hx hy d (i+1) _ (by omega),side_loop hq hx hy d (i+1) _ (by omega)]
  cases btwAt q px py i <;> cases cutAt q px py i <;> cases b <;> rfl
def preSideP:List F→Bool | [r,p]=>isRing r&&rightV (unRing r)&&isPtw p | _=>false
def resSideP:List F→F | [r,p]=>.int .i64 (sidePV (unRing r) (unPx p) (unPy p)) | _=>.dflt
theorem okSideP:PureOK Tryz.prog 38 preSideP resSideP :=
 fn_pure_at (c:=bodyOf Tryz.f38) Tryz.func38 (by kernel_rfl) (by kernel_rfl) fun xs hp=>match xs,hp with
 | [r,p],hp=>by
  simp only [preSideP,Bool.and_eq_true] at hp
  obtain ⟨e1,i1,j1⟩:=ptw_form hp.2
  refine ⟨[ringF (unRing r),ptwsF (unPx p) (unPy p)],_,⟨(ring_eqv hp.1.1).1,by rw [← e1];exact .refl _,trivial⟩,t38 ((unRing r).length+1) _ _ _ _ (side_loop (right_in hp.1.2) i1 j1 (unRing r).length 0 false (by omega)),.refl _⟩
def envA3:Env:=envA2.add 38 (.pure preSideP resSideP)
theorem envA3_ok:EnvOK Tryz.prog envA3:=(Env.add_ok envA2_ok okSideP.sp)
end
noncomputable section
/-! ### function 21 -/
def T21 {ρ:Type} (ret:KJ87 ρ) (q:List Pt):Option ρ :=
 (bsel (isRing (F.agg [ptsF q]))
 (ret (fault3V (unRing (F.agg [ptsF q]))==0))
 none)
def G21 (q:List Pt):Option (Bool):=T21 some q
theorem t21 (q:List Pt) (r:Bool) (h:G21 q=some r):Ends Tryz.prog Tryz.f21.results.toList [.code (bodyOf Tryz.f21)] (start Tryz.f21.ntmps ([F.agg [ptsF q]].map .f)) (F.bool r):=by
 refine Ends.of_run tyOK envA3_ok (T:=[]) (n:=200) ?_
 refine gE (Y:=T21 (fun r=>some (.ret (F.bool r))) q) (by kernel_rfl) ?_
 exact (gS h (fun _ h=>gR (by cases h;rfl)) gN)
/-! ### function 22 -/
def T22 {ρ:Type} (ret:KJ87 ρ) (q:List Pt) (p:List Pt):Option ρ :=
 (bsel (isRing (F.agg [ptsF q])&&isRing (F.agg [ptsF p])&&(rightV (unRing (F.agg [ptsF q]))&&rightV (unRing (F.agg [ptsF p]))))
 (bsel ((!ringsV (unRing (F.agg [ptsF q])) (unRing (F.agg [ptsF p])))==true)
 (bsel (decide (0<(↑q.length:Int)))
 (bsel (isI64 (q.getD (Int.toNat 0) Pt.zero).x&&isI64 (q.getD (Int.toNat 0) Pt.zero).y)
 (bsel (isRing (F.agg [ptsF p])&&rightV (unRing (F.agg [ptsF p]))&&isPtw (resPtF [F.agg [F.int .i64 (q.getD (Int.toNat 0) Pt.zero).x,F.int .i64 (q.getD (Int.toNat 0) Pt.zero).y]]))
 (ret (sidePV (unRing (F.agg [ptsF p])) (unPx (resPtF [F.agg [F.int .i64 (q.getD (Int.toNat 0) Pt.zero).x,F.int .i64 (q.getD (Int.toNat 0) Pt.zero).y]])) (unPy (resPtF [F.agg [F.int .i64 (q.getD (Int.toNat 0) Pt.zero).x,F.int .i64 (q.getD (Int.toNat 0) Pt.zero).y]]))==1))
 none)
 none)
 none)
 (ret (false)))
 none)
def G22 (q:List Pt) (p:List Pt):Option (Bool):=T22 some q p
theorem t22 (q:List Pt) (p:List Pt) (r:Bool) (h:G22 q p=some r):Ends Tryz.prog Tryz.f22.results.toList [.code (bodyOf Tryz.f22)] (start Tryz.f22.ntmps ([F.agg [ptsF q],F.agg [ptsF p]].map .f)) (F.bool r):=by
 refine Ends.of_run tyOK envA3_ok (T:=[]) (n:=200) ?_
 refine gE (Y:=T22 (fun r=>some (.ret (F.bool r))) q p) (by kernel_rfl) ?_
 exact (gS h (fun _ h=>(gS h (fun _ h=>(gS h (fun _ h=>(gS h (fun _ h=>(gS h (fun _ h=>gR (by cases h;rfl)) gN)) gN)) gN)) (fun _ h=>gR (by cases h;rfl)))) gN)
def resIsRing:List F→F | [x]=>.bool (rightV (unRing x)) | _=>.dflt
theorem okIsRing:PureOK Tryz.prog 21 preRg resIsRing :=
 fn_pure_at (c:=bodyOf Tryz.f21) Tryz.func21 (by kernel_rfl) (by kernel_rfl) fun xs hp=>match xs,hp with
 | [x],hp=>⟨[ringF (unRing x)],_,⟨(ring_eqv hp).1,trivial⟩,t21 _ (rightV (unRing x)) (by
   unfold G21 T21
   simp only [unRing_agg,isRing_agg,bsel_true]
   rfl),.refl _⟩
def inRgV (q p:List Pt):Bool:=!ringsV q p&&sidePV p (rx q 0) (ry q 0)==1
theorem ringIn_law {q p:List Pt} (hq:rightV q=true) (hp:rightV p=true):G22 q p=some (inRgV q p):=by
 have h1:=right_in hq
 have hl:=h1.low
 obtain ⟨i1,i2⟩:=ringAt_i64 h1 (show 0<q.length by omega)
 have tt:∀ b:Bool,(b==true)=b:=fun b=>by cases b <;> rfl
 have e:resPtF [F.agg [F.int .i64 (q.getD 0 Pt.zero).x,F.int .i64 (q.getD 0 Pt.zero).y]]=ptwsF (q.getD 0 Pt.zero).x (q.getD 0 Pt.zero).y:=rfl
 unfold G22 T22 inRgV
 simp only [unRing_agg,isRing_agg,hq,hp,tt,Int.toNat_zero,decide_eq_true (show (0:Int)<(q.length:Int) by omega),i1,i2,e,isPtw_ptw,unPx_ptw,unPy_ptw,Bool.and_self,bsel_true]
 cases ringsV q p <;> rfl
def resInRg:List F→F | [x,y]=>.bool (inRgV (unRing x) (unRing y)) | _=>.dflt
theorem okInRg:PureOK Tryz.prog 22 preRings resInRg :=
 fn_pure_at (c:=bodyOf Tryz.f22) Tryz.func22 (by kernel_rfl) (by kernel_rfl) fun xs hp=>match xs,hp with
 | [x,y],hp=>by
  simp only [preRings,Bool.and_eq_true] at hp
  exact ⟨[ringF (unRing x),ringF (unRing y)],_,⟨(ring_eqv hp.1.1).1,(ring_eqv hp.1.2).1,trivial⟩,t22 _ _ _ (ringIn_law hp.2.1 hp.2.2),.refl _⟩
def envA4:Env:=(envA3.add 21 (.pure preRg resIsRing)).add 22 (.pure preRings resInRg)
theorem envA4_ok:EnvOK Tryz.prog envA4:=(Env.add_ok (Env.add_ok envA3_ok okIsRing.sp) okInRg.sp)
end
noncomputable section
/-! ### function 8 -/
def T8 {ρ:Type} (ret:KJ87 ρ) (q:List Pt) (p:List Pt):Option ρ :=
 (bsel (isRing (F.agg [ptsF q]))
 (bsel (rightV (unRing (F.agg [ptsF q]))==true)
 (bsel (isRing (F.agg [ptsF p]))
 (bsel (rightV (unRing (F.agg [ptsF p]))==true)
 (bsel (isRing (F.agg [ptsF q])&&isRing (F.agg [ptsF p])&&(rightV (unRing (F.agg [ptsF q]))&&rightV (unRing (F.agg [ptsF p]))))
 (ret (inRgV (unRing (F.agg [ptsF q])) (unRing (F.agg [ptsF p]))))
 none)
 (ret (false)))
 none)
 (ret (false)))
 none)
def G8 (q:List Pt) (p:List Pt):Option (Bool):=T8 some q p
theorem t8 (q:List Pt) (p:List Pt) (r:Bool) (h:G8 q p=some r):Ends Tryz.prog Tryz.f8.results.toList [.code (bodyOf Tryz.f8)] (start Tryz.f8.ntmps ([F.agg [ptsF q],F.agg [ptsF p]].map .f)) (F.bool r):=by
 refine Ends.of_run tyOK envA4_ok (T:=[]) (n:=200) ?_
 refine gE (Y:=T8 (fun r=>some (.ret (F.bool r))) q p) (by kernel_rfl) ?_
 exact (gS h (fun _ h=>(gS h (fun _ h=>(gS h (fun _ h=>(gS h (fun _ h=>(gS h (fun _ h=>gR (by cases h;rfl)) gN)) (fun _ h=>gR (by cases h;rfl)))) gN)) (fun _ h=>gR (by cases h;rfl)))) gN)
/-! ### function 25 -/
def S25_3 (l:List (List Pt)) (j:Int) (n:Int) (i:Int):St:=⟨(U.f (ringsF l)) :: (U.f (F.int .i64 j)) :: bads 3 ((U.f (F.int .i64 n)) :: bads 2 ((U.f (ringsF l)) :: (U.f (F.int .i64 l.length)) :: (U.f (F.int .i64 i)) :: bads 19 [])),[]⟩
def T25_3 {ρ:Type} (ret:KJ86 ρ) (c3:KJ810 ρ) (l:List (List Pt)) (j:Int) (n:Int) (i:Int):Option ρ :=
 (bsel (decide (i<(↑l.length:Int)))
 (bsel (decide (0≤i))
 (bsel (decide (i<(↑l.length:Int)))
 (bsel ((i != j)==true)
 (bsel (decide (0≤j))
 (bsel (decide (j<(↑l.length:Int)))
 (bsel (isRing (F.agg [ptsF (l.getD j.toNat [])])&&isRing (F.agg [ptsF (l.getD i.toNat [])])&&(rightV (unRing (F.agg [ptsF (l.getD j.toNat [])]))&&rightV (unRing (F.agg [ptsF (l.getD i.toNat [])]))))
 (bsel (inRgV (unRing (F.agg [ptsF (l.getD j.toNat [])])) (unRing (F.agg [ptsF (l.getD i.toNat [])])))
 (c3 (l) (j) (IntKind.i64.wrap (n+1)) (IntKind.i64.wrap (i+1)))
 (c3 (l) (j) (n) (IntKind.i64.wrap (i+1))))
 none)
 none)
 none)
 (c3 (l) (j) (n) (IntKind.i64.wrap (i+1))))
 none)
 none)
 (ret (n)))
def L25_3:Nat→(List (List Pt))→(Int)→(Int)→(Int)→Option (Int)
 | 0,_,_,_,_=>none
 | k+1,l,j,n,i=>T25_3 some (L25_3 k) l j n i
def T25 {ρ:Type} (ret:KJ86 ρ) (c3:KJ810 ρ) (l:List (List Pt)) (j:Int):Option ρ :=
 (c3 (l) (j) (0) (0))
def G25 (k:Nat) (l:List (List Pt)) (j:Int):Option (Int):=T25 some (L25_3 k) l j
theorem t25_3:∀ (k:Nat) (l:List (List Pt)) (j:Int) (n:Int) (i:Int) (r:Int),L25_3 k l j n i=some r→Ends Tryz.prog Tryz.f25.results.toList (at_ Tryz.f25 3) (S25_3 l j n i) (F.int .i64 r)
 | 0,_,_,_,_,_,h=>nomatch h
 | k+1,l,j,n,i,r,h=>by
  refine Ends.of_cut tyOK envA4_ok (T:=[(3,[0,1,5,8,9,10],1000)]) (n:=200) ?_
  refine gE (Y:=T25_3 (fun r=>some (.ret (F.int .i64 r))) (fun l j n i=>some (.cut (at_ Tryz.f25 3) (S25_3 l j n i))) l j n i) (by kernel_rfl) ?_
  exact (gS h (fun _ h=>(gS h (fun _ h=>(gS h (fun _ h=>(gS h (fun _ h=>(gS h (fun _ h=>(gS h (fun _ h=>(gS h (fun _ h=>(gS h (fun _ h=>gC (t25_3 k _ _ _ _ r h)) (fun _ h=>gC (t25_3 k _ _ _ _ r h)))) gN)) gN)) gN)) (fun _ h=>gC (t25_3 k _ _ _ _ r h)))) gN)) gN)) (fun _ h=>gR (by cases h;rfl)))
theorem t25 (k:Nat) (l:List (List Pt)) (j:Int) (r:Int) (h:G25 k l j=some r):Ends Tryz.prog Tryz.f25.results.toList [.code (bodyOf Tryz.f25)] (start Tryz.f25.ntmps ([ringsF l,F.int .i64 j].map .f)) (F.int .i64 r):=by
 refine Ends.of_run tyOK envA4_ok (T:=[(3,[0,1,5,8,9,10],1000)]) (n:=200) ?_
 refine gE (Y:=T25 (fun r=>some (.ret (F.int .i64 r))) (fun l j n i=>some (.cut (at_ Tryz.f25 3) (S25_3 l j n i))) l j) (by kernel_rfl) ?_
 exact gC (t25_3 k _ _ _ _ r h)
def inRg2V (q p:List Pt):Bool:=rightV q&&(rightV p&&inRgV q p)
def preRg2:List F→Bool | [x,y]=>isRing x&&isRing y | _=>false
def resRg2:List F→F | [x,y]=>.bool (inRg2V (unRing x) (unRing y)) | _=>.dflt
theorem okRg2:PureOK Tryz.prog 8 preRg2 resRg2 :=
 fn_pure_at (c:=bodyOf Tryz.f8) Tryz.func8 (by kernel_rfl) (by kernel_rfl) fun xs hp=>match xs,hp with
 | [x,y],hp=>by
  simp only [preRg2,Bool.and_eq_true] at hp
  refine ⟨[ringF (unRing x),ringF (unRing y)],_,⟨(ring_eqv hp.1).1,(ring_eqv hp.2).1,trivial⟩,t8 _ _ (inRg2V (unRing x) (unRing y)) ?_,.refl _⟩
  unfold G8 T8 inRg2V
  simp only [unRing_agg,isRing_agg,bsel_true]
  cases rightV (unRing x) <;> cases rightV (unRing y) <;> rfl
def depAt (l:List (List Pt)) (j i:Nat):Bool:=i != j&&inRgV (l.getD j []) (l.getD i [])
def depN (l:List (List Pt)) (j:Nat):Nat:=(List.range' 0 l.length).countP (depAt l j)
theorem depth_loop {l:List (List Pt)} (hn:l.length≤1000) (hr:∀ r ∈ l,rightV r=true) {j:Nat} (hj:j<l.length):∀ (d i n:Nat),i+d=l.length→n≤i→L25_3 (d+1) l j n i=some (((n+(List.range' i d).countP (depAt l j):Nat):Int))
 | 0,i,n,h,hni=>by
  have c1:decide ((i:Int)<(l.length:Int))=false:=decide_eq_false (by omega)
  rw [L25_3]
  simp only [T25_3,c1,bsel_false]
  rfl
 | d+1,i,n,h,hni=>by
  have hi:i<l.length:=by omega
  have c1:decide ((i:Int)<(l.length:Int))=true:=decide_eq_true (by omega)
  have c2:decide (0≤(i:Int))=true:=decide_eq_true (by omega)
  have c3:decide (0≤(j:Int))=true:=decide_eq_true (by omega)
  have c4:decide ((j:Int)<(l.length:Int))=true:=decide_eq_true (by omega)
  have w1:IntKind.i64.wrap ((i:Int)+1)=((i+1:Nat):Int):=by rw [wrapI (by omega) (by omega)];omega
  have w2:IntKind.i64.wrap ((n:Int)+1)=((n+1:Nat):Int):=by rw [wrapI (by omega) (by omega)];omega
  have ri:=hr _ (getD_in (d:=[]) hi)
  have rj:=hr _ (getD_in (d:=[]) hj)
  have tt:∀ b:Bool,(b==true)=b:=fun b=>by cases b <;> rfl
  have ne:((i:Int) != (j:Int))=(i != j):=by
   by_cases e:i=j
   ·subst e;simp
   ·rw [bne_iff_ne.2 e,bne_iff_ne.2 (by omega)]
  rw [L25_3]
  simp only [T25_3,c1,c2,c3,c4,w1,w2,Int.toNat_natCast,unRing_agg,isRing_agg,ri,rj,tt,ne,Bool.and_self,bsel_true]
  rw [depth_loop hn hr hj d (i+1) (n+1) (by omega) (by omega),depth_loop hn hr hj d (i+1) n (by omega) (by omega),List.range'_succ,List.countP_cons]
  have hd:depAt l j i=(i != j&&inRgV (l.getD j []) (l.getD i [])):=rfl
  rw [hd]
  generalize (List.range' (i+1) d).countP (depAt l j)=C
  have e1:n+1+C=n+(C+1):=by omega
  rw [e1]
  cases i != j <;> cases inRgV (l.getD j []) (l.getD i []) <;> rfl
def isAtL (l:List (List Pt)) (j:Int):Bool:=decide (0≤j)&&decide (j<(l.length:Int))
def preDep:List F→Bool | [x,.int .i64 j]=>isRings x&&(layerV (unRings x)&&isAtL (unRings x) j) | _=>false
def resDep:List F→F | [x,.int .i64 j]=>.int .i64 ((depN (unRings x) j.toNat:Nat):Int) | _=>.dflt
theorem fault_rng (q:List Pt):0≤fault3V q∧fault3V q≤5:=by
 unfold fault3V faultBy
 cases decide (q.length<3) <;> cases decide (q.length > 12) <;> cases (q.all fun p=>spotOkV p.x p.y) <;> cases triFree (samePt q) 0 q.length <;> cases triFree (cross3 q) 0 q.length <;> simp
theorem bad_zero {R:Int × Int}:∀ (l:List (List Pt)) (i:Nat),(badGo l i R).1=0→(∀ r ∈ l,rightV r=true)∧R.1=0
 | [],i,h=>⟨fun r hr=>by simp at hr,h⟩
 | r :: l,i,h=>by
  rw [badGo] at h
  have:=fault_rng r
  cases hf:(fault3V r != 0) with
  | true =>
   rw [hf,cond_true] at h
   simp only [wrapI (show -9223372036854775808≤10+fault3V r by omega) (by omega)] at h
   omega
  | false =>
   rw [hf,cond_false] at h
   obtain ⟨h1,h2⟩:=bad_zero l (i+1) h
   refine ⟨fun p hp=>?_,h2⟩
   rcases List.mem_cons.1 hp with rfl | hp
   ·unfold rightV
    rw [bne,Bool.not_eq_false'] at hf
    exact hf
   ·exact h1 p hp
theorem meet_zero (l:List (List Pt)):∀ (d i:Nat),(meetGo l d i).1=0→∀ j,i≤j→j<i+d→anyHit (l.getD j []) (l.take j)=false
 | 0,i,h,j,h1,h2=>by omega
 | d+1,i,h,j,h1,h2=>by
  rw [meetGo] at h
  cases hc:anyHit (l.getD i []) (l.take i) with
  | true=>rw [hc,cond_true] at h;exact absurd h (show ¬ (3:Int)=0 by decide)
  | false =>
   rw [hc,cond_false] at h
   by_cases e:j=i
   ·subst e;exact hc
   ·exact meet_zero l d (i+1) h j (by omega) (by omega)
theorem layer_facts {l:List (List Pt)} (h:layerV l=true):l.length≤6∧(∀ r ∈ l,rightV r=true)∧∀ i,i<l.length→∀ k,k<i→ringsV (l.getD i []) (l.getD k [])=false:=by
 have h0:(layerP l).1=0:=eq_of_beq h
 unfold layerP at h0
 by_cases h1:l.length > 6
 ·rw [decide_eq_true h1,cond_true] at h0;exact absurd h0 (by decide)
 ·rw [decide_eq_false h1,cond_false] at h0
  cases h2:decide (spotsV l > 20) with
  | true=>rw [h2,cond_true] at h0;exact absurd h0 (by decide)
  | false =>
   rw [h2,cond_false] at h0
   obtain ⟨h3,h4⟩:=bad_zero _ _ h0
   refine ⟨by omega,h3,fun i hi k hk=>?_⟩
   have h5:=meet_zero l l.length 0 h4 i (by omega) (by omega)
   unfold anyHit at h5
   rw [List.any_eq_false] at h5
   have h6:=h5 (l.getD k []) (by
    have hlt:k<(l.take i).length:=by rw [List.length_take];omega
    have:(l.take i)[k]=l.getD k []:=by simp [List.getD,List.getElem?_eq_getElem (show k<l.length by omega)]
    rw [← this]
    exact List.getElem_mem hlt)
   simpa using h6
theorem okDep:PureOK Tryz.prog 25 preDep resDep :=
 fn_pure_at (c:=bodyOf Tryz.f25) Tryz.func25 (by kernel_rfl) (by kernel_rfl) fun xs hp=>match xs,hp with
 | [x,.int .i64 j],hp=>by
  simp only [preDep,isAtL,Bool.and_eq_true,decide_eq_true_eq] at hp
  obtain ⟨h1,h2,h3,h4⟩:=hp
  obtain ⟨f1,f2,_⟩:=layer_facts h2
  have e:=depth_loop (l:=unRings x) (by omega) f2 (j:=j.toNat) (by omega) (unRings x).length 0 0 (by omega) (by omega)
  rw [Int.toNat_of_nonneg h3,Nat.zero_add] at e
  exact ⟨[ringsF (unRings x),.int .i64 j],_,⟨(rings_eqv h1).1,.refl _,trivial⟩,t25 ((unRings x).length+1) _ _ _ e,.refl _⟩
def envA5:Env:=(envA4.add 8 (.pure preRg2 resRg2)).add 25 (.pure preDep resDep)
theorem envA5_ok:EnvOK Tryz.prog envA5:=(Env.add_ok (Env.add_ok envA4_ok okRg2.sp) okDep.sp)
end
noncomputable section
/-! ### function 9 -/
def T9 {ρ:Type} (ret:KJ86 ρ) (l:List (List Pt)) (j:Int):Option ρ :=
 (bsel (isRings (ringsF l))
 (bsel ((!layerV (unRings (ringsF l)))==false)
 (bsel (!inV j 0 (IntKind.i64.wrap ((↑l.length:Int)-1)))
 (ret (-1))
 (bsel (isRings (ringsF l)&&(layerV (unRings (ringsF l))&&isAtL (unRings (ringsF l)) j))
 (ret ((↑(depN (unRings (ringsF l)) j.toNat):Int)))
 none))
 (ret (-1)))
 none)
def G9 (l:List (List Pt)) (j:Int):Option (Int):=T9 some l j
theorem t9 (l:List (List Pt)) (j:Int) (r:Int) (h:G9 l j=some r):Ends Tryz.prog Tryz.f9.results.toList [.code (bodyOf Tryz.f9)] (start Tryz.f9.ntmps ([ringsF l,F.int .i64 j].map .f)) (F.int .i64 r):=by
 refine Ends.of_run tyOK envA5_ok (T:=[]) (n:=200) ?_
 refine gE (Y:=T9 (fun r=>some (.ret (F.int .i64 r))) l j) (by kernel_rfl) ?_
 exact (gS h (fun _ h=>(gS h (fun _ h=>(gS h (fun _ h=>gR (by cases h;rfl)) (fun _ h=>(gS h (fun _ h=>gR (by cases h;rfl)) gN)))) (fun _ h=>gR (by cases h;rfl)))) gN)
def depOfV (l:List (List Pt)) (j:Int):Int:=bif layerV l&&isAtL l j then ((depN l j.toNat:Nat):Int) else -1
def preDepOf:List F→Bool | [x,.int .i64 _]=>isRings x | _=>false
def resDepOf:List F→F | [x,.int .i64 j]=>.int .i64 (depOfV (unRings x) j) | _=>.dflt
theorem okDepOf:PureOK Tryz.prog 9 preDepOf resDepOf :=
 fn_pure_at (c:=bodyOf Tryz.f9) Tryz.func9 (by kernel_rfl) (by kernel_rfl) fun xs hp=>match xs,hp with
 | [x,.int .i64 j],hp=>by
  refine ⟨[ringsF (unRings x),.int .i64 j],_,⟨(rings_eqv hp).1,.refl _,trivial⟩,t9 _ _ (depOfV (unRings x) j) ?_,.refl _⟩
  generalize unRings x=l
  unfold G9 T9 depOfV
  simp only [isRings_ringsF,unRings_ringsF,bsel_true,Bool.true_and]
  cases h:layerV l with
  | false=>rfl
  | true =>
   obtain ⟨h1,_⟩:=layer_facts h
   have e:(!inV j 0 (IntKind.i64.wrap ((l.length:Int)-1))) = !isAtL l j:=by
    rw [wrapI (by omega) (by omega)]
    unfold inV isAtL
    rw [← Bool.decide_and,← Bool.decide_and]
    congr 1
    exact decide_eq_decide.2 (by omega)
   rw [e]
   cases isAtL l j <;> rfl
def envA6:Env:=envA5.add 9 (.pure preDepOf resDepOf)
theorem envA6_ok:EnvOK Tryz.prog envA6:=(Env.add_ok envA5_ok okDepOf.sp)
end
noncomputable section
theorem side_ends {q:List Pt} (h:RingIn q) {i:Nat} (hi:i<q.length):riseS (sideAt q i) ∧
  ((sideAt q i=⟨rx q i,ry q i,rx q ((i+1) % q.length),ry q ((i+1) % q.length)⟩) ∨ (sideAt q i=⟨rx q ((i+1) % q.length),ry q ((i+1) % q.length),rx q i,ry q i⟩)):=by
 obtain ⟨h1,h2⟩:=next_ne hi h.low
 have hne:q.getD i .zero ≠ q.getD ((i+1) % q.length) .zero:=unlike_ne h hi h2 (fun e=>h1 e.symm)
 refine ⟨leg_rise hne,?_⟩
 rcases leg_cases _ _ hne with ⟨_,e⟩ | ⟨_,e⟩
 ·exact .inl e
 ·exact .inr e
theorem hit_no {q p:List Pt} (hq:RingIn q) (hp:RingIn p) {i j:Nat} (hi:i<q.length) (hj:j<p.length):ringHit q p i j=false ↔ ¬ meetS (sideAt q i) (sideAt p j):=by
 have hk:=kind3_ok (side_ok hq hi) (side_ok hp hj)
 unfold ringHit
 rw [bne_eq_false_iff_eq]
 constructor
 ·exact fun h hm=>hk.2.1.2 hm h
 ·exact fun h=>Classical.byContradiction fun hn=>h (hk.2.1.1 hn)
theorem rings_no {q p:List Pt}:ringsV q p=false ↔ ∀ i,i<q.length→∀ j,j<p.length→ringHit q p i j=false:=by
 unfold ringsV rowFree
 rw [Bool.not_eq_false',allUp_iff]
 constructor
 ·intro h i hi j hj
  have:=(allUp_iff _ _ _).1 (h i (by omega) (by omega)) j (by omega) (by omega)
  simpa using this
 ·intro h i _ hi
  refine (allUp_iff _ _ _).2 fun j _ hj=>?_
  rw [h i (by omega) j (by omega)]
  rfl
theorem rings_comm {q p:List Pt} (hq:RingIn q) (hp:RingIn p) (h:ringsV q p=false):ringsV p q=false:=by
 rw [rings_no] at h ⊢
 intro j hj i hi
 rw [hit_no hp hq hj hi]
 have:=(hit_no hq hp hi hj).1 (h i hi j hj)
 exact fun hm=>this ((meetS_comm (side_ends hp hj).1 (side_ends hq hi).1).1 hm)
theorem sides_apart {q p:List Pt} (hq:RingIn q) (hp:RingIn p) (h:ringsV q p=false):∀ i,i<q.length→∀ j,j<p.length →
  apartN (rx q i) (ry q i) (rx q ((i+1) % q.length)) (ry q ((i+1) % q.length)) (rx p j) (ry p j) (rx p ((j+1) % p.length)) (ry p ((j+1) % p.length)):=by
 intro i hi j hj
 have hno:=(hit_no hq hp hi hj).1 (rings_no.1 h i hi j hj)
 obtain ⟨r1,e1⟩:=side_ends hq hi
 obtain ⟨r2,e2⟩:=side_ends hp hj
 have:=apart_of_not r1 r2 hno
 rcases e1 with e1 | e1 <;> rcases e2 with e2 | e2 <;> rw [e1,e2] at this
 ·exact this
 ·exact apartN_flip2 this
 ·exact apartN_flip1 this
 ·exact apartN_flip1 (apartN_flip2 this)
theorem bws_on {ax ay bx bY px py:Int} (h:btwS ax ay bx bY px py=true) (hl:lexLt ax ay bx bY ∨ lexLt bx bY ax ay):(lexLt ax ay bx bY→onSg ax ay bx bY px py)∧(lexLt bx bY ax ay→onSg bx bY ax ay px py):=by
 have c1:=(cmp3_one ax ay px py).1
 have c2:=(cmp3_one px py bx bY).1
 have f:=cross_flip ax ay bx bY px py
 unfold btwS at h
 simp only [Bool.or_eq_true,Bool.and_eq_true,beq_iff_eq,decide_eq_true_eq,Int.sign_eq_zero_iff_zero] at h
 unfold onSg
 unfold lexLt at *
 unfold lexLe at *
 rcases h with ⟨rfl,rfl⟩ | ⟨rfl,rfl⟩ | ⟨h1,h2⟩
 ·have e:crossZ ax ay bx bY ax ay=0:=by unfold crossZ;grind
  rw [f,e]
  omega
 ·have e:crossZ ax ay bx bY bx bY=0:=by unfold crossZ;grind
  rw [f,e]
  omega
 ·rw [f,h2]
  have r1:=cmp3_rng ax ay 1 px py 1
  have r2:=cmp3_rng px py 1 bx bY 1
  generalize cmp3V ax ay 1 px py 1=u at *
  generalize cmp3V px py 1 bx bY 1=v at *
  have hu:u = -1 ∨ u=0 ∨ u=1:=by omega
  rcases hu with rfl | rfl | rfl
  ·have:v≤0:=by omega
   have a1:=c1.1 (by omega)
   have a2:=c2.1 this
   omega
  ·omega
  ·have:¬ v≤0:=by omega
   have a1:¬ (ax<px ∨ ax=px∧ay≤py):=fun k=>by have:=c1.2 k;omega
   have a2:¬ (px<bx ∨ px=bx∧py≤bY):=fun k=>this (c2.2 k)
   omega
theorem no_btw {q p:List Pt} (hq:RingIn q) (hp:RingIn p) (h:ringsV q p=false):∀ j,j<p.length→btwAt p (rx q 0) (ry q 0) j=false:=by
 intro j hj
 have h0:0<q.length:=by have:=hq.low;omega
 cases hb:btwAt p (rx q 0) (ry q 0) j with
 | false=>rfl
 | true =>
  exfalso
  have hno:=(hit_no hq hp h0 hj).1 (rings_no.1 h 0 h0 j hj)
  obtain ⟨r2,e2⟩:=side_ends hp hj
  have hon:onS (sideAt p j) (q.getD 0 .zero):=by
   unfold btwAt at hb
   unfold riseS at r2
   rcases e2 with e2 | e2 <;> rw [e2] at r2 ⊢
   ·exact (bws_on hb (.inl r2)).1 r2
   ·exact (bws_on hb (.inr r2)).2 r2
  obtain ⟨h1,h2⟩:=next_ne h0 hq.low
  have hne:q.getD 0 .zero ≠ q.getD ((0+1) % q.length) .zero:=unlike_ne hq h0 h2 (fun e=>h1 e.symm)
  have:=leg_on hne r2 hon
  exact hno ((meetS_comm r2 (side_ends hq h0).1).1 this)
theorem sideGo_par {q:List Pt} {px py:Int} (hb:∀ j,j<q.length→btwAt q px py j=false):∀ (d i:Nat),i+d=q.length→sideGo q px py d i (xorUp (cutAt q px py) i)=bif xorUp (cutAt q px py) q.length then 1 else -1
 | 0,i,h=>by
  obtain rfl:i=q.length:=by omega
  rfl
 | d+1,i,h=>by
  have ih:=sideGo_par hb d (i+1) (by omega)
  rw [sideGo,hb i (by omega),cond_false]
  exact ih
theorem side_par {q:List Pt} {px py:Int} (hb:∀ j,j<q.length→btwAt q px py j=false):(sidePV q px py==1)=parF (rx q) (ry q) q.length px py:=by
 have e:sidePV q px py=bif xorUp (cutAt q px py) q.length then 1 else -1:=sideGo_par hb q.length 0 (by omega)
 rw [e]
 show _=xorUp (cutAt q px py) q.length
 cases xorUp (cutAt q px py) q.length <;> rfl
theorem count_le {f g:Nat→Bool}:∀ L:List Nat,(∀ x ∈ L,f x=true→g x=true)→L.countP f≤L.countP g
 | [],_=>Nat.le_refl _
 | x :: L,h=>by
  have h1:=count_le L fun y hy=>h y (List.mem_cons_of_mem _ hy)
  have h2:=h x (by simp)
  rw [List.countP_cons,List.countP_cons]
  cases hf:f x with
  | false=>simp;omega
  | true=>rw [h2 hf];simp;omega
theorem count_lt {f g:Nat→Bool} {a:Nat} (hg:g a=true) (hf:f a=false):∀ L:List Nat,(∀ x ∈ L,f x=true→g x=true)→a ∈ L→L.countP f<L.countP g
 | [],_,ha=>by simp at ha
 | x :: L,h,ha=>by
  have h1:=count_le L fun y hy=>h y (List.mem_cons_of_mem _ hy)
  have h2:=h x (by simp)
  rw [List.countP_cons,List.countP_cons]
  rcases List.mem_cons.1 ha with rfl | ha
  ·rw [hg,hf];simp;omega
  ·have h3:=count_lt hg hf L (fun y hy=>h y (List.mem_cons_of_mem _ hy)) ha
   cases hfx:f x with
   | false=>simp;omega
   | true=>rw [h2 hfx];simp;omega
section
variable {l:List (List Pt)} (h:layerV l=true)
include h
theorem ring_of {i:Nat} (hi:i<l.length):RingIn (l.getD i []):=right_in ((layer_facts h).2.1 _ (getD_in hi))
theorem rings_apart {i k:Nat} (hi:i<l.length) (hk:k<l.length) (hik:i ≠ k):ringsV (l.getD i []) (l.getD k [])=false:=by
 obtain ⟨_,_,h3⟩:=layer_facts h
 rcases Nat.lt_or_ge k i with h1 | h1
 ·exact h3 i hi k h1
 ·exact rings_comm (ring_of h hk) (ring_of h hi) (h3 k hk i (by omega))
theorem in_par {i k:Nat} (hi:i<l.length) (hk:k<l.length) (hik:i ≠ k):inRgV (l.getD i []) (l.getD k [])=parF (rx (l.getD k [])) (ry (l.getD k [])) (l.getD k []).length (rx (l.getD i []) 0) (ry (l.getD i []) 0):=by
 have h1:=rings_apart h hi hk hik
 unfold inRgV
 rw [h1,side_par (no_btw (ring_of h hi) (ring_of h hk) h1)]
 rfl
theorem all_par {i k:Nat} (hi:i<l.length) (hk:k<l.length) (hik:i ≠ k):∀ m,m<(l.getD i []).length→parF (rx (l.getD k [])) (ry (l.getD k [])) (l.getD k []).length (rx (l.getD i []) m) (ry (l.getD i []) m)=inRgV (l.getD i []) (l.getD k []):=by
 intro m hm
 rw [in_par h hi hk hik]
 exact par_ring (A:=rx (l.getD i [])) (B:=ry (l.getD i [])) (fun j hj i' hi'=>(sides_apart (ring_of h hi) (ring_of h hk) (rings_apart h hi hk hik) j hj i' hi').1) m hm
theorem in_asym {i k:Nat} (hi:i<l.length) (hk:k<l.length) (hik:i ≠ k) (h1:inRgV (l.getD i []) (l.getD k [])=true) (h2:inRgV (l.getD k []) (l.getD i [])=true):False :=
 par_asym (X:=rx (l.getD k [])) (Y:=ry (l.getD k [])) (A:=rx (l.getD i [])) (B:=ry (l.getD i [])) (n:=(l.getD k []).length) (k:=(l.getD i []).length) (by have:=(ring_of h hi).low;omega)
  (fun j hj=>(all_par h hi hk hik j hj).trans h1) (fun m hm=>(all_par h hk hi (fun e=>hik e.symm) m hm).trans h2)
theorem in_trans {i k j:Nat} (hi:i<l.length) (hk:k<l.length) (hj:j<l.length) (hik:i ≠ k) (hkj:k ≠ j) (hij:i ≠ j) (h1:inRgV (l.getD i []) (l.getD k [])=true) (h2:inRgV (l.getD k []) (l.getD j [])=true):inRgV (l.getD i []) (l.getD j [])=true:=by
 rw [in_par h hi hj hij]
 have h3:inRgV (l.getD j []) (l.getD k [])=false:=by
  cases hc:inRgV (l.getD j []) (l.getD k []) with
  | false=>rfl
  | true=>exact (in_asym h hj hk (fun e=>hkj e.symm) hc h2).elim
 refine par_trans (A:=rx (l.getD k [])) (B:=ry (l.getD k [])) (k:=(l.getD k []).length) (sides_apart (ring_of h hk) (ring_of h hj) (rings_apart h hk hj hkj)) (sides_apart (ring_of h hj) (ring_of h hk) (rings_apart h hj hk fun e=>hkj e.symm))
  ?_ (fun m hm=>(all_par h hk hj hkj m hm).trans h2) (fun m hm=>(all_par h hj hk (fun e=>hkj e.symm) m hm).trans h3)
 rw [← in_par h hi hk hik]
 exact h1
theorem dep_lt {i k:Nat} (hi:i<l.length) (hk:k<l.length) (hik:i ≠ k) (h1:inRgV (l.getD i []) (l.getD k [])=true):depN l k<depN l i:=by
 unfold depN
 refine count_lt (a:=k) ?_ ?_ _ (fun m hm hd=>?_) (List.mem_range'_1.2 ⟨Nat.zero_le _,by omega⟩)
 ·unfold depAt
  rw [h1,bne_iff_ne.2 (fun e=>hik e.symm)]
  rfl
 ·unfold depAt
  simp
 ·have hml:m<l.length:=by have:=(List.mem_range'_1.1 hm).2;omega
  unfold depAt at hd ⊢
  rw [Bool.and_eq_true,bne_iff_ne] at hd ⊢
  have hne:m ≠ i:=fun e=>by
   subst e
   exact in_asym h hml hk hik h1 hd.2
  exact ⟨hne,in_trans h hi hk hml hik (fun e=>hd.1 e.symm) (fun e=>hne e.symm) h1 hd.2⟩
theorem top_ex (hl:0<l.length):∃ i,i<l.length∧depN l i=0:=by
 obtain ⟨i,hi,hm⟩:=max_ex (fun i=>-((depN l i:Nat):Int)) l.length hl
 refine ⟨i,hi,?_⟩
 rcases Nat.eq_zero_or_pos (depN l i) with h0 | h0
 ·exact h0
 ·exfalso
  unfold depN at h0
  obtain ⟨k,hk,hd⟩:=List.countP_pos_iff.1 h0
  have hkl:k<l.length:=by have:=(List.mem_range'_1.1 hk).2;omega
  unfold depAt at hd
  rw [Bool.and_eq_true,bne_iff_ne] at hd
  have:=dep_lt h hi hkl (fun e=>hd.1 e.symm) hd.2
  have:=hm k hkl
  omega
end
end
/-! ### function 26 -/
def T26 {ρ:Type} (ret:KJ89 ρ) (s:ByteArray) (p:Int) (n:Int):Option ρ :=
 (bsel (decide (n≤1))
 (ret (0) (p))
 (bsel (decide (n≤256))
 (bsel (isBytes (bytesF s)&&rdOk (unBytes (bytesF s)) p)
 (bsel (n != 0)
 (ret ((nextV (unBytes (bytesF s)) p).fst.tmod n) ((nextV (unBytes (bytesF s)) p).snd))
 none)
 none)
 (bsel (isBytes (bytesF s)&&rdOk (unBytes (bytesF s)) p)
 (bsel (isBytes (bytesF s)&&rdOk (unBytes (bytesF s)) (nextV (unBytes (bytesF s)) p).snd)
 (bsel (n != 0)
 (ret ((IntKind.i64.wrap (IntKind.i64.wrap ((nextV (unBytes (bytesF s)) p).fst*256)+(nextV (unBytes (bytesF s)) (nextV (unBytes (bytesF s)) p).snd).fst)).tmod n) ((nextV (unBytes (bytesF s)) (nextV (unBytes (bytesF s)) p).snd).snd))
 none)
 none)
 none)))
def G26 (s:ByteArray) (p:Int) (n:Int):Option ((Int) × (Int)):=T26 (fun r q=>some (r,q)) s p n
theorem t26 (s:ByteArray) (p:Int) (n:Int) (r:Int) (q:Int) (h:G26 s p n=some (r,q)):EndsN Tryz.prog 1 Tryz.f26.results.toList [.code (bodyOf Tryz.f26)] (startN Tryz.f26.ntmps [U.hp 0 0,U.f (F.int .i64 n)] [HO.box [U.f (bytesF s),U.f (F.int .i64 p)]]) (F.tup [F.int .i64 r,F.agg [bytesF s,F.int .i64 q]]):=by
 refine Ends.of_run tyOK envD1_ok (T:=[]) (n:=200) ?_
 refine gE (Y:=T26 (fun r q=>some (.ret (F.tup [F.int .i64 r,F.agg [bytesF s,F.int .i64 q]]))) s p n) (by kernel_rfl) ?_
 exact (gS h (fun _ h=>gR (by cases h;rfl)) (fun _ h=>(gS h (fun _ h=>(gS h (fun _ h=>(gS h (fun _ h=>gR (by cases h;rfl)) gN)) gN)) (fun _ h=>(gS h (fun _ h=>(gS h (fun _ h=>(gS h (fun _ h=>gR (by cases h;rfl)) gN)) gN)) gN)))))
def belowV (s:ByteArray) (p n:Int):Int × Int:=(G26 s p n).getD (0,0)
theorem below_ok {s:ByteArray} {p:Int} (h:rdOk s p=true) (n:Int) :
  G26 s p n=some (belowV s p n)∧0≤(belowV s p n).1∧((belowV s p n).1<n ∨ (belowV s p n).1=0)∧rdOk s (belowV s p n).2=true:=by
 obtain ⟨h1,h2,h3,h4⟩:=next_ok h
 obtain ⟨k1,k2,k3,k4⟩:=next_ok h4
 unfold belowV G26 T26
 simp only [unBytes_bytesF,isBytes_bytesF,h,h4,Bool.and_self,bsel_true]
 by_cases c1:n≤1
 ·simp only [decide_eq_true c1,bsel_true,Option.getD_some]
  exact ⟨trivial,by omega,.inr trivial,h⟩
 ·have hn:(n != 0)=true:=by simp;omega
  simp only [decide_eq_false c1,bsel_false,hn,bsel_true]
  by_cases c2:n≤256
  ·simp only [decide_eq_true c2,bsel_true,Option.getD_some]
   exact ⟨trivial,Int.tmod_nonneg _ h2,.inl (Int.tmod_lt_of_pos _ (by omega)),h4⟩
  ·simp only [decide_eq_false c2,bsel_false,Option.getD_some]
   refine ⟨trivial,Int.tmod_nonneg _ ?_,.inl (Int.tmod_lt_of_pos _ (by omega)),k4⟩
   rw [wrapi (x:=(nextV s p).1*256) (by omega) (by omega),wrapi (by omega) (by omega)]
   omega
theorem okBelow:SpOK Tryz.prog 26 (ptrSp (fun cs xs=>match xs with | [.int .i64 n]=>preR cs | _=>false) (fun cs xs=>match xs with | [.int .i64 n]=>rd (fun s p=>(.int .i64 (belowV s p n).1,(belowV s p n).2)) cs | _=>(.dflt,cs))) :=
 fn_ptr_at (c:=bodyOf Tryz.f26) Tryz.func26 (by kernel_rfl) (by kernel_rfl) fun cs xs hp=>by
  split at hp
  ·rename_i n
   obtain ⟨b,p,rfl,hb,hr⟩:=preR_open hp
   obtain ⟨h1,_⟩:=below_ok hr n
   exact ⟨[bytesF (unBytes b),.int .i64 p],[.int .i64 n],_,_,⟨(bytes_eqv hb).1,.refl _,trivial⟩,⟨.refl _,trivial⟩,t26 _ _ _ _ _ h1,.refl _,⟨(bytes_eqv hb).2,.refl _,trivial⟩⟩
  ·cases hp
def envD2:Env:=envD1.add 26 (ptrSp (fun cs xs=>match xs with | [.int .i64 n]=>preR cs | _=>false) (fun cs xs=>match xs with | [.int .i64 n]=>rd (fun s p=>(.int .i64 (belowV s p n).1,(belowV s p n).2)) cs | _=>(.dflt,cs)))
theorem envD2_ok:EnvOK Tryz.prog envD2:=(Env.add_ok envD1_ok okBelow)
/-! ### function 12 -/
def T12 {ρ:Type} (ret:(Bool)→(Int)→Option ρ) (s:ByteArray) (p:Int) (n:Int):Option ρ :=
 (bsel (isBytes (bytesF s)&&rdOk (unBytes (bytesF s)) p)
 (ret ((belowV (unBytes (bytesF s)) p n).fst==IntKind.i64.wrap (n-1)) ((belowV (unBytes (bytesF s)) p n).snd))
 none)
def G12 (s:ByteArray) (p:Int) (n:Int):Option ((Bool) × (Int)):=T12 (fun r q=>some (r,q)) s p n
theorem t12 (s:ByteArray) (p:Int) (n:Int) (r:Bool) (q:Int) (h:G12 s p n=some (r,q)):EndsN Tryz.prog 1 Tryz.f12.results.toList [.code (bodyOf Tryz.f12)] (startN Tryz.f12.ntmps [U.hp 0 0,U.f (F.int .i64 n)] [HO.box [U.f (bytesF s),U.f (F.int .i64 p)]]) (F.tup [F.bool r,F.agg [bytesF s,F.int .i64 q]]):=by
 refine Ends.of_run tyOK envD2_ok (T:=[]) (n:=200) ?_
 refine gE (Y:=T12 (fun r q=>some (.ret (F.tup [F.bool r,F.agg [bytesF s,F.int .i64 q]]))) s p n) (by kernel_rfl) ?_
 exact (gS h (fun _ h=>gR (by cases h;rfl)) gN)
def onceV (s:ByteArray) (p n:Int):Bool × Int:=(G12 s p n).getD (false,0)
theorem once_ok {s:ByteArray} {p:Int} (h:rdOk s p=true) (n:Int):G12 s p n=some (onceV s p n)∧rdOk s (onceV s p n).2=true:=by
 obtain ⟨h1,h2,h3,h4⟩:=below_ok h n
 unfold onceV G12 T12
 simp only [unBytes_bytesF,isBytes_bytesF,h,h4,Bool.and_self,bsel_true,Option.getD_some]
 exact ⟨trivial,trivial⟩
theorem okOnce:SpOK Tryz.prog 12 (ptrSp (fun cs xs=>match xs with | [.int .i64 n]=>preR cs | _=>false) (fun cs xs=>match xs with | [.int .i64 n]=>rd (fun s p=>(.bool (onceV s p n).1,(onceV s p n).2)) cs | _=>(.dflt,cs))) :=
 fn_ptr_at (c:=bodyOf Tryz.f12) Tryz.func12 (by kernel_rfl) (by kernel_rfl) fun cs xs hp=>by
  split at hp
  ·rename_i n
   obtain ⟨b,p,rfl,hb,hr⟩:=preR_open hp
   obtain ⟨h1,_⟩:=once_ok hr n
   exact ⟨[bytesF (unBytes b),.int .i64 p],[.int .i64 n],_,_,⟨(bytes_eqv hb).1,.refl _,trivial⟩,⟨.refl _,trivial⟩,t12 _ _ _ _ _ h1,.refl _,⟨(bytes_eqv hb).2,.refl _,trivial⟩⟩
  ·cases hp
def envD3:Env:=envD2.add 12 (ptrSp (fun cs xs=>match xs with | [.int .i64 n]=>preR cs | _=>false) (fun cs xs=>match xs with | [.int .i64 n]=>rd (fun s p=>(.bool (onceV s p n).1,(onceV s p n).2)) cs | _=>(.dflt,cs)))
theorem envD3_ok:EnvOK Tryz.prog envD3:=(Env.add_ok envD2_ok okOnce)
end Go.Proofs.YtkjjmmgddehbhaaGreat.R
