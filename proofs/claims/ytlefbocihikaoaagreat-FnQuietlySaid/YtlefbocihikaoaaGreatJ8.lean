/-
 The own walk and what it shows,part 8 of 10.
-/
import Derived.Shelf.SlSortCmp.WholeK
import Derived.Shelf.SlSortCmp.NoneTotal
import Derived.Test.YtlefbocihikaoaaGreatJ1
import Derived.Test.YtlefbocihikaoaaGreatJ2
import Derived.Test.YtlefbocihikaoaaGreatJ3
import Derived.Test.YtlefbocihikaoaaGreatJ4
import Derived.Test.YtlefbocihikaoaaGreatJ5
import Derived.Test.YtlefbocihikaoaaGreatJ6
import Derived.Test.YtlefbocihikaoaaGreatJ7
set_option linter.unusedVariables false
set_option linter.unusedSimpArgs false
set_option maxRecDepth 100000
set_option exponentiation.threshold 30000
namespace Go.Proofs.YtlefbocihikaoaaGreat.R
open Go
noncomputable section
set_option maxHeartbeats 1000000
def LA:List (List Pt)→Int→Int
 | [],s=>s
 | r :: l,s=>LA l (IntKind.i64.wrap (s+(r.length:Int)))
def LV (l:List (List Pt)):Int:=LA l 0
/-! ### function 16 -/
def rU (l:List (List Pt)) (s:Int) (n:Int) (i:Int):St:=⟨Ag 3 ((U.f (F.int .i64 s)) :: Ag 2 ((U.f (A5 l)) :: (U.f (F.int .i64 n)) :: (U.f (F.int .i64 i)) :: Ag 10 [])),[]⟩
def eC {ρ:Type} (ret:(Int)→Option ρ) (c3:(List (List Pt))→(Int)→(Int)→(Int)→Option ρ) (l:List (List Pt)) (s:Int) (n:Int) (i:Int):Option ρ :=
 (AC (decide (i<n))
 (AC (decide (0≤i))
 (AC (decide (i<(↑l.length:Int)))
 (c3 (l) (IntKind.i64.wrap (s+(↑(l.getD i.toNat []).length:Int))) (n) (IntKind.i64.wrap (i+1)))
 none)
 none)
 (ret (s)))
def S0:Nat→(List (List Pt))→(Int)→(Int)→(Int)→Option (Int)
 | 0,_,_,_,_=>none
 | k+1,l,s,n,i=>eC some (S0 k) l s n i
def T16 {ρ:Type} (ret:(Int)→Option ρ) (c3:(List (List Pt))→(Int)→(Int)→(Int)→Option ρ) (l:List (List Pt)):Option ρ :=
 (c3 (l) (0) ((↑l.length:Int)) (0))
def G16 (k:Nat) (l:List (List Pt)):Option (Int):=T16 some (S0 k) l
theorem t16_3:∀ (k:Nat) (l:List (List Pt)) (s:Int) (n:Int) (i:Int) (r:Int),S0 k l s n i=some r→AY Tryz.prog Tryz.f16.results.toList (at_ Tryz.f16 3) (rU l s n i) (F.int .i64 r)
 | 0,_,_,_,_,_,h=>nomatch h
 | k+1,l,s,n,i,r,h=>by
  refine AY.of_cut Ap Gd (T:=[(3,[3,6,7,8],1000)]) (n:=200) ?_
  refine gE (Y:=eC (fun r=>some (.ret (F.int .i64 r))) (fun l s n i=>some (.cut (at_ Tryz.f16 3) (rU l s n i))) l s n i) (by kernel_rfl) ?_
  exact (gS h (fun _ h=>(gS h (fun _ h=>(gS h (fun _ h=>gC (t16_3 k _ _ _ _ r h)) gN)) gN)) (fun _ h=>gR (by cases h;rfl)))
theorem t16 (k:Nat) (l:List (List Pt)) (r:Int) (h:G16 k l=some r):AY Tryz.prog Tryz.f16.results.toList [.code (AR Tryz.f16)] (start Tryz.f16.ntmps ([A5 l].map .f)) (F.int .i64 r):=by
 refine AY.of_run Ap Gd (T:=[(3,[3,6,7,8],1000)]) (n:=200) ?_
 refine gE (Y:=T16 (fun r=>some (.ret (F.int .i64 r))) (fun l s n i=>some (.cut (at_ Tryz.f16 3) (rU l s n i))) l) (by kernel_rfl) ?_
 exact gC (t16_3 k _ _ _ _ r h)
theorem LB {l:List (List Pt)} (hn:l.length≤1000):∀ (d i k:Nat) (s:Int),i+d=l.length→d+1≤k→S0 k l s l.length i=some (LA (l.drop i) s)
 | d,i,0,_,_,hk=>by omega
 | 0,i,k+1,s,hi,hk=>by
  rw [S0]
  unfold eC
  rw [decide_eq_false (show ¬ (i:Int)<l.length by omega),List.drop_eq_nil_of_le (by omega)]
  rfl
 | d+1,i,k+1,s,hi,hk=>by
  have hlt:i<l.length:=by omega
  have hg:l.getD i []=l[i]:=by simp [List.getD,List.getElem?_eq_getElem hlt]
  have wi:IntKind.i64.wrap ((i:Int)+1)=((i+1:Nat):Int):=by rw [Av (by omega) (by omega)];omega
  rw [S0]
  unfold eC
  rw [decide_eq_true (show (i:Int)<l.length by omega),decide_eq_true (show (0:Int)≤i by omega),Int.toNat_natCast,hg,wi,LB hn d (i+1) k _ (by omega) (by omega),List.drop_eq_getElem_cons hlt,LA]
  rfl
def nI (l:List (List Pt)):Bool:=decide (l.length≤1000)
def Lb:List F→Bool | [x]=>B2 x&&nI (Au x) | _=>false
def Pa:List F→F | [x]=>.int .i64 (LV (Au x)) | _=>.dflt
theorem fM:Ai Tryz.prog 16 Lb Pa :=
 Ae (c:=AR Tryz.f16) Tryz.func16 (by kernel_rfl) (by kernel_rfl) fun xs hp=>match xs,hp with
 | [x],hp=>by
  simp only [Lb,Bool.and_eq_true] at hp
  have h:(Au x).length≤1000:=of_decide_eq_true hp.2
  exact ⟨[A5 (Au x)],_,⟨(Cv hp.1).1,trivial⟩,t16 2000 _ _ (LB h (Au x).length 0 2000 0 (by omega) (by omega)),.refl _⟩
def M2:List (List Pt)→Nat→Int × Int→Int × Int
 | [],_,R=>R
 | r :: l,i,R=>bif CB r != 0 then (IntKind.i64.wrap (10+CB r),(i:Int)) else M2 l (i+1) R
def H5 (l:List (List Pt)):Nat→Nat→Int × Int
 | 0,_=>(0,0)
 | d+1,i=>bif Gj (l.getD i []) (l.take i) then (3,(i:Int)) else H5 l d (i+1)
def Et (l:List (List Pt)):Int × Int:=bif decide (l.length > 6) then (1,0) else bif decide (LV l > 20) then (2,0) else M2 l 0 (H5 l l.length 0)
/-! ### function 62 -/
def Sk (l:List (List Pt)) (s:Int) (i:Int):St:=⟨(U.f (A5 l)) :: Ag 3 ((U.f (F.int .i64 s)) :: (U.f (F.int .i64 i)) :: Ag 60 []),[]⟩
def N2 (l:List (List Pt)) (i:Int):St:=⟨(U.f (A5 l)) :: Ag 5 ((U.f (F.int .i64 i)) :: Ag 59 []),[]⟩
def N1 (l:List (List Pt)) (i:Int):St:=⟨(U.f (A5 l)) :: Ag 7 ((U.f (F.int .i64 i)) :: Ag 57 []),[]⟩
def N0 (l:List (List Pt)) (i:Int) (j:Int):St:=⟨(U.f (A5 l)) :: Ag 7 ((U.f (F.int .i64 i)) :: (U.f (F.int .i64 j)) :: Ag 56 []),[]⟩
abbrev K9 (ρ:Type):=(List (List Pt))→(Int)→(Int)→Option ρ
abbrev RK (ρ:Type):=(List (List Pt))→(Int)→Option ρ
abbrev YJ (ρ:Type):=(Int)→(Int)→Option ρ
def dQ {ρ:Type} (ret:YJ ρ) (c5:K9 ρ) (c11:RK ρ) (c17:RK ρ) (c20:K9 ρ) (l:List (List Pt)) (s:Int) (i:Int):Option ρ :=
 (AC (decide (i<(↑l.length:Int)))
 (AC (decide (0≤i))
 (AC (decide (i<(↑l.length:Int)))
 (c5 (l) (IntKind.i64.wrap (s+(↑(lenOf ((List.drop 0 (C9 (l.getD i.toNat [])).cells).headD F.dflt)):Int))) (IntKind.i64.wrap (i+1)))
 none)
 none)
 (AC (decide (s > 20))
 (ret (2) (0))
 (c11 (l) (0))))
def VA {ρ:Type} (ret:YJ ρ) (c5:K9 ρ) (c11:RK ρ) (c17:RK ρ) (c20:K9 ρ) (l:List (List Pt)) (i:Int):Option ρ :=
 (AC (decide (i<(↑l.length:Int)))
 (AC (decide (0≤i))
 (AC (decide (i<(↑l.length:Int)))
 (AC (B4 (F.agg [Am (l.getD i.toNat [])]))
 (AC (CB (Ac (F.agg [Am (l.getD i.toNat [])])) != 0)
 (ret (IntKind.i64.wrap (10+CB (Ac (F.agg [Am (l.getD i.toNat [])])))) (i))
 (c11 (l) (IntKind.i64.wrap (i+1))))
 none)
 none)
 none)
 (c17 (l) (0)))
def T2 {ρ:Type} (ret:YJ ρ) (c5:K9 ρ) (c11:RK ρ) (c17:RK ρ) (c20:K9 ρ) (l:List (List Pt)) (i:Int):Option ρ :=
 (AC (decide (i<(↑l.length:Int)))
 (c20 (l) (i) (0))
 (ret (0) (0)))
def T1 {ρ:Type} (ret:YJ ρ) (c5:K9 ρ) (c11:RK ρ) (c17:RK ρ) (c20:K9 ρ) (l:List (List Pt)) (i:Int) (j:Int):Option ρ :=
 (AC (decide (j<i))
 (AC (decide (0≤i))
 (AC (decide (i<(↑l.length:Int)))
 (AC (decide (0≤j))
 (AC (decide (j<(↑l.length:Int)))
 (AC (B4 (F.agg [Am (l.getD i.toNat [])])&&B4 (F.agg [Am (l.getD j.toNat [])])&&(Bp (Ac (F.agg [Am (l.getD i.toNat [])]))&&Bp (Ac (F.agg [Am (l.getD j.toNat [])]))))
 (AC (EU (Ac (F.agg [Am (l.getD i.toNat [])])) (Ac (F.agg [Am (l.getD j.toNat [])])))
 (ret (3) (i))
 (c20 (l) (i) (IntKind.i64.wrap (j+1))))
 none)
 none)
 none)
 none)
 none)
 (c17 (l) (IntKind.i64.wrap (i+1))))
mutual
def M6:Nat→(List (List Pt))→(Int)→(Int)→Option ((Int) × (Int))
 | 0,_,_,_=>none
 | k+1,l,s,i=>dQ (fun a b=>some (a,b)) (M6 k) (IF k) (Hd k) (JV k) l s i
 termination_by structural k=>k
def IF:Nat→(List (List Pt))→(Int)→Option ((Int) × (Int))
 | 0,_,_=>none
 | k+1,l,i=>VA (fun a b=>some (a,b)) (M6 k) (IF k) (Hd k) (JV k) l i
 termination_by structural k=>k
def Hd:Nat→(List (List Pt))→(Int)→Option ((Int) × (Int))
 | 0,_,_=>none
 | k+1,l,i=>T2 (fun a b=>some (a,b)) (M6 k) (IF k) (Hd k) (JV k) l i
 termination_by structural k=>k
def JV:Nat→(List (List Pt))→(Int)→(Int)→Option ((Int) × (Int))
 | 0,_,_,_=>none
 | k+1,l,i,j=>T1 (fun a b=>some (a,b)) (M6 k) (IF k) (Hd k) (JV k) l i j
 termination_by structural k=>k
end
def T62 {ρ:Type} (ret:YJ ρ) (c5:K9 ρ) (c11:RK ρ) (c17:RK ρ) (c20:K9 ρ) (l:List (List Pt)):Option ρ :=
 (AC (decide ((↑l.length:Int) > 6))
 (ret (1) (0))
 (c5 (l) (0) (0)))
def G62 (k:Nat) (l:List (List Pt)):Option ((Int) × (Int)):=T62 (fun a b=>some (a,b)) (M6 k) (IF k) (Hd k) (JV k) l
mutual
theorem t62_5:∀ (k:Nat) (l:List (List Pt)) (s:Int) (i:Int) (a:Int) (b:Int),M6 k l s i=some (a,b)→AY Tryz.prog Tryz.f62.results.toList (at_ Tryz.f62 5) (Sk l s i) (F.tup [F.int .i64 a,F.int .i64 b])
 | 0,_,_,_,_,_,h=>nomatch h
 | k+1,l,s,i,a,b,h=>by
  refine AY.of_cut Ap Gd (T:=[(5,[0,4,5],1000),(11,[0,6],1000),(17,[0,8],1000),(20,[0,8,9],1000)]) (n:=200) ?_
  refine gE (Y:=dQ (fun a b=>some (.ret (F.tup [F.int .i64 a,F.int .i64 b]))) (fun l s i=>some (.cut (at_ Tryz.f62 5) (Sk l s i))) (fun l i=>some (.cut (at_ Tryz.f62 11) (N2 l i))) (fun l i=>some (.cut (at_ Tryz.f62 17) (N1 l i))) (fun l i j=>some (.cut (at_ Tryz.f62 20) (N0 l i j))) l s i) (by kernel_rfl) ?_
  exact (gS h (fun _ h=>(gS h (fun _ h=>(gS h (fun _ h=>gC (t62_5 k _ _ _ a b h)) gN)) gN)) (fun _ h=>(gS h (fun _ h=>gR (by cases h;rfl)) (fun _ h=>gC (jQ k _ _ a b h)))))
theorem jQ:∀ (k:Nat) (l:List (List Pt)) (i:Int) (a:Int) (b:Int),IF k l i=some (a,b)→AY Tryz.prog Tryz.f62.results.toList (at_ Tryz.f62 11) (N2 l i) (F.tup [F.int .i64 a,F.int .i64 b])
 | 0,_,_,_,_,h=>nomatch h
 | k+1,l,i,a,b,h=>by
  refine AY.of_cut Ap Gd (T:=[(5,[0,4,5],1000),(11,[0,6],1000),(17,[0,8],1000),(20,[0,8,9],1000)]) (n:=200) ?_
  refine gE (Y:=VA (fun a b=>some (.ret (F.tup [F.int .i64 a,F.int .i64 b]))) (fun l s i=>some (.cut (at_ Tryz.f62 5) (Sk l s i))) (fun l i=>some (.cut (at_ Tryz.f62 11) (N2 l i))) (fun l i=>some (.cut (at_ Tryz.f62 17) (N1 l i))) (fun l i j=>some (.cut (at_ Tryz.f62 20) (N0 l i j))) l i) (by kernel_rfl) ?_
  exact (gS h (fun _ h=>(gS h (fun _ h=>(gS h (fun _ h=>(gS h (fun _ h=>(gS h (fun _ h=>gR (by cases h;rfl)) (fun _ h=>gC (jQ k _ _ a b h)))) gN)) gN)) gN)) (fun _ h=>gC (jP k _ _ a b h)))
theorem jP:∀ (k:Nat) (l:List (List Pt)) (i:Int) (a:Int) (b:Int),Hd k l i=some (a,b)→AY Tryz.prog Tryz.f62.results.toList (at_ Tryz.f62 17) (N1 l i) (F.tup [F.int .i64 a,F.int .i64 b])
 | 0,_,_,_,_,h=>nomatch h
 | k+1,l,i,a,b,h=>by
  refine AY.of_cut Ap Gd (T:=[(5,[0,4,5],1000),(11,[0,6],1000),(17,[0,8],1000),(20,[0,8,9],1000)]) (n:=200) ?_
  refine gE (Y:=T2 (fun a b=>some (.ret (F.tup [F.int .i64 a,F.int .i64 b]))) (fun l s i=>some (.cut (at_ Tryz.f62 5) (Sk l s i))) (fun l i=>some (.cut (at_ Tryz.f62 11) (N2 l i))) (fun l i=>some (.cut (at_ Tryz.f62 17) (N1 l i))) (fun l i j=>some (.cut (at_ Tryz.f62 20) (N0 l i j))) l i) (by kernel_rfl) ?_
  exact (gS h (fun _ h=>gC (jO k _ _ _ a b h)) (fun _ h=>gR (by cases h;rfl)))
theorem jO:∀ (k:Nat) (l:List (List Pt)) (i:Int) (j:Int) (a:Int) (b:Int),JV k l i j=some (a,b)→AY Tryz.prog Tryz.f62.results.toList (at_ Tryz.f62 20) (N0 l i j) (F.tup [F.int .i64 a,F.int .i64 b])
 | 0,_,_,_,_,_,h=>nomatch h
 | k+1,l,i,j,a,b,h=>by
  refine AY.of_cut Ap Gd (T:=[(5,[0,4,5],1000),(11,[0,6],1000),(17,[0,8],1000),(20,[0,8,9],1000)]) (n:=200) ?_
  refine gE (Y:=T1 (fun a b=>some (.ret (F.tup [F.int .i64 a,F.int .i64 b]))) (fun l s i=>some (.cut (at_ Tryz.f62 5) (Sk l s i))) (fun l i=>some (.cut (at_ Tryz.f62 11) (N2 l i))) (fun l i=>some (.cut (at_ Tryz.f62 17) (N1 l i))) (fun l i j=>some (.cut (at_ Tryz.f62 20) (N0 l i j))) l i j) (by kernel_rfl) ?_
  exact (gS h (fun _ h=>(gS h (fun _ h=>(gS h (fun _ h=>(gS h (fun _ h=>(gS h (fun _ h=>(gS h (fun _ h=>(gS h (fun _ h=>gR (by cases h;rfl)) (fun _ h=>gC (jO k _ _ _ a b h)))) gN)) gN)) gN)) gN)) gN)) (fun _ h=>gC (jP k _ _ a b h)))
end
theorem t62 (k:Nat) (l:List (List Pt)) (a:Int) (b:Int) (h:G62 k l=some (a,b)):AY Tryz.prog Tryz.f62.results.toList [.code (AR Tryz.f62)] (start Tryz.f62.ntmps ([A5 l].map .f)) (F.tup [F.int .i64 a,F.int .i64 b]):=by
 refine AY.of_run Ap Gd (T:=[(5,[0,4,5],1000),(11,[0,6],1000),(17,[0,8],1000),(20,[0,8,9],1000)]) (n:=200) ?_
 refine gE (Y:=T62 (fun a b=>some (.ret (F.tup [F.int .i64 a,F.int .i64 b]))) (fun l s i=>some (.cut (at_ Tryz.f62 5) (Sk l s i))) (fun l i=>some (.cut (at_ Tryz.f62 11) (N2 l i))) (fun l i=>some (.cut (at_ Tryz.f62 17) (N1 l i))) (fun l i j=>some (.cut (at_ Tryz.f62 20) (N0 l i j))) l) (by kernel_rfl) ?_
 exact (gS h (fun _ h=>gR (by cases h;rfl)) (fun _ h=>gC (t62_5 k _ _ _ a b h)))
theorem R3 {l:List (List Pt)} (hn:l.length≤6) (hr:∀ r ∈ l,Bp r=true) {i:Nat} (hi:i<l.length) {R:Int × Int} {K:Nat} (hout:∀ k,K≤k→Hd k l ((i+1:Nat):Int)=some R) :
  ∀ (d j k:Nat),j+d=i→d+1+K≤k→JV k l i j=some (bif Gj (l.getD i []) ((l.take i).drop j) then (3,(i:Int)) else R)
 | d,j,0,_,hk=>by omega
 | 0,j,k+1,hj,hk=>by
  rw [JV]
  unfold T1
  rw [decide_eq_false (show ¬ (j:Int)<i by omega),AJ,Av (by omega) (by omega),show (i:Int)+1=((i+1:Nat):Int) by omega,hout k (by omega),List.drop_eq_nil_of_le (by rw [List.length_take];omega)]
  rfl
 | d+1,j,k+1,hj,hk=>by
  have ih:=R3 hn hr hi hout d (j+1) k (by omega) (by omega)
  have wj:IntKind.i64.wrap ((j:Int)+1)=((j+1:Nat):Int):=by rw [Av (by omega) (by omega)];omega
  have hjt:j<(l.take i).length:=by rw [List.length_take];omega
  have hgj:(l.take i)[j]=l.getD j []:=by simp [List.getD,List.getElem?_eq_getElem (show j<l.length by omega)]
  have ri:=hr _ (Gy (d:=[]) hi)
  have rj:=hr _ (Gy (d:=[]) (show j<l.length by omega))
  rw [JV]
  unfold T1
  simp only [decide_eq_true (show (j:Int)<i by omega),decide_eq_true (show (0:Int)≤i by omega),decide_eq_true (show (i:Int)<l.length by omega),decide_eq_true (show (0:Int)≤j by omega),decide_eq_true (show (j:Int)<l.length by omega),Int.toNat_natCast,CM,Br,ri,rj,wj,ih,Bool.and_self,AF]
  rw [List.drop_eq_getElem_cons hjt,hgj]
  unfold Gj
  rw [List.any_cons]
  cases EU (l.getD i []) (l.getD j []) <;> rfl
theorem R4 {l:List (List Pt)} (hn:l.length≤6) (hr:∀ r ∈ l,Bp r=true):∀ (d i k:Nat),i+d=l.length→10*d+1≤k→Hd k l i=some (H5 l d i)
 | d,i,0,_,hk=>by omega
 | 0,i,k+1,hi,hk=>by
  rw [Hd]
  unfold T2
  rw [decide_eq_false (show ¬ (i:Int)<l.length by omega)]
  rfl
 | d+1,i,k+1,hi,hk=>by
  have ih:=R3 hn hr (i:=i) (by omega) (K:=10*d+1) (fun k hk=>R4 hn hr d (i+1) k (by omega) hk) i 0 k (by omega) (by omega)
  rw [Hd]
  unfold T2
  rw [decide_eq_true (show (i:Int)<l.length by omega),AF]
  exact ih
theorem R5 {l:List (List Pt)} (hn:l.length≤6) {R:Int × Int} {K:Nat} (hout:(∀ r ∈ l,Bp r=true)→∀ k,K≤k→Hd k l 0=some R) :
  ∀ (d i k:Nat),i+d=l.length→d+1+K≤k→(∀ r ∈ l.take i,Bp r=true)→IF k l i=some (M2 (l.drop i) i R)
 | d,i,0,_,hk,_=>by omega
 | 0,i,k+1,hi,hk,ht=>by
  rw [List.take_of_length_le (by omega)] at ht
  rw [IF]
  unfold VA
  rw [decide_eq_false (show ¬ (i:Int)<l.length by omega),AJ,hout ht k (by omega),List.drop_eq_nil_of_le (by omega)]
  rfl
 | d+1,i,k+1,hi,hk,ht=>by
  have hlt:i<l.length:=by omega
  have hg:l.getD i []=l[i]:=by simp [List.getD,List.getElem?_eq_getElem hlt]
  have wi:IntKind.i64.wrap ((i:Int)+1)=((i+1:Nat):Int):=by rw [Av (by omega) (by omega)];omega
  rw [IF]
  unfold VA
  rw [decide_eq_true (show (i:Int)<l.length by omega),decide_eq_true (show (0:Int)≤i by omega),Int.toNat_natCast,hg,wi,CM,Br,List.drop_eq_getElem_cons hlt,M2]
  simp only [AF]
  cases hf:(CB l[i] != 0) with
  | true=>rfl
  | false =>
   have hrr:Bp l[i]=true:=by
    unfold Bp
    rw [bne,Bool.not_eq_false'] at hf
    exact hf
   rw [AJ,cond_false,R5 hn hout d (i+1) k (by omega) (by omega) fun p hp=>by
    rw [List.take_succ_eq_append_getElem hlt,List.mem_append] at hp
    rcases hp with hp | hp
    ·exact ht p hp
    ·simp at hp;subst hp;exact hrr]
theorem Wv {l:List (List Pt)} (hn:l.length≤6) {R:Int × Int} {K:Nat} (hout:∀ k,K≤k→IF k l 0=some R):∀ (d i k:Nat) (s:Int),i+d=l.length→d+1+K≤k→M6 k l s i=some (bif decide (LA (l.drop i) s > 20) then (2,0) else R)
 | d,i,0,_,_,hk=>by omega
 | 0,i,k+1,s,hi,hk=>by
  rw [M6]
  unfold dQ
  rw [decide_eq_false (show ¬ (i:Int)<l.length by omega),AJ,hout k (by omega),List.drop_eq_nil_of_le (by omega),LA]
  cases decide (s > 20) <;> rfl
 | d+1,i,k+1,s,hi,hk=>by
  have hlt:i<l.length:=by omega
  have hg:l.getD i []=l[i]:=by simp [List.getD,List.getElem?_eq_getElem hlt]
  have wi:IntKind.i64.wrap ((i:Int)+1)=((i+1:Nat):Int):=by rw [Av (by omega) (by omega)];omega
  have e:∀ r:List Pt,lenOf ((List.drop 0 (C9 r).cells).headD F.dflt)=r.length:=fun _=>rfl
  rw [M6]
  unfold dQ
  rw [decide_eq_true (show (i:Int)<l.length by omega),decide_eq_true (show (0:Int)≤i by omega),Int.toNat_natCast,wi]
  simp only [e,hg,AF]
  rw [Wv hn hout d (i+1) k _ (by omega) (by omega),List.drop_eq_getElem_cons hlt,LA]
theorem ZJ (l:List (List Pt)):G62 200 l=some (Et l):=by
 unfold G62 T62 Et
 by_cases h:l.length > 6
 ·rw [decide_eq_true (show (l.length:Int) > 6 by omega),decide_eq_true h];rfl
 ·rw [decide_eq_false (show ¬ (l.length:Int) > 6 by omega),decide_eq_false h]
  exact Wv (by omega) (R:=M2 l 0 (H5 l l.length 0)) (K:=100) (fun k hk=>R5 (by omega) (R:=H5 l l.length 0) (K:=80) (fun hr k hk=>R4 (by omega) hr l.length 0 k (by omega) (by omega)) l.length 0 k (by omega) (by omega) (by simp)) l.length 0 200 0 (by omega) (by omega)
def Df:List F→Bool | [x]=>B2 x | _=>false
def MQ:List F→F | [x]=>.tup [.int .i64 (Et (Au x)).1,.int .i64 (Et (Au x)).2] | _=>.dflt
theorem mA:Ai Tryz.prog 62 Df MQ :=
 Ae (c:=AR Tryz.f62) Tryz.func62 (by kernel_rfl) (by kernel_rfl) fun xs hp=>match xs,hp with
 | [x],hp=>⟨[A5 (Au x)],_,⟨(Cv hp).1,trivial⟩,t62 200 _ _ _ (ZJ _),.refl _⟩
def envK8:Env:=(envK7.add 16 (.pure Lb Pa)).add 62 (.pure Df MQ)
theorem Mu:Ax Tryz.prog envK8:=(Env.add_ok (Env.add_ok Gd fM.sp) mA.sp)
end
noncomputable section
set_option maxHeartbeats 1000000
/-! ### function 7 -/
def S7_6 (l:List (List Pt)) (n:Int) (i:Int):St:=⟨(U.f (A5 l)) :: Ag 16 ((U.f (A5 l)) :: (U.f (F.int .i64 n)) :: (U.f (F.int .i64 i)) :: Ag 26 []),[]⟩
def eI (l:List (List Pt)) (n:Int) (i:Int):St:=⟨(U.f (A5 l)) :: Ag 31 ((U.f (A5 l)) :: (U.f (F.int .i64 n)) :: (U.f (F.int .i64 i)) :: Ag 11 []),[]⟩
def T7_6 {ρ:Type} (ret:YJ ρ) (c6:K9 ρ) (c13:K9 ρ) (l:List (List Pt)) (n:Int) (i:Int):Option ρ :=
 (AC (decide (i<n))
 (AC (decide (0≤i))
 (AC (decide (i<(↑l.length:Int)))
 (AC (B4 (F.agg [Am (l.getD i.toNat [])]))
 (AC (CB (Ac (F.agg [Am (l.getD i.toNat [])])) != 0)
 (ret (IntKind.i64.wrap (10+CB (Ac (F.agg [Am (l.getD i.toNat [])])))) (i))
 (c6 (l) (n) (IntKind.i64.wrap (i+1))))
 none)
 none)
 none)
 (c13 (l) ((↑l.length:Int)) (0)))
def dJ {ρ:Type} (ret:YJ ρ) (c6:K9 ρ) (c13:K9 ρ) (l:List (List Pt)) (n:Int) (i:Int):Option ρ :=
 (AC (decide (i<n))
 (AC (decide (0≤i))
 (AC (decide (i<(↑l.length:Int)))
 (AC (decide (0≤i))
 (AC (decide (i≤(↑l.length:Int)))
 (AC (C3 (Am (l.getD i.toNat []))&&B2 (F.sl (i.toNat-Int.toNat 0) fun j ↦ C9 (l.getD (Int.toNat 0+j) []))&&(Bp (BR (Am (l.getD i.toNat [])))&&Ib (Au (F.sl (i.toNat-Int.toNat 0) fun j ↦ C9 (l.getD (Int.toNat 0+j) [])))))
 (AC ((Au (F.sl (i.toNat-Int.toNat 0) fun j ↦ C9 (l.getD (Int.toNat 0+j) []))).any (EU (BR (Am (l.getD i.toNat [])))))
 (ret (3) (i))
 (c13 (l) (n) (IntKind.i64.wrap (i+1))))
 none)
 none)
 none)
 none)
 none)
 (ret (0) (0)))
mutual
def aB:Nat→(List (List Pt))→(Int)→(Int)→Option ((Int) × (Int))
 | 0,_,_,_=>none
 | k+1,l,n,i=>T7_6 (fun a b=>some (a,b)) (aB k) (Od k) l n i
def Od:Nat→(List (List Pt))→(Int)→(Int)→Option ((Int) × (Int))
 | 0,_,_,_=>none
 | k+1,l,n,i=>dJ (fun a b=>some (a,b)) (aB k) (Od k) l n i
end
def T7 {ρ:Type} (ret:YJ ρ) (c6:K9 ρ) (c13:K9 ρ) (l:List (List Pt)):Option ρ :=
 (AC (decide ((↑l.length:Int) > 6))
 (ret (1) (0))
 (AC (B2 (A5 l)&&nI (Au (A5 l)))
 (AC (decide (LV (Au (A5 l)) > 20))
 (ret (2) (0))
 (c6 (l) ((↑l.length:Int)) (0)))
 none))
def G7 (k:Nat) (l:List (List Pt)):Option ((Int) × (Int)):=T7 (fun a b=>some (a,b)) (aB k) (Od k) l
mutual
theorem t7_6:∀ (k:Nat) (l:List (List Pt)) (n:Int) (i:Int) (a:Int) (b:Int),aB k l n i=some (a,b)→AY Tryz.prog Tryz.f7.results.toList (at_ Tryz.f7 6) (S7_6 l n i) (F.tup [F.int .i64 a,F.int .i64 b])
 | 0,_,_,_,_,_,h=>nomatch h
 | k+1,l,n,i,a,b,h=>by
  refine AY.of_cut Ap Mu (T:=[(6,[0,17,18,19],1000),(13,[0,32,33,34],1000)]) (n:=200) ?_
  refine gE (Y:=T7_6 (fun a b=>some (.ret (F.tup [F.int .i64 a,F.int .i64 b]))) (fun l n i=>some (.cut (at_ Tryz.f7 6) (S7_6 l n i))) (fun l n i=>some (.cut (at_ Tryz.f7 13) (eI l n i))) l n i) (by kernel_rfl) ?_
  exact (gS h (fun _ h=>(gS h (fun _ h=>(gS h (fun _ h=>(gS h (fun _ h=>(gS h (fun _ h=>gR (by cases h;rfl)) (fun _ h=>gC (t7_6 k _ _ _ a b h)))) gN)) gN)) gN)) (fun _ h=>gC (t7_13 k _ _ _ a b h)))
theorem t7_13:∀ (k:Nat) (l:List (List Pt)) (n:Int) (i:Int) (a:Int) (b:Int),Od k l n i=some (a,b)→AY Tryz.prog Tryz.f7.results.toList (at_ Tryz.f7 13) (eI l n i) (F.tup [F.int .i64 a,F.int .i64 b])
 | 0,_,_,_,_,_,h=>nomatch h
 | k+1,l,n,i,a,b,h=>by
  refine AY.of_cut Ap Mu (T:=[(6,[0,17,18,19],1000),(13,[0,32,33,34],1000)]) (n:=200) ?_
  refine gE (Y:=dJ (fun a b=>some (.ret (F.tup [F.int .i64 a,F.int .i64 b]))) (fun l n i=>some (.cut (at_ Tryz.f7 6) (S7_6 l n i))) (fun l n i=>some (.cut (at_ Tryz.f7 13) (eI l n i))) l n i) (by kernel_rfl) ?_
  exact (gS h (fun _ h=>(gS h (fun _ h=>(gS h (fun _ h=>(gS h (fun _ h=>(gS h (fun _ h=>(gS h (fun _ h=>(gS h (fun _ h=>gR (by cases h;rfl)) (fun _ h=>gC (t7_13 k _ _ _ a b h)))) gN)) gN)) gN)) gN)) gN)) (fun _ h=>gR (by cases h;rfl)))
end
theorem t7 (k:Nat) (l:List (List Pt)) (a:Int) (b:Int) (h:G7 k l=some (a,b)):AY Tryz.prog Tryz.f7.results.toList [.code (AR Tryz.f7)] (start Tryz.f7.ntmps ([A5 l].map .f)) (F.tup [F.int .i64 a,F.int .i64 b]):=by
 refine AY.of_run Ap Mu (T:=[(6,[0,17,18,19],1000),(13,[0,32,33,34],1000)]) (n:=200) ?_
 refine gE (Y:=T7 (fun a b=>some (.ret (F.tup [F.int .i64 a,F.int .i64 b]))) (fun l n i=>some (.cut (at_ Tryz.f7 6) (S7_6 l n i))) (fun l n i=>some (.cut (at_ Tryz.f7 13) (eI l n i))) l) (by kernel_rfl) ?_
 exact (gS h (fun _ h=>gR (by cases h;rfl)) (fun _ h=>(gS h (fun _ h=>(gS h (fun _ h=>gR (by cases h;rfl)) (fun _ h=>gC (t7_6 k _ _ _ a b h)))) gN)))
theorem SE {l:List (List Pt)} (hn:l.length≤6) (hr:∀ r ∈ l,Bp r=true):∀ (d i k:Nat),i+d=l.length→d+1≤k→Od k l l.length i=some (H5 l d i)
 | d,i,0,_,hk=>by omega
 | 0,i,k+1,hi,hk=>by
  rw [Od]
  unfold dJ
  rw [decide_eq_false (show ¬ (i:Int)<l.length by omega)]
  rfl
 | d+1,i,k+1,hi,hk=>by
  have ih:=SE hn hr d (i+1) k (by omega) (by omega)
  have wi:IntKind.i64.wrap ((i:Int)+1)=((i+1:Nat):Int):=by rw [Av (by omega) (by omega)];omega
  obtain ⟨u1,u2⟩:=S2 l i (by omega)
  have ri:=hr _ (Gy (d:=[]) (show i<l.length by omega))
  have hrs:Ib (l.take i)=true:=Mk.2 ⟨fun p hp=>hr p (List.mem_of_mem_take hp),by rw [List.length_take];omega⟩
  have hh:(l.take i).any (EU (l.getD i []))=Gj (l.getD i []) (l.take i):=rfl
  rw [Od]
  unfold dJ
  simp only [decide_eq_true (show (i:Int)<l.length by omega),decide_eq_true (show (0:Int)≤i by omega),decide_eq_true (show (i:Int)≤l.length by omega),Int.toNat_natCast,Int.toNat_zero,Nat.sub_zero,Nat.zero_add,GE,E6,u1,u2,ri,hrs,hh,wi,ih,Bool.and_self,AF,H5]
  cases Gj (l.getD i []) (l.take i) <;> rfl
theorem W8 {l:List (List Pt)} (hn:l.length≤6) {R:Int × Int} {K:Nat} (hout:(∀ r ∈ l,Bp r=true)→∀ k,K≤k→Od k l l.length 0=some R) :
  ∀ (d i k:Nat),i+d=l.length→d+1+K≤k→(∀ r ∈ l.take i,Bp r=true)→aB k l l.length i=some (M2 (l.drop i) i R)
 | d,i,0,_,hk,_=>by omega
 | 0,i,k+1,hi,hk,ht=>by
  rw [List.take_of_length_le (by omega)] at ht
  rw [aB]
  unfold T7_6
  rw [decide_eq_false (show ¬ (i:Int)<l.length by omega),AJ,hout ht k (by omega),List.drop_eq_nil_of_le (by omega)]
  rfl
 | d+1,i,k+1,hi,hk,ht=>by
  have hlt:i<l.length:=by omega
  have hg:l.getD i []=l[i]:=by simp [List.getD,List.getElem?_eq_getElem hlt]
  have wi:IntKind.i64.wrap ((i:Int)+1)=((i+1:Nat):Int):=by rw [Av (by omega) (by omega)];omega
  rw [aB]
  unfold T7_6
  rw [decide_eq_true (show (i:Int)<l.length by omega),decide_eq_true (show (0:Int)≤i by omega),Int.toNat_natCast,hg,wi,CM,Br,List.drop_eq_getElem_cons hlt,M2]
  simp only [AF]
  cases hf:(CB l[i] != 0) with
  | true=>rfl
  | false =>
   have hrr:Bp l[i]=true:=by
    unfold Bp
    rw [bne,Bool.not_eq_false'] at hf
    exact hf
   rw [AJ,cond_false,W8 hn hout d (i+1) k (by omega) (by omega) fun p hp=>by
    rw [List.take_succ_eq_append_getElem hlt,List.mem_append] at hp
    rcases hp with hp | hp
    ·exact ht p hp
    ·simp at hp;subst hp;exact hrr]
theorem ZI (l:List (List Pt)):G7 200 l=some (Et l):=by
 unfold G7 T7 Et
 by_cases h:l.length > 6
 ·rw [decide_eq_true (show (l.length:Int) > 6 by omega),decide_eq_true h];rfl
 ·rw [decide_eq_false (show ¬ (l.length:Int) > 6 by omega),decide_eq_false h,CV,B7,show nI l=true from decide_eq_true (by omega)]
  simp only [Bool.and_self,AF,AJ,cond_false]
  cases decide (LV l > 20) with
  | true=>rfl
  | false=>exact W8 (by omega) (R:=H5 l l.length 0) (K:=80) (fun hr k hk=>SE (by omega) hr l.length 0 k (by omega) (by omega)) l.length 0 200 (by omega) (by omega) (by simp)
theorem lZ:Ai Tryz.prog 7 Df MQ :=
 Ae (c:=AR Tryz.f7) Tryz.func7 (by kernel_rfl) (by kernel_rfl) fun xs hp=>match xs,hp with
 | [x],hp=>⟨[A5 (Au x)],_,⟨(Cv hp).1,trivial⟩,t7 200 _ _ _ (ZI _),.refl _⟩
def envK9:Env:=envK8.add 7 (.pure Df MQ)
theorem QQ:Ax Tryz.prog envK9:=(Env.add_ok Mu lZ.sp)
end
noncomputable section
def DM (l:List (List Pt)):Bool:=(Et l).1==0
def Iz:List F→F | [x]=>.bool (DM (Au x)) | _=>.dflt
/-! ### function 29 -/
abbrev VK (ρ:Type):=(Bool)→Option ρ
def T29 {ρ:Type} (ret:VK ρ) (l:List (List Pt)):Option ρ :=
 (AC (B2 (A5 l))
 (ret ((Et (Au (A5 l))).fst==0))
 none)
def G29 (l:List (List Pt)):Option (Bool):=T29 some l
theorem t29 (l:List (List Pt)) (b:Bool) (h:G29 l=some b):AY Tryz.prog Tryz.f29.results.toList [.code (AR Tryz.f29)] (start Tryz.f29.ntmps ([A5 l].map .f)) (F.bool b):=by
 refine AY.of_run Ap QQ (T:=[]) (n:=200) ?_
 refine gE (Y:=T29 (fun b=>some (.ret (F.bool b))) l) (by kernel_rfl) ?_
 exact (gS h (fun _ h=>gR (by cases h;rfl)) gN)
/-! ### function 26 -/
def T26 {ρ:Type} (ret:VK ρ) (l:List (List Pt)):Option ρ :=
 (AC (B2 (A5 l))
 (ret ((Et (Au (A5 l))).fst==0))
 none)
def G26 (l:List (List Pt)):Option (Bool):=T26 some l
theorem t26 (l:List (List Pt)) (b:Bool) (h:G26 l=some b):AY Tryz.prog Tryz.f26.results.toList [.code (AR Tryz.f26)] (start Tryz.f26.ntmps ([A5 l].map .f)) (F.bool b):=by
 refine AY.of_run Ap QQ (T:=[]) (n:=200) ?_
 refine gE (Y:=T26 (fun b=>some (.ret (F.bool b))) l) (by kernel_rfl) ?_
 exact (gS h (fun _ h=>gR (by cases h;rfl)) gN)
theorem Y4:Ai Tryz.prog 29 Df Iz :=
 Ae (c:=AR Tryz.f29) Tryz.func29 (by kernel_rfl) (by kernel_rfl) fun xs hp=>match xs,hp with
 | [x],hp=>⟨[A5 (Au x)],_,⟨(Cv hp).1,trivial⟩,t29 (Au x) (DM (Au x)) (by unfold G29 T29;rw [CV,B7];rfl),.refl _⟩
theorem Y3:Ai Tryz.prog 26 Df Iz :=
 Ae (c:=AR Tryz.f26) Tryz.func26 (by kernel_rfl) (by kernel_rfl) fun xs hp=>match xs,hp with
 | [x],hp=>⟨[A5 (Au x)],_,⟨(Cv hp).1,trivial⟩,t26 (Au x) (DM (Au x)) (by unfold G26 T26;rw [CV,B7];rfl),.refl _⟩
def oU:Env:=(envK9.add 29 (.pure Df Iz)).add 26 (.pure Df Iz)
theorem SS:Ax Tryz.prog oU:=(Env.add_ok (Env.add_ok QQ Y4.sp) Y3.sp)
end
noncomputable section
set_option maxHeartbeats 2000000
def lC (X Y W:Int):F:=.agg [.int .u64 (wd3 X),.int .u64 (wd2 X),.int .u64 (wd1 X),.int .u64 (wd0 X),.int .u64 (wd3 Y),.int .u64 (wd2 Y),.int .u64 (wd1 Y),.int .u64 (wd0 Y),.int .u64 (wd3 W),.int .u64 (wd2 W),.int .u64 (wd1 W),.int .u64 (wd0 W)]
def Nf (d x y w:Int):Prop:=d ≠ 0∧d ∣ x∧d ∣ y∧d ∣ w∧0<w / d∧∀ e,e ∣ x→e ∣ y→e ∣ w→e ∣ d
theorem XI (x y w:Int):AZ 0 [x,y,w]=Nat.gcd (Nat.gcd x.natAbs y.natAbs) w.natAbs:=by
 show Nat.gcd (Nat.gcd (Nat.gcd 0 x.natAbs) y.natAbs) w.natAbs=_
 rw [Nat.gcd_zero_left]
theorem gI {x y w:Int} (h:w ≠ 0):Nf (if w<0 then -((AZ 0 [x,y,w]:Nat):Int) else (AZ 0 [x,y,w]:Nat)) x y w:=by
 rw [XI]
 have hg:0<Nat.gcd (Nat.gcd x.natAbs y.natAbs) w.natAbs:=Nat.gcd_pos_of_pos_right _ (by omega)
 have d1:((Nat.gcd (Nat.gcd x.natAbs y.natAbs) w.natAbs:Nat):Int) ∣ x:=Int.natAbs_dvd_natAbs.1 (by rw [Int.natAbs_natCast];exact Nat.dvd_trans (Nat.gcd_dvd_left _ _) (Nat.gcd_dvd_left _ _))
 have d2:((Nat.gcd (Nat.gcd x.natAbs y.natAbs) w.natAbs:Nat):Int) ∣ y:=Int.natAbs_dvd_natAbs.1 (by rw [Int.natAbs_natCast];exact Nat.dvd_trans (Nat.gcd_dvd_left _ _) (Nat.gcd_dvd_right _ _))
 have d3:((Nat.gcd (Nat.gcd x.natAbs y.natAbs) w.natAbs:Nat):Int) ∣ w:=Int.natAbs_dvd_natAbs.1 (by rw [Int.natAbs_natCast];exact Nat.gcd_dvd_right _ _)
 have d4:∀ e:Int,e ∣ x→e ∣ y→e ∣ w→e ∣ ((Nat.gcd (Nat.gcd x.natAbs y.natAbs) w.natAbs:Nat):Int):=fun e h1 h2 h3=>by
  rw [← Int.natAbs_dvd_natAbs] at h1 h2 h3 ⊢
  exact Nat.dvd_gcd (Nat.dvd_gcd h1 h2) h3
 generalize Nat.gcd (Nat.gcd x.natAbs y.natAbs) w.natAbs=g at *
 obtain ⟨c,hc⟩:=d3
 by_cases hn:w<0
 ·rw [if_pos hn]
  refine ⟨by omega,Int.neg_dvd.2 d1,Int.neg_dvd.2 d2,Int.neg_dvd.2 ⟨c,hc⟩,?_,fun e h1 h2 h3=>Int.dvd_neg.2 (d4 e h1 h2 h3)⟩
  rw [Int.ediv_neg,hc,Int.mul_ediv_cancel_left _ (by omega)]
  have:¬ 0≤c:=fun h=>by have:=Int.mul_nonneg (show (0:Int)≤g by omega) h;omega
  omega
 ·rw [if_neg hn]
  refine ⟨by omega,d1,d2,⟨c,hc⟩,?_,d4⟩
  rw [hc,Int.mul_ediv_cancel_left _ (by omega)]
  have:¬ c≤0:=fun h=>by
   have:=Int.mul_nonneg (show (0:Int)≤g by omega) (show 0≤-c by omega)
   rw [Int.mul_neg] at this
   omega
  omega
theorem HM {x d:Int} (h:x.natAbs<18446744073709551616):(x / d).natAbs<18446744073709551616:=Nat.lt_of_le_of_lt (Int.natAbs_ediv_le_natAbs x d) h
theorem WY {x y w:Int} (hx:x.natAbs<18446744073709551616) (hy:y.natAbs<18446744073709551616) (hw:w.natAbs<18446744073709551616) (h0:w ≠ 0) :
  ∃ d,Nf d x y w∧G50 x y w=some (.tup [lC (x / d) (y / d) (w / d),.bool true]):=by
 refine ⟨_,gI h0,?_⟩
 have hx1:x.natAbs<18446744073709551616 ^ 1:=by rw [Nat.pow_one];exact hx
 have hy1:y.natAbs<18446744073709551616 ^ 1:=by rw [Nat.pow_one];exact hy
 have hw1:w.natAbs<18446744073709551616 ^ 1:=by rw [Nat.pow_one];exact hw
 have e1:Ad (F.sl 3 (Aj [AH x,AH y,AH w]))=[x,y,w]:=by
  show [AG (AH x),AG (AH y),AG (AH w)]=_
  rw [Bj,Bj,Bj]
 have e0:H9 400 (F.sl 3 (Aj [AH x,AH y,AH w]))=true:=by
  simp only [H9,Ci,List.all_eq_true,List.mem_range]
  intro i hi
  match i,hi with
  | 0,_=>exact A2 hx1 (by omega)
  | 1,_=>exact A2 hy1 (by omega)
  | 2,_=>exact A2 hw1 (by omega)
 have e2:SJ [x,y,w]=true:=Ng.2 ⟨by simp,fun z hz=>by
  simp at hz
  rcases hz with rfl | rfl
  ·exact hy
  ·exact hw⟩
 have hs:(w.sign==0)=false:=by
  rw [MI,beq_eq_false_iff_ne];exact h0
 have hg0:AZ 0 [x,y,w] ≠ 0∧AZ 0 [x,y,w]≤w.natAbs:=by
  rw [XI]
  have h1:=Nat.gcd_pos_of_pos_right (Nat.gcd x.natAbs y.natAbs) (show 0<w.natAbs by omega)
  have h2:=Nat.gcd_le_right (Nat.gcd x.natAbs y.natAbs) (show 0<w.natAbs by omega)
  omega
 unfold G50 T50
 simp only [e0,e1,e2,Bj,A2 hw1 (show 1≤400 by omega),Bool.and_self,AF,hs,AJ]
 generalize AZ 0 [x,y,w]=g at hg0 ⊢
 have hg1:((g:Nat):Int).natAbs<18446744073709551616 ^ 1:=by rw [Nat.pow_one];omega
 have hm1:(-((g:Nat):Int)).natAbs<18446744073709551616 ^ 1:=by rw [Nat.pow_one];omega
 have o1:∀ x:Int,HN x (g:Int)=true:=fun x=>D4.2 ⟨by omega,.inl (by omega)⟩
 have o2:∀ x:Int,HN x (-(g:Int))=true:=fun x=>D4.2 ⟨by omega,.inl (by omega)⟩
 have q:∀ {x d:Int},x.natAbs<18446744073709551616→(x / d).natAbs<18446744073709551616 ^ 1:=fun h=>by rw [Nat.pow_one];exact HM h
 have bl:∀ {x d:Int},x.natAbs<18446744073709551616→bitLen (x / d).natAbs≤64:=fun h=>Hv (HM h)
 have small:∀ a b c:Nat,a≤64→b≤64→c≤64→decide ((if (c:Int) > if (b:Int) > (a:Int) then (b:Int) else (a:Int) then (c:Int) else if (b:Int) > (a:Int) then (b:Int) else (a:Int)) > 80)=false:=fun a b c h1 h2 h3=>decide_eq_false (by split <;> split <;> omega)
 by_cases hn:w<0
 ·rw [decide_eq_true hn,AF,if_pos hn]
  simp only [if_true,A2 hg1 (show 1≤400 by omega),A2 hx1 (show 1≤399 by omega),A2 hy1 (show 1≤399 by omega),A2 hw1 (show 1≤399 by omega),A2 hm1 (show 1≤399 by omega),o2,A2 (q (d:=-(g:Int)) hx) (show 1≤400 by omega),A2 (q (d:=-(g:Int)) hy) (show 1≤400 by omega),A2 (q (d:=-(g:Int)) hw) (show 1≤400 by omega),
   A2 (q (d:=-(g:Int)) hx) (show 1≤399 by omega),A2 (q (d:=-(g:Int)) hy) (show 1≤399 by omega),A2 (q (d:=-(g:Int)) hw) (show 1≤399 by omega),Bool.and_self,AF]
  rw [small _ _ _ (bl hx) (bl hy) (bl hw),AJ]
  rfl
 ·rw [decide_eq_false hn,AJ,if_neg hn]
  simp only [if_true,A2 hg1 (show 1≤399 by omega),A2 hx1 (show 1≤399 by omega),A2 hy1 (show 1≤399 by omega),A2 hw1 (show 1≤399 by omega),o1,A2 (q (d:=(g:Int)) hx) (show 1≤400 by omega),A2 (q (d:=(g:Int)) hy) (show 1≤400 by omega),A2 (q (d:=(g:Int)) hw) (show 1≤400 by omega),
   A2 (q (d:=(g:Int)) hx) (show 1≤399 by omega),A2 (q (d:=(g:Int)) hy) (show 1≤399 by omega),A2 (q (d:=(g:Int)) hw) (show 1≤399 by omega),Bool.and_self,AF]
  rw [small _ _ _ (bl hx) (bl hy) (bl hw),AJ]
  rfl
/-! The point of two segments. -/
def If (X:Option F) (R:Int→Int→Int→Prop):Prop:=∃ (k:Int) (P Q:List F),X=some (F.tup [.int .i64 k,.agg P,.agg Q])∧P.length=12∧(k=1→∃ x y w,R x y w∧F.agg P=lC x y w)
theorem gK {c:Bool} {X Y:Option F} {R:Int→Int→Int→Prop} (h1:c=true→If X R) (h2:c=false→If Y R):If (AC c X Y) R:=by
 cases c
 ·exact h2 rfl
 ·exact h1 rfl
theorem HC {k:Int} {P Q:List F} {R:Int→Int→Int→Prop} (hl:P.length=12) (h:k ≠ 1):If (some (F.tup [.int .i64 k,.agg P,.agg Q])) R:=⟨k,P,Q,rfl,hl,fun e=>absurd e h⟩
theorem nP {k x y w:Int} {Q:List F} {R:Int→Int→Int→Prop} (h:R x y w):If (some (F.tup [.int .i64 k,.agg [.int .u64 (wd3 x),.int .u64 (wd2 x),.int .u64 (wd1 x),.int .u64 (wd0 x),.int .u64 (wd3 y),.int .u64 (wd2 y),.int .u64 (wd1 y),.int .u64 (wd0 y),.int .u64 (wd3 w),.int .u64 (wd2 w),.int .u64 (wd1 w),.int .u64 (wd0 w)],.agg Q])) R:=⟨k,_,Q,rfl,rfl,fun _=>⟨x,y,w,h,rfl⟩⟩
def colP (x0 y0 x1 y1 u0 v0 u1 v1 x y w:Int):Prop:=w=1∧((x=x0∧y=y0∧u1=x0∧v1=y0) ∨ (x=u0∧y=v0∧x1=u0∧y1=v0))
def offP (x0 y0 x1 y1 u0 v0 u1 v1 x y w:Int):Prop :=
 let A:=Ab x0 y0 x1 y1 u0 v0
 let B:=Ab x0 y0 x1 y1 u1 v1
 A ≠ B∧∃ d,Nf d (u0*(A-B)+A*(u1-u0)) (v0*(A-B)+A*(v1-v0)) (A-B)∧x=(u0*(A-B)+A*(u1-u0)) / d∧y=(v0*(A-B)+A*(v1-v0)) / d∧w=(A-B) / d∧x.natAbs<18446744073709551616∧y.natAbs<18446744073709551616∧w.natAbs<18446744073709551616
theorem gD {x0 y0 x1 y1 u0 v0 u1 v1:Int} (h0:At x0 y0) (h1:At x1 y1) (k0:At u0 v0) (k1:At u1 v1) (hs:BT x0 y0 x1 y1) (ht:BT u0 v0 u1 v1) (ha:Ab x0 y0 x1 y1 u0 v0=0) (hb:Ab x0 y0 x1 y1 u1 v1=0)
  (hA:¬ (max x0 u0 > min x1 u1)) (hB:¬ (max (min y0 y1) (min v0 v1) > min (max y0 y1) (max v0 v1))):If (G22 x0 y0 x1 y1 u0 v0 u1 v1) (colP x0 y0 x1 y1 u0 v0 u1 v1):=by
 have i:∀ {x y:Int},At x y→Al x=true∧Al y=true:=fun h=>by
  unfold At at h
  exact ⟨BG.2 (by omega),BG.2 (by omega)⟩
 unfold G22 T22
 rw [(Bn h0 h1 k0).1,(Bn h0 h1 k1).1,ha,hb]
 simp only [if_true,Bool.false_eq_true,if_false,LJ,LK,decide_eq_false hA,decide_eq_false hB,beq_self_eq_true,AF,AJ,Qc,Xv,SX,i h0,i h1,i k0,i k1,Bool.and_self]
 clear hA hB
 unfold BT at hs ht
 repeat' first
  | (refine HC rfl ?_;omega)
  | (refine nP (And.intro rfl ?_);clear ha hb i h0 h1 k0 k1;simp only [Cz,Er,Bool.and_true,Bool.and_eq_true,Bool.and_eq_false_iff,beq_iff_eq,beq_eq_false_iff_ne,ne_eq,true_and] at *;(try unfold Ct at *);(try unfold BT at *);omega)
  | (refine gK (fun _=>?_) (fun _=>?_))
theorem Yu {x y w:Int} (hx:x.natAbs<18446744073709551616) (hy:y.natAbs<18446744073709551616) (hw:w.natAbs<18446744073709551616) (h0:w ≠ 0):∃ d,Nf d x y w∧∀ Q:F,F.agg [.int .u64 (Bo 0 x y w),.int .u64 (Bo 1 x y w),.int .u64 (Bo 2 x y w),.int .u64 (Bo 3 x y w),.int .u64 (Bo 4 x y w),.int .u64 (Bo 5 x y w),.int .u64 (Bo 6 x y w),.int .u64 (Bo 7 x y w),.int .u64 (Bo 8 x y w),.int .u64 (Bo 9 x y w),.int .u64 (Bo 10 x y w),.int .u64 (Bo 11 x y w)]=lC (x / d) (y / d) (w / d):=by
 obtain ⟨d,hd,e⟩:=WY hx hy hw h0
 refine ⟨d,hd,fun _=>?_⟩
 unfold lC at e ⊢
 simp only [Bo,e]
 rfl
theorem If.mono {X:Option F} {R S:Int→Int→Int→Prop} (h:If X R) (hr:∀ x y w,R x y w→S x y w):If X S:=by
 obtain ⟨k,P,Q,e,hl,h⟩:=h
 refine ⟨k,P,Q,e,hl,fun hk=>?_⟩
 obtain ⟨x,y,w,h1,h2⟩:=h hk
 exact ⟨x,y,w,hr x y w h1,h2⟩
theorem mU {x0 y0 x1 y1 u0 v0 u1 v1:Int} (h0:At x0 y0) (h1:At x1 y1) (k0:At u0 v0) (k1:At u1 v1) (hn:¬ (Ab x0 y0 x1 y1 u0 v0=0∧Ab x0 y0 x1 y1 u1 v1=0))
  (ho:apart (Ab x0 y0 x1 y1 u0 v0) (Ab x0 y0 x1 y1 u1 v1)∧apart (Ab u0 v0 u1 v1 x0 y0) (Ab u0 v0 u1 v1 x1 y1))
  (hA:¬ (max x0 u0 > min x1 u1)) (hB:¬ (max (min y0 y1) (min v0 v1) > min (max y0 y1) (max v0 v1))):If (G22 x0 y0 x1 y1 u0 v0 u1 v1) (offP x0 y0 x1 y1 u0 v0 u1 v1):=by
 have tt:(true==true)=true:=rfl
 have ft:(false==true)=false:=rfl
 have ff:(false==false)=true:=rfl
 obtain ⟨e0,l0,g0⟩:=Bn h0 h1 k0
 obtain ⟨e1,l1,g1⟩:=Bn h0 h1 k1
 have s0:=h0
 have s1:=h1
 have t0:=k0
 have t1:=k1
 unfold At at s0 s1 t0 t1
 have r:∀ n:Int,AD [F.int .i64 n]=AH n:=fun _=>rfl
 unfold G22 T22
 rw [e0,e1,(Bn k0 k1 h0).1,(Bn k0 k1 h1).1]
 simp only [if_true,Bool.false_eq_true,if_false,LJ,LK,decide_eq_false hA,decide_eq_false hB,ff,AF,AJ,HI,D6 ho.1,D6 ho.2]
 clear hA hB
 unfold offP
 have wx:IntKind.i64.wrap (u1-u0)=u1-u0:=Av (by omega) (by omega)
 have wy:IntKind.i64.wrap (v1-v0)=v1-v0:=Av (by omega) (by omega)
 have ho1:=ho.1
 generalize Ab x0 y0 x1 y1 u0 v0=A at *
 generalize Ab x0 y0 x1 y1 u1 v1=B at *
 have wd:IntKind.i64.wrap (A-B)=A-B:=Av (by omega) (by omega)
 have n1:∀ {w:Int},Al w=true→w.natAbs<18446744073709551616 ^ 1:=fun h=>by have:=BG.1 h;omega
 have iA:Al A=true:=BG.2 (by omega)
 have id:Al (A-B)=true:=BG.2 (by omega)
 have iu:Al u0=true:=BG.2 (by omega)
 have iv:Al v0=true:=BG.2 (by omega)
 have ix:Al (u1-u0)=true:=BG.2 (by omega)
 have iy:Al (v1-v0)=true:=BG.2 (by omega)
 have bx:(u0*(A-B)+A*(u1-u0)).natAbs<18446744073709551616 ^ 1:=by
  have e:u0*(A-B)+A*(u1-u0)=u1*A-u0*B:=by grind
  have m1:=Wq (a:=u1) (b:=A) (by omega) (by omega)
  have m2:=Wq (a:=u0) (b:=B) (by omega) (by omega)
  rw [e,Nat.pow_one]
  omega
 have by':(v0*(A-B)+A*(v1-v0)).natAbs<18446744073709551616 ^ 1:=by
  have e:v0*(A-B)+A*(v1-v0)=v1*A-v0*B:=by grind
  have m1:=Wq (a:=v1) (b:=A) (by omega) (by omega)
  have m2:=Wq (a:=v0) (b:=B) (by omega) (by omega)
  rw [e,Nat.pow_one]
  omega
 have hsp3:Ew 1 (A7 (u0*(A-B)+A*(u1-u0)) (v0*(A-B)+A*(v1-v0)) (A-B))=true:=LM bx by' (n1 id)
 simp only [wx,wy,wd,r,Rs,Bj,iA,id,iu,iv,ix,iy,A2 (n1 iA) (show 1≤400 by omega),A2 (n1 id) (show 1≤400 by omega),A2 (n1 iu) (show 1≤400 by omega),A2 (n1 iv) (show 1≤400 by omega),A2 (n1 ix) (show 1≤400 by omega),A2 (n1 iy) (show 1≤400 by omega),
  A2 (Ea (n1 iu) (n1 id)) (show 1+1≤400 by omega),A2 (Ea (n1 iv) (n1 id)) (show 1+1≤400 by omega),A2 (Ea (n1 iA) (n1 ix)) (show 1+1≤400 by omega),A2 (Ea (n1 iA) (n1 iy)) (show 1+1≤400 by omega),hsp3,Bool.and_self,AF]
 have hAB:A-B ≠ 0:=by
  unfold apart at ho1
  omega
 have b1:(u0*(A-B)+A*(u1-u0)).natAbs<18446744073709551616:=by rw [Nat.pow_one] at bx;exact bx
 have b2:(v0*(A-B)+A*(v1-v0)).natAbs<18446744073709551616:=by rw [Nat.pow_one] at by';exact by'
 have b3:(A-B).natAbs<18446744073709551616:=by have:=n1 id;rw [Nat.pow_one] at this;exact this
 obtain ⟨dd,hd,he⟩:=Yu b1 b2 b3 hAB
 have fin:∀ Q:List F,If (some (F.tup [F.int .i64 1,.agg [.int .u64 (Bo 0 (u0*(A-B)+A*(u1-u0)) (v0*(A-B)+A*(v1-v0)) (A-B)),.int .u64 (Bo 1 (u0*(A-B)+A*(u1-u0)) (v0*(A-B)+A*(v1-v0)) (A-B)),.int .u64 (Bo 2 (u0*(A-B)+A*(u1-u0)) (v0*(A-B)+A*(v1-v0)) (A-B)),.int .u64 (Bo 3 (u0*(A-B)+A*(u1-u0)) (v0*(A-B)+A*(v1-v0)) (A-B)),.int .u64 (Bo 4 (u0*(A-B)+A*(u1-u0)) (v0*(A-B)+A*(v1-v0)) (A-B)),.int .u64 (Bo 5 (u0*(A-B)+A*(u1-u0)) (v0*(A-B)+A*(v1-v0)) (A-B)),.int .u64 (Bo 6 (u0*(A-B)+A*(u1-u0)) (v0*(A-B)+A*(v1-v0)) (A-B)),.int .u64 (Bo 7 (u0*(A-B)+A*(u1-u0)) (v0*(A-B)+A*(v1-v0)) (A-B)),.int .u64 (Bo 8 (u0*(A-B)+A*(u1-u0)) (v0*(A-B)+A*(v1-v0)) (A-B)),.int .u64 (Bo 9 (u0*(A-B)+A*(u1-u0)) (v0*(A-B)+A*(v1-v0)) (A-B)),.int .u64 (Bo 10 (u0*(A-B)+A*(u1-u0)) (v0*(A-B)+A*(v1-v0)) (A-B)),.int .u64 (Bo 11 (u0*(A-B)+A*(u1-u0)) (v0*(A-B)+A*(v1-v0)) (A-B))],.agg Q])) (fun x y w=>A ≠ B∧∃ d,Nf d (u0*(A-B)+A*(u1-u0)) (v0*(A-B)+A*(v1-v0)) (A-B)∧x=(u0*(A-B)+A*(u1-u0)) / d∧y=(v0*(A-B)+A*(v1-v0)) / d∧w=(A-B) / d∧x.natAbs<18446744073709551616∧y.natAbs<18446744073709551616∧w.natAbs<18446744073709551616) :=
  fun Q=>⟨1,_,Q,rfl,rfl,fun _=>⟨_,_,_,⟨fun h=>hAB (by omega),dd,hd,rfl,rfl,rfl,HM b1,HM b2,HM b3⟩,he .dflt⟩⟩
 simp only [YS,YR,YT]
 by_cases hA:A=0
 ·have hB:¬ B=0:=fun h=>hn ⟨hA,h⟩
  rw [show (A==0)=true from beq_iff_eq.2 hA,show (B==0)=false from beq_eq_false_iff_ne.2 hB]
  simp only [tt,ff,AF,AJ]
  exact fin _
 ·rw [show (A==0)=false from beq_eq_false_iff_ne.2 hA]
  simp only [ft,ff,AF,AJ]
  exact fin _
theorem gA {x0 y0 x1 y1 u0 v0 u1 v1:Int} (h0:At x0 y0) (h1:At x1 y1) (k0:At u0 v0) (k1:At u1 v1) (hn:¬ (Ab x0 y0 x1 y1 u0 v0=0∧Ab x0 y0 x1 y1 u1 v1=0))
  (ho:¬ (apart (Ab x0 y0 x1 y1 u0 v0) (Ab x0 y0 x1 y1 u1 v1)∧apart (Ab u0 v0 u1 v1 x0 y0) (Ab u0 v0 u1 v1 x1 y1)))
  (hA:¬ (max x0 u0 > min x1 u1)) (hB:¬ (max (min y0 y1) (min v0 v1) > min (max y0 y1) (max v0 v1))) {R:Int→Int→Int→Prop}:If (G22 x0 y0 x1 y1 u0 v0 u1 v1) R:=by
 have tt:(true==true)=true:=rfl
 have ft:(false==true)=false:=rfl
 have tf:(true==false)=false:=rfl
 have ff:(false==false)=true:=rfl
 unfold G22 T22
 rw [(Bn h0 h1 k0).1,(Bn h0 h1 k1).1,(Bn k0 k1 h0).1,(Bn k0 k1 h1).1]
 simp only [if_true,Bool.false_eq_true,if_false,LJ,LK,decide_eq_false hA,decide_eq_false hB,ff,AF,AJ,HI]
 clear hA hB
 generalize Ab x0 y0 x1 y1 u0 v0=A at *
 generalize Ab x0 y0 x1 y1 u1 v1=B at *
 generalize Ab u0 v0 u1 v1 x0 y0=C at *
 generalize Ab u0 v0 u1 v1 x1 y1=D at *
 by_cases ap:apart A B
 ·have cd:¬ apart C D:=fun h=>ho ⟨ap,h⟩
  rw [D6 ap,In cd]
  by_cases hA:A=0
  ·have hB:¬ B=0:=fun h=>hn ⟨hA,h⟩
   rw [show (A==0)=true from beq_iff_eq.2 hA,show (B==0)=false from beq_eq_false_iff_ne.2 hB]
   simp only [tt,ff,AF,AJ]
   exact HC rfl (by omega)
  ·rw [show (A==0)=false from beq_eq_false_iff_ne.2 hA]
   simp only [ft,ff,AF,AJ]
   exact HC rfl (by omega)
 ·rw [In ap]
  by_cases hA:A=0
  ·exact absurd (show apart A B by unfold apart;omega) ap
  ·rw [show (A==0)=false from beq_eq_false_iff_ne.2 hA]
   simp only [ft,tf,AF,AJ]
   exact HC rfl (by omega)
theorem gB {x0 y0 x1 y1 u0 v0 u1 v1:Int} (h0:At x0 y0) (h1:At x1 y1) (k0:At u0 v0) (k1:At u1 v1) (hs:BT x0 y0 x1 y1) (ht:BT u0 v0 u1 v1):If (G22 x0 y0 x1 y1 u0 v0 u1 v1) (fun x y w=>(Ab x0 y0 x1 y1 u0 v0=0∧Ab x0 y0 x1 y1 u1 v1=0∧colP x0 y0 x1 y1 u0 v0 u1 v1 x y w) ∨ (¬ (Ab x0 y0 x1 y1 u0 v0=0∧Ab x0 y0 x1 y1 u1 v1=0)∧offP x0 y0 x1 y1 u0 v0 u1 v1 x y w)):=by
 have ff:(false==false)=true:=rfl
 have tf:(true==false)=false:=rfl
 by_cases hA:max x0 u0 > min x1 u1
 ·unfold G22 T22
  simp only [if_true,Bool.false_eq_true,if_false,LJ,LK,decide_eq_true hA,tf,AJ]
  exact HC rfl (by omega)
 ·by_cases hB:max (min y0 y1) (min v0 v1) > min (max y0 y1) (max v0 v1)
  ·unfold G22 T22
   simp only [if_true,Bool.false_eq_true,if_false,LJ,LK,decide_eq_false hA,decide_eq_true hB,ff,AF]
   exact HC rfl (by omega)
  ·by_cases hn:Ab x0 y0 x1 y1 u0 v0=0∧Ab x0 y0 x1 y1 u1 v1=0
   ·exact (gD h0 h1 k0 k1 hs ht hn.1 hn.2 hA hB).mono fun _ _ _ h=>.inl ⟨hn.1,hn.2,h⟩
   ·by_cases ho:apart (Ab x0 y0 x1 y1 u0 v0) (Ab x0 y0 x1 y1 u1 v1)∧apart (Ab u0 v0 u1 v1 x0 y0) (Ab u0 v0 u1 v1 x1 y1)
    ·exact (mU h0 h1 k0 k1 hn ho hA hB).mono fun _ _ _ h=>.inr ⟨hn,h⟩
    ·exact gA h0 h1 k0 k1 hn ho hA hB
theorem mO {x0 y0 x1 y1 u0 v0 u1 v1:Int} (hs:BW x0 y0 x1 y1=true) (ht:BW u0 v0 u1 v1=true) (hk:Cb x0 y0 x1 y1 u0 v0 u1 v1=1) :
  ∃ x y w,((Ab x0 y0 x1 y1 u0 v0=0∧Ab x0 y0 x1 y1 u1 v1=0∧colP x0 y0 x1 y1 u0 v0 u1 v1 x y w) ∨ (¬ (Ab x0 y0 x1 y1 u0 v0=0∧Ab x0 y0 x1 y1 u1 v1=0)∧offP x0 y0 x1 y1 u0 v0 u1 v1 x y w))∧BB 0 x0 y0 x1 y1 u0 v0 u1 v1=wd3 x∧BB 1 x0 y0 x1 y1 u0 v0 u1 v1=wd2 x∧BB 2 x0 y0 x1 y1 u0 v0 u1 v1=wd1 x∧BB 3 x0 y0 x1 y1 u0 v0 u1 v1=wd0 x∧BB 4 x0 y0 x1 y1 u0 v0 u1 v1=wd3 y∧BB 5 x0 y0 x1 y1 u0 v0 u1 v1=wd2 y∧BB 6 x0 y0 x1 y1 u0 v0 u1 v1=wd1 y∧BB 7 x0 y0 x1 y1 u0 v0 u1 v1=wd0 y∧BB 8 x0 y0 x1 y1 u0 v0 u1 v1=wd3 w∧BB 9 x0 y0 x1 y1 u0 v0 u1 v1=wd2 w∧BB 10 x0 y0 x1 y1 u0 v0 u1 v1=wd1 w∧BB 11 x0 y0 x1 y1 u0 v0 u1 v1=wd0 w:=by
 obtain ⟨h0,h1,h2⟩:=B9 hs
 obtain ⟨k0,k1,k2⟩:=B9 ht
 obtain ⟨k,P,Q,e,hl,h⟩:=gB h0 h1 k0 k1 h2 k2
 have hk1:k=1:=by unfold Cb at hk;rw [e] at hk;exact hk
 obtain ⟨x,y,w,hR,hP⟩:=h hk1
 refine ⟨x,y,w,hR,?_⟩
 unfold lC at hP
 injection hP with hP
 subst hP
 simp only [BB,e]
 exact ⟨rfl,rfl,rfl,rfl,rfl,rfl,rfl,rfl,rfl,rfl,rfl,rfl⟩
end
noncomputable section
/-! ### function 23 -/
def T23 {ρ:Type} (ret:VK ρ) (x0:Int) (y0:Int) (x1:Int) (y1:Int) (a0:Int) (a1:Int) (a2:Int) (a3:Int) (a4:Int) (a5:Int) (a6:Int) (a7:Int) (a8:Int) (a9:Int) (a10:Int) (a11:Int):Option ρ :=
 (AC (Al x0&&Al y0)
 (AC ((a0==wd3 x0&&(a1==wd2 x0&&(a2==wd1 x0&&(a3==wd0 x0&&true)))&&(a4==wd3 y0&&(a5==wd2 y0&&(a6==wd1 y0&&(a7==wd0 y0&&true)))&&(a8==wd3 1&&(a9==wd2 1&&(a10==wd1 1&&(a11==wd0 1&&true)))&&true)))==false)
 (AC (Al x1&&Al y1)
 (ret (a0==wd3 x1&&(a1==wd2 x1&&(a2==wd1 x1&&(a3==wd0 x1&&true)))&&(a4==wd3 y1&&(a5==wd2 y1&&(a6==wd1 y1&&(a7==wd0 y1&&true)))&&(a8==wd3 1&&(a9==wd2 1&&(a10==wd1 1&&(a11==wd0 1&&true)))&&true))))
 none)
 (ret (true)))
 none)
def G23 (x0:Int) (y0:Int) (x1:Int) (y1:Int) (a0:Int) (a1:Int) (a2:Int) (a3:Int) (a4:Int) (a5:Int) (a6:Int) (a7:Int) (a8:Int) (a9:Int) (a10:Int) (a11:Int):Option (Bool):=T23 some x0 y0 x1 y1 a0 a1 a2 a3 a4 a5 a6 a7 a8 a9 a10 a11
theorem t23 (x0:Int) (y0:Int) (x1:Int) (y1:Int) (a0:Int) (a1:Int) (a2:Int) (a3:Int) (a4:Int) (a5:Int) (a6:Int) (a7:Int) (a8:Int) (a9:Int) (a10:Int) (a11:Int) (r:Bool) (h:G23 x0 y0 x1 y1 a0 a1 a2 a3 a4 a5 a6 a7 a8 a9 a10 a11=some r):AY Tryz.prog Tryz.f23.results.toList [.code (AR Tryz.f23)] (start Tryz.f23.ntmps ([F.agg [F.int .i64 x0,F.int .i64 y0,F.int .i64 x1,F.int .i64 y1],F.agg [F.int .u64 a0,F.int .u64 a1,F.int .u64 a2,F.int .u64 a3,F.int .u64 a4,F.int .u64 a5,F.int .u64 a6,F.int .u64 a7,F.int .u64 a8,F.int .u64 a9,F.int .u64 a10,F.int .u64 a11]].map .f)) (F.bool r):=by
 refine AY.of_run Ap SS (T:=[]) (n:=200) ?_
 refine gE (Y:=T23 (fun r=>some (.ret (F.bool r))) x0 y0 x1 y1 a0 a1 a2 a3 a4 a5 a6 a7 a8 a9 a10 a11) (by kernel_rfl) ?_
 exact (gS h (fun _ h=>(gS h (fun _ h=>(gS h (fun _ h=>gR (by cases h;rfl)) gN)) (fun _ h=>gR (by cases h;rfl)))) gN)
def Pj (a0 a1 a2 a3 a4 a5 a6 a7 a8 a9 a10 a11 x y:Int):Bool:=a0==wd3 x&&(a1==wd2 x&&(a2==wd1 x&&(a3==wd0 x&&true)))&&(a4==wd3 y&&(a5==wd2 y&&(a6==wd1 y&&(a7==wd0 y&&true)))&&(a8==wd3 1&&(a9==wd2 1&&(a10==wd1 1&&(a11==wd0 1&&true)))&&true))
def OV (a0 a1 a2 a3 a4 a5 a6 a7 a8 a9 a10 a11 x0 y0 x1 y1:Int):Bool:=Pj a0 a1 a2 a3 a4 a5 a6 a7 a8 a9 a10 a11 x0 y0 || Pj a0 a1 a2 a3 a4 a5 a6 a7 a8 a9 a10 a11 x1 y1
def bT:List F→Bool | [.agg [.int .i64 x0,.int .i64 y0,.int .i64 x1,.int .i64 y1],.agg [.int .u64 a0,.int .u64 a1,.int .u64 a2,.int .u64 a3,.int .u64 a4,.int .u64 a5,.int .u64 a6,.int .u64 a7,.int .u64 a8,.int .u64 a9,.int .u64 a10,.int .u64 a11]]=>NZ x0 y0 x1 y1 | _=>false
def bE:List F→F | [.agg [.int .i64 x0,.int .i64 y0,.int .i64 x1,.int .i64 y1],.agg [.int .u64 a0,.int .u64 a1,.int .u64 a2,.int .u64 a3,.int .u64 a4,.int .u64 a5,.int .u64 a6,.int .u64 a7,.int .u64 a8,.int .u64 a9,.int .u64 a10,.int .u64 a11]]=>.bool (OV a0 a1 a2 a3 a4 a5 a6 a7 a8 a9 a10 a11 x0 y0 x1 y1) | _=>.dflt
theorem okEnds:Ai Tryz.prog 23 bT bE :=
 Bm (c:=AR Tryz.f23) Tryz.func23 (by kernel_rfl) (by kernel_rfl) fun xs hp=>match xs,hp with
 | [.agg [.int .i64 x0,.int .i64 y0,.int .i64 x1,.int .i64 y1],.agg [.int .u64 a0,.int .u64 a1,.int .u64 a2,.int .u64 a3,.int .u64 a4,.int .u64 a5,.int .u64 a6,.int .u64 a7,.int .u64 a8,.int .u64 a9,.int .u64 a10,.int .u64 a11]],hp=>by
  have hs:=Li.1 (show NZ x0 y0 x1 y1=true from hp)
  unfold At at hs
  have i:∀ {x:Int},-1000000≤x∧x≤1000000→Al x=true:=fun h=>BG.2 (by omega)
  refine t23 x0 y0 x1 y1 a0 a1 a2 a3 a4 a5 a6 a7 a8 a9 a10 a11 _ ?_
  unfold G23 T23
  rw [i ⟨hs.1.1,hs.1.2.1⟩,i hs.1.2.2,i ⟨hs.2.1,hs.2.2.1⟩,i hs.2.2.2]
  show AC true (AC (Pj a0 a1 a2 a3 a4 a5 a6 a7 a8 a9 a10 a11 x0 y0==false) (AC true (some (Pj a0 a1 a2 a3 a4 a5 a6 a7 a8 a9 a10 a11 x1 y1)) none) (some true)) none=some (OV a0 a1 a2 a3 a4 a5 a6 a7 a8 a9 a10 a11 x0 y0 x1 y1)
  unfold OV
  cases Pj a0 a1 a2 a3 a4 a5 a6 a7 a8 a9 a10 a11 x0 y0 <;> rfl
def oZ:Env:=oU.add 23 (.pure bT bE)
theorem GJ:Ax Tryz.prog oZ:=(Env.add_ok SS okEnds.sp)
end
noncomputable section
theorem Gs {z:Int} (h:z.natAbs<18446744073709551616):CY z=true:=GC.2 (by omega)
theorem YP {z t:Int} (hz:CY z=true) (ht:CY t=true):((wd3 z==wd3 t&&(wd2 z==wd2 t&&(wd1 z==wd1 t&&(wd0 z==wd0 t&&true))))=true) ↔ z=t:=by
 constructor
 ·intro h
  simp only [Bool.and_eq_true,beq_iff_eq,Bool.and_true] at h
  rw [← (aD hz).1,← (aD ht).1,h.1,h.2.1,h.2.2.1,h.2.2.2]
 ·rintro rfl
  simp
theorem MU {X Y W x y:Int} (hX:CY X=true) (hY:CY Y=true) (hW:CY W=true) (h:At x y):Pj (wd3 X) (wd2 X) (wd1 X) (wd0 X) (wd3 Y) (wd2 Y) (wd1 Y) (wd0 Y) (wd3 W) (wd2 W) (wd1 W) (wd0 W) x y=true ↔ X=x∧Y=y∧W=1:=by
 unfold At at h
 have wx:=Gs (z:=x) (by omega)
 have wy:=Gs (z:=y) (by omega)
 have w1:=Gs (z:=1) (by omega)
 unfold Pj
 constructor
 ·intro h
  obtain ⟨h1,h2⟩:=Bool.and_eq_true_iff.1 h
  obtain ⟨h2,h3⟩:=Bool.and_eq_true_iff.1 h2
  obtain ⟨h3,_⟩:=Bool.and_eq_true_iff.1 h3
  exact ⟨(YP hX wx).1 h1,(YP hY wy).1 h2,(YP hW w1).1 h3⟩
 ·rintro ⟨rfl,rfl,rfl⟩
  simp
def pT (a b c d e f g h:Int):Bool:=OV (BB 0 a b c d e f g h) (BB 1 a b c d e f g h) (BB 2 a b c d e f g h) (BB 3 a b c d e f g h) (BB 4 a b c d e f g h) (BB 5 a b c d e f g h) (BB 6 a b c d e f g h) (BB 7 a b c d e f g h) (BB 8 a b c d e f g h) (BB 9 a b c d e f g h) (BB 10 a b c d e f g h) (BB 11 a b c d e f g h) a b c d
def pS (a b c d e f g h:Int):Bool:=OV (BB 0 a b c d e f g h) (BB 1 a b c d e f g h) (BB 2 a b c d e f g h) (BB 3 a b c d e f g h) (BB 4 a b c d e f g h) (BB 5 a b c d e f g h) (BB 6 a b c d e f g h) (BB 7 a b c d e f g h) (BB 8 a b c d e f g h) (BB 9 a b c d e f g h) (BB 10 a b c d e f g h) (BB 11 a b c d e f g h) e f g h
def E8 (a b c d e f g h:Int):Bool:=(a==e&&b==f) || ((a==g&&b==h) || ((c==e&&d==f) || (c==g&&d==h)))
theorem XD {d p q w x y:Int} (hx:x=p*w) (hy:y=q*w) (h:Nf d x y w):x / d=p∧y / d=q∧w / d=1:=by
 subst hx hy
 obtain ⟨h0,h1,h2,⟨c,hc⟩,h4,h5⟩:=h
 obtain ⟨e,he⟩:=h5 w ⟨p,Int.mul_comm _ _⟩ ⟨q,Int.mul_comm _ _⟩ ⟨1,(Int.mul_one _).symm⟩
 have hw:w / d=c:=by rw [hc,Int.mul_ediv_cancel_left _ h0]
 have hce:c*e=1:=by
  have:d*(c*e)=d*1:=by rw [Int.mul_one,← Int.mul_assoc,← hc,← he]
  exact Int.eq_of_mul_eq_mul_left h0 this
 have hc1:c=1:=by
  have h1:c.natAbs*e.natAbs=1:=by rw [← Int.natAbs_mul,hce];rfl
  have:=Nat.eq_one_of_mul_eq_one_right h1
  omega
 subst hc1
 rw [Int.mul_one] at hc
 subst hc
 exact ⟨Int.mul_ediv_cancel _ h0,Int.mul_ediv_cancel _ h0,hw⟩
theorem cU {a b c d e f g h x y w:Int} (hw:BB 0 a b c d e f g h=wd3 x∧BB 1 a b c d e f g h=wd2 x∧BB 2 a b c d e f g h=wd1 x∧BB 3 a b c d e f g h=wd0 x∧BB 4 a b c d e f g h=wd3 y∧BB 5 a b c d e f g h=wd2 y∧BB 6 a b c d e f g h=wd1 y∧BB 7 a b c d e f g h=wd0 y∧BB 8 a b c d e f g h=wd3 w∧BB 9 a b c d e f g h=wd2 w∧BB 10 a b c d e f g h=wd1 w∧BB 11 a b c d e f g h=wd0 w)
  (hx:CY x=true) (hy:CY y=true) (hw1:CY w=true) (h0:At a b) (h1:At c d) (k0:At e f) (k1:At g h) :
  (pT a b c d e f g h=true ↔ (x=a∧y=b∧w=1) ∨ (x=c∧y=d∧w=1))∧(pS a b c d e f g h=true ↔ (x=e∧y=f∧w=1) ∨ (x=g∧y=h∧w=1)):=by
 obtain ⟨e0,e1,e2,e3,e4,e5,e6,e7,e8,e9,e10,e11⟩:=hw
 unfold pT pS OV
 rw [e0,e1,e2,e3,e4,e5,e6,e7,e8,e9,e10,e11,Bool.or_eq_true,Bool.or_eq_true,MU hx hy hw1 h0,MU hx hy hw1 h1,MU hx hy hw1 k0,MU hx hy hw1 k1]
 exact ⟨Iff.rfl,Iff.rfl⟩
theorem Zl (a b c d:Int):Ab a b c d a b=0∧Ab a b c d c d=0:=by
 unfold Ab
 constructor <;> grind
theorem Zg {a b c d e f g h:Int} (hs:BW a b c d=true) (ht:BW e f g h=true) (hk:Cb a b c d e f g h=1):(pT a b c d e f g h&&pS a b c d e f g h)=E8 a b c d e f g h:=by
 obtain ⟨h0,h1,h2⟩:=B9 hs
 obtain ⟨k0,k1,k2⟩:=B9 ht
 obtain ⟨x,y,w,hR,hw⟩:=mO hs ht hk
 apply Bool.eq_iff_iff.2
 have hsh:E8 a b c d e f g h=true ↔ (a=e∧b=f) ∨ (a=g∧b=h) ∨ (c=e∧d=f) ∨ (c=g∧d=h):=by
  simp only [E8,Bool.or_eq_true,Bool.and_eq_true,beq_iff_eq]
 rw [hsh,Bool.and_eq_true]
 have s0:=h0
 have s1:=h1
 have t0:=k0
 have t1:=k1
 unfold At at s0 s1 t0 t1
 rcases hR with ⟨_,_,hw1,hc⟩ | ⟨hn,hAB,dd,hd,hx,hy,hww,b1,b2,b3⟩
 ·obtain ⟨e1,e2⟩:=cU hw (Gs (by omega)) (Gs (by omega)) (Gs (by omega)) h0 h1 k0 k1
  rw [e1,e2]
  clear hw e1 e2 hsh
  subst hw1
  rcases hc with ⟨rfl,rfl,rfl,rfl⟩ | ⟨rfl,rfl,rfl,rfl⟩
  ·exact ⟨fun _=>.inr (.inl ⟨rfl,rfl⟩),fun _=>⟨.inl ⟨rfl,rfl,rfl⟩,.inr ⟨rfl,rfl,rfl⟩⟩⟩
  ·exact ⟨fun _=>.inr (.inr (.inl ⟨rfl,rfl⟩)),fun _=>⟨.inr ⟨rfl,rfl,rfl⟩,.inl ⟨rfl,rfl,rfl⟩⟩⟩
 ·obtain ⟨e1,e2⟩:=cU hw (Gs b1) (Gs b2) (Gs b3) h0 h1 k0 k1
  rw [e1,e2]
  clear hw e1 e2 hsh
  constructor
  ·clear hd hx hy hww hAB hn b1 b2 b3 s0 s1 t0 t1
   omega
  ·intro hsh
      -- an end of the second one that lies on the first one's line is the point
   have pA:Ab a b c d e f=0→x=e∧y=f∧w=1:=fun hA=>by
    have:=XD (p:=e) (q:=f) (by rw [hA];grind) (by rw [hA];grind) hd
    rw [hx,hy,hww];exact this
   have pB:Ab a b c d g h=0→x=g∧y=h∧w=1:=fun hB=>by
    have:=XD (p:=g) (q:=h) (by rw [hB];grind) (by rw [hB];grind) hd
    rw [hx,hy,hww];exact this
   obtain ⟨c1,c2⟩:=Zl a b c d
   clear hd hx hy hww hAB hn b1 b2 b3 s0 s1 t0 t1
   rcases hsh with ⟨rfl,rfl⟩ | ⟨rfl,rfl⟩ | ⟨rfl,rfl⟩ | ⟨rfl,rfl⟩
   ·have:=pA c1;omega
   ·have:=pB c1;omega
   ·have:=pA c2;omega
   ·have:=pB c2;omega
end
noncomputable section
set_option maxHeartbeats 1000000
/-! ### function 8 -/
def S8_4 (l:List Sg) (n:Int) (i:Int):St:=⟨(U.f (BL l)) :: Ag 12 ((U.f (BL l)) :: (U.f (F.int .i64 n)) :: (U.f (F.int .i64 i)) :: Ag 39 []),[]⟩
def S8_7 (l:List Sg) (n:Int) (i:Int) (a:Int) (b:Int) (c:Int) (d:Int) (w:Nat) (u:Int) (j:Int):St:=⟨(U.f (BL l)) :: Ag 3 ((U.hp 0 0) :: Ag 8 ((U.f (BL l)) :: (U.f (F.int .i64 n)) :: (U.f (F.int .i64 i)) :: Ag 6 ((U.f (F.sl w fun o=>F.agg [F.int .i64 (l.getD (0+o) Sg.zero).x0,F.int .i64 (l.getD (0+o) Sg.zero).y0,F.int .i64 (l.getD (0+o) Sg.zero).x1,F.int .i64 (l.getD (0+o) Sg.zero).y1])) :: (U.f (F.int .i64 u)) :: (U.f (F.int .i64 j)) :: Ag 30 []))),[HO.box [(U.f (F.int .i64 a)),(U.f (F.int .i64 b)),(U.f (F.int .i64 c)),(U.f (F.int .i64 d))]]⟩
abbrev KJ83 (ρ:Type):=(List Sg)→(Int)→(Int)→(Int)→(Int)→(Int)→(Int)→(Nat)→(Int)→(Int)→Option ρ
abbrev iW (ρ:Type):=(List Sg)→(Int)→(Int)→Option ρ
def T8_4 {ρ:Type} (ret:VK ρ) (c4:iW ρ) (c7:KJ83 ρ) (l:List Sg) (n:Int) (i:Int):Option ρ :=
 (AC (decide (i<n))
 (AC (decide (0≤i))
 (AC (decide (i<(↑l.length:Int)))
 (AC (decide (0≤i))
 (AC (decide (i≤(↑l.length:Int)))
 (c7 (l) (n) (i) ((l.getD i.toNat Sg.zero).x0) ((l.getD i.toNat Sg.zero).y0) ((l.getD i.toNat Sg.zero).x1) ((l.getD i.toNat Sg.zero).y1) (i.toNat-0) ((↑(i.toNat-Int.toNat 0):Int)) (0))
 none)
 none)
 none)
 none)
 (ret (true)))
def T8_7 {ρ:Type} (ret:VK ρ) (c4:iW ρ) (c7:KJ83 ρ) (l:List Sg) (n:Int) (i:Int) (a:Int) (b:Int) (c:Int) (d:Int) (w:Nat) (u:Int) (j:Int):Option ρ :=
 (AC (decide (j<u))
 (AC (decide (0≤j))
 (AC (decide (j<(↑w:Int)))
 (AC (BW a b c d&&BW (l.getD (0+j.toNat) Sg.zero).x0 (l.getD (0+j.toNat) Sg.zero).y0 (l.getD (0+j.toNat) Sg.zero).x1 (l.getD (0+j.toNat) Sg.zero).y1)
 (AC ((Cb a b c d (l.getD (0+j.toNat) Sg.zero).x0 (l.getD (0+j.toNat) Sg.zero).y0 (l.getD (0+j.toNat) Sg.zero).x1 (l.getD (0+j.toNat) Sg.zero).y1==2)==false)
 (AC ((Cb a b c d (l.getD (0+j.toNat) Sg.zero).x0 (l.getD (0+j.toNat) Sg.zero).y0 (l.getD (0+j.toNat) Sg.zero).x1 (l.getD (0+j.toNat) Sg.zero).y1==1)==true)
 (AC (NZ a b c d)
 (AC ((!OV (BB 0 a b c d (l.getD (0+j.toNat) Sg.zero).x0 (l.getD (0+j.toNat) Sg.zero).y0 (l.getD (0+j.toNat) Sg.zero).x1 (l.getD (0+j.toNat) Sg.zero).y1) (BB 1 a b c d (l.getD (0+j.toNat) Sg.zero).x0 (l.getD (0+j.toNat) Sg.zero).y0 (l.getD (0+j.toNat) Sg.zero).x1 (l.getD (0+j.toNat) Sg.zero).y1) (BB 2 a b c d (l.getD (0+j.toNat) Sg.zero).x0 (l.getD (0+j.toNat) Sg.zero).y0 (l.getD (0+j.toNat) Sg.zero).x1 (l.getD (0+j.toNat) Sg.zero).y1) (BB 3 a b c d (l.getD (0+j.toNat) Sg.zero).x0 (l.getD (0+j.toNat) Sg.zero).y0 (l.getD (0+j.toNat) Sg.zero).x1 (l.getD (0+j.toNat) Sg.zero).y1) (BB 4 a b c d (l.getD (0+j.toNat) Sg.zero).x0 (l.getD (0+j.toNat) Sg.zero).y0 (l.getD (0+j.toNat) Sg.zero).x1 (l.getD (0+j.toNat) Sg.zero).y1) (BB 5 a b c d (l.getD (0+j.toNat) Sg.zero).x0 (l.getD (0+j.toNat) Sg.zero).y0 (l.getD (0+j.toNat) Sg.zero).x1 (l.getD (0+j.toNat) Sg.zero).y1) (BB 6 a b c d (l.getD (0+j.toNat) Sg.zero).x0 (l.getD (0+j.toNat) Sg.zero).y0 (l.getD (0+j.toNat) Sg.zero).x1 (l.getD (0+j.toNat) Sg.zero).y1) (BB 7 a b c d (l.getD (0+j.toNat) Sg.zero).x0 (l.getD (0+j.toNat) Sg.zero).y0 (l.getD (0+j.toNat) Sg.zero).x1 (l.getD (0+j.toNat) Sg.zero).y1) (BB 8 a b c d (l.getD (0+j.toNat) Sg.zero).x0 (l.getD (0+j.toNat) Sg.zero).y0 (l.getD (0+j.toNat) Sg.zero).x1 (l.getD (0+j.toNat) Sg.zero).y1) (BB 9 a b c d (l.getD (0+j.toNat) Sg.zero).x0 (l.getD (0+j.toNat) Sg.zero).y0 (l.getD (0+j.toNat) Sg.zero).x1 (l.getD (0+j.toNat) Sg.zero).y1) (BB 10 a b c d (l.getD (0+j.toNat) Sg.zero).x0 (l.getD (0+j.toNat) Sg.zero).y0 (l.getD (0+j.toNat) Sg.zero).x1 (l.getD (0+j.toNat) Sg.zero).y1) (BB 11 a b c d (l.getD (0+j.toNat) Sg.zero).x0 (l.getD (0+j.toNat) Sg.zero).y0 (l.getD (0+j.toNat) Sg.zero).x1 (l.getD (0+j.toNat) Sg.zero).y1) a b c d)==false)
 (AC (NZ (l.getD (0+j.toNat) Sg.zero).x0 (l.getD (0+j.toNat) Sg.zero).y0 (l.getD (0+j.toNat) Sg.zero).x1 (l.getD (0+j.toNat) Sg.zero).y1)
 (AC (!OV (BB 0 a b c d (l.getD (0+j.toNat) Sg.zero).x0 (l.getD (0+j.toNat) Sg.zero).y0 (l.getD (0+j.toNat) Sg.zero).x1 (l.getD (0+j.toNat) Sg.zero).y1) (BB 1 a b c d (l.getD (0+j.toNat) Sg.zero).x0 (l.getD (0+j.toNat) Sg.zero).y0 (l.getD (0+j.toNat) Sg.zero).x1 (l.getD (0+j.toNat) Sg.zero).y1) (BB 2 a b c d (l.getD (0+j.toNat) Sg.zero).x0 (l.getD (0+j.toNat) Sg.zero).y0 (l.getD (0+j.toNat) Sg.zero).x1 (l.getD (0+j.toNat) Sg.zero).y1) (BB 3 a b c d (l.getD (0+j.toNat) Sg.zero).x0 (l.getD (0+j.toNat) Sg.zero).y0 (l.getD (0+j.toNat) Sg.zero).x1 (l.getD (0+j.toNat) Sg.zero).y1) (BB 4 a b c d (l.getD (0+j.toNat) Sg.zero).x0 (l.getD (0+j.toNat) Sg.zero).y0 (l.getD (0+j.toNat) Sg.zero).x1 (l.getD (0+j.toNat) Sg.zero).y1) (BB 5 a b c d (l.getD (0+j.toNat) Sg.zero).x0 (l.getD (0+j.toNat) Sg.zero).y0 (l.getD (0+j.toNat) Sg.zero).x1 (l.getD (0+j.toNat) Sg.zero).y1) (BB 6 a b c d (l.getD (0+j.toNat) Sg.zero).x0 (l.getD (0+j.toNat) Sg.zero).y0 (l.getD (0+j.toNat) Sg.zero).x1 (l.getD (0+j.toNat) Sg.zero).y1) (BB 7 a b c d (l.getD (0+j.toNat) Sg.zero).x0 (l.getD (0+j.toNat) Sg.zero).y0 (l.getD (0+j.toNat) Sg.zero).x1 (l.getD (0+j.toNat) Sg.zero).y1) (BB 8 a b c d (l.getD (0+j.toNat) Sg.zero).x0 (l.getD (0+j.toNat) Sg.zero).y0 (l.getD (0+j.toNat) Sg.zero).x1 (l.getD (0+j.toNat) Sg.zero).y1) (BB 9 a b c d (l.getD (0+j.toNat) Sg.zero).x0 (l.getD (0+j.toNat) Sg.zero).y0 (l.getD (0+j.toNat) Sg.zero).x1 (l.getD (0+j.toNat) Sg.zero).y1) (BB 10 a b c d (l.getD (0+j.toNat) Sg.zero).x0 (l.getD (0+j.toNat) Sg.zero).y0 (l.getD (0+j.toNat) Sg.zero).x1 (l.getD (0+j.toNat) Sg.zero).y1) (BB 11 a b c d (l.getD (0+j.toNat) Sg.zero).x0 (l.getD (0+j.toNat) Sg.zero).y0 (l.getD (0+j.toNat) Sg.zero).x1 (l.getD (0+j.toNat) Sg.zero).y1) (l.getD (0+j.toNat) Sg.zero).x0 (l.getD (0+j.toNat) Sg.zero).y0 (l.getD (0+j.toNat) Sg.zero).x1 (l.getD (0+j.toNat) Sg.zero).y1)
 (ret (false))
 (c7 (l) (n) (i) (a) (b) (c) (d) (w) (u) (IntKind.i64.wrap (j+1))))
 none)
 (ret (false)))
 none)
 (c7 (l) (n) (i) (a) (b) (c) (d) (w) (u) (IntKind.i64.wrap (j+1))))
 (ret (false)))
 none)
 none)
 none)
 (c4 (l) (n) (IntKind.i64.wrap (i+1))))
mutual
def YG:Nat→(List Sg)→(Int)→(Int)→Option (Bool)
 | 0,_,_,_=>none
 | k+1,l,n,i=>T8_4 some (YG k) (aA k) l n i
def aA:Nat→(List Sg)→(Int)→(Int)→(Int)→(Int)→(Int)→(Int)→(Nat)→(Int)→(Int)→Option (Bool)
 | 0,_,_,_,_,_,_,_,_,_,_=>none
 | k+1,l,n,i,a,b,c,d,w,u,j=>T8_7 some (YG k) (aA k) l n i a b c d w u j
end
def T8 {ρ:Type} (ret:VK ρ) (c4:iW ρ) (c7:KJ83 ρ) (l:List Sg):Option ρ :=
 (AC (Cr (BL l))
 (AC (!EL (B6 (BL l)))
 (ret (false))
 (c4 (l) ((↑l.length:Int)) (0)))
 none)
def G8 (k:Nat) (l:List Sg):Option (Bool):=T8 some (YG k) (aA k) l
mutual
theorem t8_4:∀ (k:Nat) (l:List Sg) (n:Int) (i:Int) (r:Bool),YG k l n i=some r→AY Tryz.prog Tryz.f8.results.toList (at_ Tryz.f8 4) (S8_4 l n i) (F.bool r)
 | 0,_,_,_,_,h=>nomatch h
 | k+1,l,n,i,r,h=>by
  refine AY.of_cut Ap GJ (T:=[(4,[0,13,14,15],1000),(7,[0,4,13,14,15,22,23,24],1000)]) (n:=200) ?_
  refine gE (Y:=T8_4 (fun r=>some (.ret (F.bool r))) (fun l n i=>some (.cut (at_ Tryz.f8 4) (S8_4 l n i))) (fun l n i a b c d w u j=>some (.cut (at_ Tryz.f8 7) (S8_7 l n i a b c d w u j))) l n i) (by kernel_rfl) ?_
  exact (gS h (fun _ h=>(gS h (fun _ h=>(gS h (fun _ h=>(gS h (fun _ h=>(gS h (fun _ h=>gC (t8_7 k _ _ _ _ _ _ _ _ _ _ r h)) gN)) gN)) gN)) gN)) (fun _ h=>gR (by cases h;rfl)))
theorem t8_7:∀ (k:Nat) (l:List Sg) (n:Int) (i:Int) (a:Int) (b:Int) (c:Int) (d:Int) (w:Nat) (u:Int) (j:Int) (r:Bool),aA k l n i a b c d w u j=some r→AY Tryz.prog Tryz.f8.results.toList (at_ Tryz.f8 7) (S8_7 l n i a b c d w u j) (F.bool r)
 | 0,_,_,_,_,_,_,_,_,_,_,_,h=>nomatch h
 | k+1,l,n,i,a,b,c,d,w,u,j,r,h=>by
  refine AY.of_cut Ap GJ (T:=[(4,[0,13,14,15],1000),(7,[0,4,13,14,15,22,23,24],1000)]) (n:=200) ?_
  refine gE (Y:=T8_7 (fun r=>some (.ret (F.bool r))) (fun l n i=>some (.cut (at_ Tryz.f8 4) (S8_4 l n i))) (fun l n i a b c d w u j=>some (.cut (at_ Tryz.f8 7) (S8_7 l n i a b c d w u j))) l n i a b c d w u j) (by kernel_rfl) ?_
  exact (gS h (fun _ h=>(gS h (fun _ h=>(gS h (fun _ h=>(gS h (fun _ h=>(gS h (fun _ h=>(gS h (fun _ h=>(gS h (fun _ h=>(gS h (fun _ h=>(gS h (fun _ h=>(gS h (fun _ h=>gR (by cases h;rfl)) (fun _ h=>gC (t8_7 k _ _ _ _ _ _ _ _ _ _ r h)))) gN)) (fun _ h=>gR (by cases h;rfl)))) gN)) (fun _ h=>gC (t8_7 k _ _ _ _ _ _ _ _ _ _ r h)))) (fun _ h=>gR (by cases h;rfl)))) gN)) gN)) gN)) (fun _ h=>gC (t8_4 k _ _ _ r h)))
end
theorem t8 (k:Nat) (l:List Sg) (r:Bool) (h:G8 k l=some r):AY Tryz.prog Tryz.f8.results.toList [.code (AR Tryz.f8)] (start Tryz.f8.ntmps ([BL l].map .f)) (F.bool r):=by
 refine AY.of_run Ap GJ (T:=[(4,[0,13,14,15],1000),(7,[0,4,13,14,15,22,23,24],1000)]) (n:=200) ?_
 refine gE (Y:=T8 (fun r=>some (.ret (F.bool r))) (fun l n i=>some (.cut (at_ Tryz.f8 4) (S8_4 l n i))) (fun l n i a b c d w u j=>some (.cut (at_ Tryz.f8 7) (S8_7 l n i a b c d w u j))) l) (by kernel_rfl) ?_
 exact (gS h (fun _ h=>(gS h (fun _ h=>gR (by cases h;rfl)) (fun _ h=>gC (t8_4 k _ _ _ r h)))) gN)
/-! ### function 9 -/
def S9_4 (l:List Sg) (i:Int):St:=⟨(U.f (BL l)) :: Ag 2 ((U.f (F.int .i64 i)) :: Ag 75 []),[]⟩
def S9_7 (l:List Sg) (i:Int) (j:Int):St:=⟨(U.f (BL l)) :: Ag 2 ((U.f (F.int .i64 i)) :: (U.f (F.int .i64 j)) :: Ag 74 []),[]⟩
def T9_4 {ρ:Type} (ret:VK ρ) (c4:(List Sg)→(Int)→Option ρ) (c7:iW ρ) (l:List Sg) (i:Int):Option ρ :=
 (AC (decide (i<(↑l.length:Int)))
 (c7 (l) (i) (0))
 (ret (true)))
def T9_7 {ρ:Type} (ret:VK ρ) (c4:(List Sg)→(Int)→Option ρ) (c7:iW ρ) (l:List Sg) (i:Int) (j:Int):Option ρ :=
 (AC (decide (j<i))
 (AC (decide (0≤i))
 (AC (decide (i<(↑l.length:Int)))
 (AC (decide (0≤j))
 (AC (decide (j<(↑l.length:Int)))
 (AC (BW (l.getD i.toNat Sg.zero).x0 (l.getD i.toNat Sg.zero).y0 (l.getD i.toNat Sg.zero).x1 (l.getD i.toNat Sg.zero).y1&&BW (l.getD j.toNat Sg.zero).x0 (l.getD j.toNat Sg.zero).y0 (l.getD j.toNat Sg.zero).x1 (l.getD j.toNat Sg.zero).y1)
 (AC (decide (0≤i))
 (AC (decide (i<(↑l.length:Int)))
 (AC (decide (0≤j))
 (AC (decide (j<(↑l.length:Int)))
 (AC ((CX (l.getD i.toNat Sg.zero).x0 (l.getD i.toNat Sg.zero).y0 (l.getD i.toNat Sg.zero).x1 (l.getD i.toNat Sg.zero).y1 (l.getD j.toNat Sg.zero).x0 (l.getD j.toNat Sg.zero).y0 (l.getD j.toNat Sg.zero).x1 (l.getD j.toNat Sg.zero).y1==2)==false)
 (AC ((CX (l.getD i.toNat Sg.zero).x0 (l.getD i.toNat Sg.zero).y0 (l.getD i.toNat Sg.zero).x1 (l.getD i.toNat Sg.zero).y1 (l.getD j.toNat Sg.zero).x0 (l.getD j.toNat Sg.zero).y0 (l.getD j.toNat Sg.zero).x1 (l.getD j.toNat Sg.zero).y1==1)==true)
 (AC ((!((l.getD i.toNat Sg.zero).x0==(l.getD j.toNat Sg.zero).x0&&((l.getD i.toNat Sg.zero).y0==(l.getD j.toNat Sg.zero).y0&&true)))==true)
 (AC ((!((l.getD i.toNat Sg.zero).x0==(l.getD j.toNat Sg.zero).x1&&((l.getD i.toNat Sg.zero).y0==(l.getD j.toNat Sg.zero).y1&&true)))==true)
 (AC ((!((l.getD i.toNat Sg.zero).x1==(l.getD j.toNat Sg.zero).x0&&((l.getD i.toNat Sg.zero).y1==(l.getD j.toNat Sg.zero).y0&&true)))==true)
 (AC (!((l.getD i.toNat Sg.zero).x1==(l.getD j.toNat Sg.zero).x1&&((l.getD i.toNat Sg.zero).y1==(l.getD j.toNat Sg.zero).y1&&true)))
 (ret (false))
 (c7 (l) (i) (IntKind.i64.wrap (j+1))))
 (c7 (l) (i) (IntKind.i64.wrap (j+1))))
 (c7 (l) (i) (IntKind.i64.wrap (j+1))))
 (c7 (l) (i) (IntKind.i64.wrap (j+1))))
 (c7 (l) (i) (IntKind.i64.wrap (j+1))))
 (ret (false)))
 none)
 none)
 none)
 none)
 none)
 none)
 none)
 none)
 none)
 (c4 (l) (IntKind.i64.wrap (i+1))))
mutual
def YE:Nat→(List Sg)→(Int)→Option (Bool)
 | 0,_,_=>none
 | k+1,l,i=>T9_4 some (YE k) (Z9 k) l i
def Z9:Nat→(List Sg)→(Int)→(Int)→Option (Bool)
 | 0,_,_,_=>none
 | k+1,l,i,j=>T9_7 some (YE k) (Z9 k) l i j
end
def T9 {ρ:Type} (ret:VK ρ) (c4:(List Sg)→(Int)→Option ρ) (c7:iW ρ) (l:List Sg):Option ρ :=
 (AC (Cr (BL l))
 (AC (!EL (B6 (BL l)))
 (ret (false))
 (c4 (l) (0)))
 none)
def G9 (k:Nat) (l:List Sg):Option (Bool):=T9 some (YE k) (Z9 k) l
mutual
theorem t9_4:∀ (k:Nat) (l:List Sg) (i:Int) (r:Bool),YE k l i=some r→AY Tryz.prog Tryz.f9.results.toList (at_ Tryz.f9 4) (S9_4 l i) (F.bool r)
 | 0,_,_,_,h=>nomatch h
 | k+1,l,i,r,h=>by
  refine AY.of_cut Ap GJ (T:=[(4,[0,3],1000),(7,[0,3,4],1000)]) (n:=200) ?_
  refine gE (Y:=T9_4 (fun r=>some (.ret (F.bool r))) (fun l i=>some (.cut (at_ Tryz.f9 4) (S9_4 l i))) (fun l i j=>some (.cut (at_ Tryz.f9 7) (S9_7 l i j))) l i) (by kernel_rfl) ?_
  exact (gS h (fun _ h=>gC (eY k _ _ _ r h)) (fun _ h=>gR (by cases h;rfl)))
theorem eY:∀ (k:Nat) (l:List Sg) (i:Int) (j:Int) (r:Bool),Z9 k l i j=some r→AY Tryz.prog Tryz.f9.results.toList (at_ Tryz.f9 7) (S9_7 l i j) (F.bool r)
 | 0,_,_,_,_,h=>nomatch h
 | k+1,l,i,j,r,h=>by
  refine AY.of_cut Ap GJ (T:=[(4,[0,3],1000),(7,[0,3,4],1000)]) (n:=200) ?_
  refine gE (Y:=T9_7 (fun r=>some (.ret (F.bool r))) (fun l i=>some (.cut (at_ Tryz.f9 4) (S9_4 l i))) (fun l i j=>some (.cut (at_ Tryz.f9 7) (S9_7 l i j))) l i j) (by kernel_rfl) ?_
  exact (gS h (fun _ h=>(gS h (fun _ h=>(gS h (fun _ h=>(gS h (fun _ h=>(gS h (fun _ h=>(gS h (fun _ h=>(gS h (fun _ h=>(gS h (fun _ h=>(gS h (fun _ h=>(gS h (fun _ h=>(gS h (fun _ h=>(gS h (fun _ h=>(gS h (fun _ h=>(gS h (fun _ h=>(gS h (fun _ h=>(gS h (fun _ h=>gR (by cases h;rfl)) (fun _ h=>gC (eY k _ _ _ r h)))) (fun _ h=>gC (eY k _ _ _ r h)))) (fun _ h=>gC (eY k _ _ _ r h)))) (fun _ h=>gC (eY k _ _ _ r h)))) (fun _ h=>gC (eY k _ _ _ r h)))) (fun _ h=>gR (by cases h;rfl)))) gN)) gN)) gN)) gN)) gN)) gN)) gN)) gN)) gN)) (fun _ h=>gC (t9_4 k _ _ r h)))
end
theorem t9 (k:Nat) (l:List Sg) (r:Bool) (h:G9 k l=some r):AY Tryz.prog Tryz.f9.results.toList [.code (AR Tryz.f9)] (start Tryz.f9.ntmps ([BL l].map .f)) (F.bool r):=by
 refine AY.of_run Ap GJ (T:=[(4,[0,3],1000),(7,[0,3,4],1000)]) (n:=200) ?_
 refine gE (Y:=T9 (fun r=>some (.ret (F.bool r))) (fun l i=>some (.cut (at_ Tryz.f9 4) (S9_4 l i))) (fun l i j=>some (.cut (at_ Tryz.f9 7) (S9_7 l i j))) l) (by kernel_rfl) ?_
 exact (gS h (fun _ h=>(gS h (fun _ h=>gR (by cases h;rfl)) (fun _ h=>gC (t9_4 k _ _ r h)))) gN)
def Hm (s t:Sg):Bool:=CX s.x0 s.y0 s.x1 s.y1 t.x0 t.y0 t.x1 t.y1==2 || (CX s.x0 s.y0 s.x1 s.y1 t.x0 t.y0 t.x1 t.y1==1 && !E8 s.x0 s.y0 s.x1 s.y1 t.x0 t.y0 t.x1 t.y1)
def rowV (l:List Sg) (i:Nat):Bool:=CK (fun j=>!Hm (l.getD i .zero) (l.getD j .zero)) 0 i
def H3 (l:List Sg):Bool:=EL l&&CK (rowV l) 0 l.length
theorem Ru {l:List Sg} (hl:l.length≤40) (hso:∀ s ∈ l,NH s=true) {i:Nat} (hi:i<l.length) {R:Bool} {K:Nat}
  (hout:∀ k,K≤k→YG k l l.length ((i+1:Nat):Int)=some R):∀ (d j k:Nat),j+d=i→d+1+K≤k →
  aA k l l.length i (l.getD i .zero).x0 (l.getD i .zero).y0 (l.getD i .zero).x1 (l.getD i .zero).y1 i i j=some (CK (fun j=>!Hm (l.getD i .zero) (l.getD j .zero)) j d&&R)
 | d,j,0,_,hk=>by omega
 | 0,j,k+1,hj,hk=>by
  rw [aA]
  unfold T8_7
  rw [decide_eq_false (show ¬ (j:Int)<i by omega),AJ,Av (by omega) (by omega),show (i:Int)+1=((i+1:Nat):Int) by omega,hout k (by omega)]
  rfl
 | d+1,j,k+1,hj,hk=>by
  have ih:=Ru hl hso hi hout d (j+1) k (by omega) (by omega)
  have hoi:=hso _ (Gy (d:=Sg.zero) hi)
  have hoj:=hso _ (Gy (d:=Sg.zero) (show j<l.length by omega))
  have ii:=aM hoi
  have ij:=aM hoj
  unfold NH at hoi hoj
  have wj:IntKind.i64.wrap ((j:Int)+1)=((j+1:Nat):Int):=by rw [Av (by omega) (by omega)];omega
  have c1:decide ((j:Int)<(i:Int))=true:=decide_eq_true (by omega)
  have c2:decide ((0:Int)≤j)=true:=decide_eq_true (by omega)
  have ke:=cH hoi hoj
  have se:=fun h=>Zg hoi hoj h
  rw [aA]
  unfold T8_7
  rw [Ck]
  simp only [c1,c2,wj,Int.toNat_natCast,Nat.zero_add,Bool.and_true,AF,hoi,hoj,Bool.and_self,Li.2 ⟨ii.1,ii.2⟩,Li.2 ⟨ij.1,ij.2⟩]
  unfold Hm at ih ⊢
  rw [ke] at se ⊢
  generalize CX (l.getD i .zero).x0 (l.getD i .zero).y0 (l.getD i .zero).x1 (l.getD i .zero).y1 (l.getD j .zero).x0 (l.getD j .zero).y0 (l.getD j .zero).x1 (l.getD j .zero).y1=q at se ⊢
  cases h2:(q==2) with
  | true=>rfl
  | false =>
   cases h1:(q==1) with
   | false =>
    rw [show (false==false)=true from rfl,show (false==true)=false from rfl,AF,AJ,ih]
    rfl
   | true =>
    have se:=se (beq_iff_eq.1 h1)
    rw [show (false==false)=true from rfl,show (true==true)=true from rfl,AF,AF]
    change AC ((!pT (l.getD i .zero).x0 (l.getD i .zero).y0 (l.getD i .zero).x1 (l.getD i .zero).y1 (l.getD j .zero).x0 (l.getD j .zero).y0 (l.getD j .zero).x1 (l.getD j .zero).y1)==false) (AC (!pS (l.getD i .zero).x0 (l.getD i .zero).y0 (l.getD i .zero).x1 (l.getD i .zero).y1 (l.getD j .zero).x0 (l.getD j .zero).y0 (l.getD j .zero).x1 (l.getD j .zero).y1) _ _) _=_
    rw [← se]
    cases pT (l.getD i .zero).x0 (l.getD i .zero).y0 (l.getD i .zero).x1 (l.getD i .zero).y1 (l.getD j .zero).x0 (l.getD j .zero).y0 (l.getD j .zero).x1 (l.getD j .zero).y1 with
    | false=>rfl
    | true =>
     cases pS (l.getD i .zero).x0 (l.getD i .zero).y0 (l.getD i .zero).x1 (l.getD i .zero).y1 (l.getD j .zero).x0 (l.getD j .zero).y0 (l.getD j .zero).x1 (l.getD j .zero).y1 with
     | false=>rfl
     | true =>
      rw [show ((!true)==false)=true from rfl,AF,show (!true)=false from rfl,AJ,ih]
      rfl
theorem Pd {l:List Sg} (hl:l.length≤40) (hso:∀ s ∈ l,NH s=true):∀ (d i k:Nat),i+d=l.length→43*d+1≤k →
  YG k l l.length i=some (CK (rowV l) i d)
 | d,i,0,_,hk=>by omega
 | 0,i,k+1,hi,hk=>by
  rw [YG]
  unfold T8_4
  rw [decide_eq_false (show ¬ (i:Int)<l.length by omega)]
  rfl
 | d+1,i,k+1,hi,hk=>by
  have ih:=Ru hl hso (i:=i) (by omega) (K:=43*d+1) (fun k hk=>Pd hl hso d (i+1) k (by omega) hk) i 0 k (by omega) (by omega)
  rw [YG]
  unfold T8_4
  rw [decide_eq_true (show (i:Int)<l.length by omega),decide_eq_true (show (0:Int)≤i by omega),decide_eq_true (show (i:Int)≤l.length by omega),Ck]
  simp only [AF,Int.toNat_natCast,Nat.sub_zero,show Int.toNat 0=0 from rfl]
  exact ih
theorem Yp (l:List Sg):G8 2000 l=some (H3 l):=by
 unfold G8 T8 H3
 rw [C2,Dt,AF]
 cases h1:EL l with
 | false=>rfl
 | true =>
  obtain ⟨k1,k2⟩:=LX.1 h1
  exact Pd k1 k2 l.length 0 2000 (by omega) (by omega)
theorem Rv {l:List Sg} (hl:l.length≤40) (hso:∀ s ∈ l,NH s=true) {i:Nat} (hi:i<l.length) {R:Bool} {K:Nat}
  (hout:∀ k,K≤k→YE k l ((i+1:Nat):Int)=some R):∀ (d j k:Nat),j+d=i→d+1+K≤k →
  Z9 k l i j=some (CK (fun j=>!Hm (l.getD i .zero) (l.getD j .zero)) j d&&R)
 | d,j,0,_,hk=>by omega
 | 0,j,k+1,hj,hk=>by
  rw [Z9]
  unfold T9_7
  rw [decide_eq_false (show ¬ (j:Int)<i by omega),AJ,Av (by omega) (by omega),show (i:Int)+1=((i+1:Nat):Int) by omega,hout k (by omega)]
  rfl
 | d+1,j,k+1,hj,hk=>by
  have ih:=Rv hl hso hi hout d (j+1) k (by omega) (by omega)
  have hoi:=hso _ (Gy (d:=Sg.zero) hi)
  have hoj:=hso _ (Gy (d:=Sg.zero) (show j<l.length by omega))
  unfold NH at hoi hoj
  have wj:IntKind.i64.wrap ((j:Int)+1)=((j+1:Nat):Int):=by rw [Av (by omega) (by omega)];omega
  have c1:decide ((j:Int)<(i:Int))=true:=decide_eq_true (by omega)
  have c2:decide ((0:Int)≤j)=true:=decide_eq_true (by omega)
  have c3:decide ((0:Int)≤i)=true:=decide_eq_true (by omega)
  have c4:decide ((i:Int)<(l.length:Int))=true:=decide_eq_true (by omega)
  have c5:decide ((j:Int)<(l.length:Int))=true:=decide_eq_true (by omega)
  rw [Z9]
  unfold T9_7
  rw [Ck]
  simp only [c1,c2,c3,c4,c5,wj,Int.toNat_natCast,Bool.and_true,AF,hoi,hoj,Bool.and_self]
  unfold Hm at ih ⊢
  rw [ih]
  generalize CX (l.getD i .zero).x0 (l.getD i .zero).y0 (l.getD i .zero).x1 (l.getD i .zero).y1 (l.getD j .zero).x0 (l.getD j .zero).y0 (l.getD j .zero).x1 (l.getD j .zero).y1=q
  unfold E8
  cases (q==2) <;> cases (q==1) <;> cases ((l.getD i .zero).x0==(l.getD j .zero).x0&&(l.getD i .zero).y0==(l.getD j .zero).y0) <;> cases ((l.getD i .zero).x0==(l.getD j .zero).x1&&(l.getD i .zero).y0==(l.getD j .zero).y1) <;> cases ((l.getD i .zero).x1==(l.getD j .zero).x0&&(l.getD i .zero).y1==(l.getD j .zero).y0) <;> cases ((l.getD i .zero).x1==(l.getD j .zero).x1&&(l.getD i .zero).y1==(l.getD j .zero).y1) <;> rfl
theorem Pe {l:List Sg} (hl:l.length≤40) (hso:∀ s ∈ l,NH s=true):∀ (d i k:Nat),i+d=l.length→43*d+1≤k →
  YE k l i=some (CK (rowV l) i d)
 | d,i,0,_,hk=>by omega
 | 0,i,k+1,hi,hk=>by
  rw [YE]
  unfold T9_4
  rw [decide_eq_false (show ¬ (i:Int)<l.length by omega)]
  rfl
 | d+1,i,k+1,hi,hk=>by
  have ih:=Rv hl hso (i:=i) (by omega) (K:=43*d+1) (fun k hk=>Pe hl hso d (i+1) k (by omega) hk) i 0 k (by omega) (by omega)
  rw [YE]
  unfold T9_4
  rw [decide_eq_true (show (i:Int)<l.length by omega),Ck]
  simp only [AF]
  exact ih
theorem Yq (l:List Sg):G9 2000 l=some (H3 l):=by
 unfold G9 T9 H3
 rw [C2,Dt,AF]
 cases h1:EL l with
 | false=>rfl
 | true =>
  obtain ⟨k1,k2⟩:=LX.1 h1
  exact Pe k1 k2 l.length 0 2000 (by omega) (by omega)
def MO:List F→F | [x]=>.bool (H3 (B6 x)) | _=>.dflt
theorem lV:Ai Tryz.prog 8 EO MO :=
 Ae (c:=AR Tryz.f8) Tryz.func8 (by kernel_rfl) (by kernel_rfl) fun xs hp=>match xs,hp with
 | [x],hp=>⟨[BL (B6 x)],_,⟨(Ek hp).1,trivial⟩,t8 _ _ _ (Yp _),.refl _⟩
theorem lW:Ai Tryz.prog 9 EO MO :=
 Ae (c:=AR Tryz.f9) Tryz.func9 (by kernel_rfl) (by kernel_rfl) fun xs hp=>match xs,hp with
 | [x],hp=>⟨[BL (B6 x)],_,⟨(Ek hp).1,trivial⟩,t9 _ _ _ (Yq _),.refl _⟩
def envI2:Env:=(oZ.add 8 (.pure EO MO)).add 9 (.pure EO MO)
theorem QU:Ax Tryz.prog envI2:=(Env.add_ok (Env.add_ok GJ lV.sp) lW.sp)
end
noncomputable section
/-! ### function 93 -/
def rD (l:List Int) (n:Int) (i:Int):St:=⟨Ag 3 ((U.f (F.int .i64 0)) :: Ag 2 ((U.f (W4 l)) :: (U.f (F.int .i64 n)) :: (U.f (F.int .i64 i)) :: Ag 9 [])),[]⟩
def dD {ρ:Type} (ret:(Int)→Option ρ) (c3:(List Int)→(Int)→(Int)→Option ρ) (l:List Int) (n:Int) (i:Int):Option ρ :=
 (AC (decide (i<n))
 (AC (decide (0≤i))
 (AC (decide (i<(↑l.length:Int)))
 (AC (l.getD i.toNat 0 != 0)
 (ret (l.getD i.toNat 0))
 (c3 (l) (n) (IntKind.i64.wrap (i+1))))
 none)
 none)
 (ret (0)))
def So:Nat→(List Int)→(Int)→(Int)→Option (Int)
 | 0,_,_,_=>none
 | k+1,l,n,i=>dD some (So k) l n i
def T93 {ρ:Type} (ret:(Int)→Option ρ) (c3:(List Int)→(Int)→(Int)→Option ρ) (l:List Int):Option ρ :=
 (c3 (l) ((↑l.length:Int)) (0))
def G93 (k:Nat) (l:List Int):Option (Int):=T93 some (So k) l
theorem t93_3:∀ (k:Nat) (l:List Int) (n:Int) (i:Int) (r:Int),So k l n i=some r→AY Tryz.prog Tryz.f93.results.toList (at_ Tryz.f93 3) (rD l n i) (F.int .i64 r)
 | 0,_,_,_,_,h=>nomatch h
 | k+1,l,n,i,r,h=>by
  refine AY.of_cut Ap QU (T:=[(3,[3,6,7,8],1000)]) (n:=200) ?_
  refine gE (Y:=dD (fun r=>some (.ret (F.int .i64 r))) (fun l n i=>some (.cut (at_ Tryz.f93 3) (rD l n i))) l n i) (by kernel_rfl) ?_
  exact (gS h (fun _ h=>(gS h (fun _ h=>(gS h (fun _ h=>(gS h (fun _ h=>gR (by cases h;rfl)) (fun _ h=>gC (t93_3 k _ _ _ r h)))) gN)) gN)) (fun _ h=>gR (by cases h;rfl)))
theorem t93 (k:Nat) (l:List Int) (r:Int) (h:G93 k l=some r):AY Tryz.prog Tryz.f93.results.toList [.code (AR Tryz.f93)] (start Tryz.f93.ntmps ([W4 l].map .f)) (F.int .i64 r):=by
 refine AY.of_run Ap QU (T:=[(3,[3,6,7,8],1000)]) (n:=200) ?_
 refine gE (Y:=T93 (fun r=>some (.ret (F.int .i64 r))) (fun l n i=>some (.cut (at_ Tryz.f93 3) (rD l n i))) l) (by kernel_rfl) ?_
 exact gC (t93_3 k _ _ _ r h)
def isIi:F→Bool | .int .i64 _=>true | _=>false
def unIi:F→Int | .int .i64 n=>n | _=>0
theorem ii_eq {x:F} (h:isIi x=true):x=i64F (unIi x):=by
 unfold isIi at h
 split at h
 ·rfl
 ·cases h
def isIs (x:F):Bool:=Ci isIi x
def YY (x:F):List Int:=D8 unIi x
theorem is_eqv {x:F} (hx:isIs x=true):FLe x (W4 (YY x))∧FLe (W4 (YY x)) x:=MH (fun _ h=>(ii_eq h).symm) hx
def orV:List Int→Int
 | []=>0
 | x :: l=>bif x != 0 then x else orV l
theorem cA {l:List Int} (hl:l.length≤1000):∀ (d i:Nat),i+d=l.length→So (d+1) l l.length i=some (orV (l.drop i))
 | 0,i,h=>by
  rw [So]
  unfold dD
  rw [decide_eq_false (show ¬ (i:Int)<l.length by omega),List.drop_eq_nil_of_le (by omega)]
  rfl
 | d+1,i,h=>by
  have hlt:i<l.length:=by omega
  rw [So]
  unfold dD
  rw [decide_eq_true (show (i:Int)<l.length by omega),decide_eq_true (show (0:Int)≤i by omega),Int.toNat_natCast,Av (by omega) (by omega),show (i:Int)+1=((i+1:Nat):Int) by omega,cA hl d (i+1) (by omega),List.drop_eq_getElem_cons hlt,show l.getD i 0=l[i] by simp [List.getD,List.getElem?_eq_getElem hlt],orV]
  simp only [AF]
  cases l[i] != 0 <;> rfl
def lE:List F→Bool | [x]=>isIs x&&decide ((YY x).length≤1000) | _=>false
def resOr:List F→F | [x]=>.int .i64 (orV (YY x)) | _=>.dflt
theorem okOr:Ai Tryz.prog 93 lE resOr :=
 Ae (c:=AR Tryz.f93) Tryz.func93 (by kernel_rfl) (by kernel_rfl) fun xs hp=>match xs,hp with
 | [x],hp=>by
  simp only [lE,Bool.and_eq_true,decide_eq_true_eq] at hp
  exact ⟨[W4 (YY x)],_,⟨(is_eqv hp.1).1,trivial⟩,t93 ((YY x).length+1) _ _ (cA hp.2 _ 0 (by omega)),.refl _⟩
def oY:Env:=envI2.add 93 (.pure lE resOr)
theorem ST:Ax Tryz.prog oY:=(Env.add_ok QU okOr.sp)
end
section
variable {P:Program} {w:World} {Z:Nat→Prop} {m:Nat→Nat} {H:List HO} {d:Bool}
/-! Pure functions. -/
/-! An answer with data beside a slice of the caller's own. -/
theorem fJ {w':World} {Z':Nat→Prop} {m2:Nat→Nat} {fs:List F} {vs:List Value} {slot:Option Nat} (hlen:fs.length=vs.length)
  (hrep:∀ (j:Nat) (e:F) (v:Value),fs[j]?=some e→vs[j]?=some v→RepU w' Z' m2 (DJ H slot (Cx (DB fs))) (RA (IW H slot) e) v)
  (h2:Ext w Z m H w' Z' m2 (DJ H slot (Cx (DB fs)))∧HOK w' Z' m2 (DJ H slot (Cx (DB fs)))) :
  Ext w Z m H w' Z' m2 (Bv H slot (.tup fs)).2∧HOK w' Z' m2 (Bv H slot (.tup fs)).2∧RepU w' Z' m2 (Bv H slot (.tup fs)).2 (Bv H slot (.tup fs)).1 (if h:vs.toArray.size=1 then vs.toArray[0] else .tuple vs.toArray):=by
 match fs,vs,hlen,hrep,h2 with
 | [e],[v],_,hrep,h2=>exact ⟨h2.1,h2.2,hrep 0 e v rfl rfl⟩
 | [],[],_,hrep,h2=>exact ⟨h2.1,h2.2,.tup [] [] rfl fun j u v hu=>by simp at hu⟩
 | e1 :: e2 :: fs,v1 :: v2 :: vs,hfl,hrep,h2 =>
  refine ⟨h2.1,h2.2,?_⟩
  have:RepU w' Z' m2 (DJ H slot (Cx (DB (e1 :: e2 :: fs)))) (.tup ((e1 :: e2 :: fs).map (RA (IW H slot)))) (.tuple (v1 :: v2 :: vs).toArray):=.tup _ _ (by simpa using hfl) fun j u v hu hv=>by
   rw [List.getElem?_map] at hu
   cases he:(e1 :: e2 :: fs)[j]? with
   | none=>rw [he] at hu;cases hu
   | some e=>rw [he] at hu;cases hu;exact hrep j e v he hv
  simpa [Bv] using this
 | [_],[],hl,_,_=>simp at hl
 | [_],_ :: _ :: _,hl,_,_=>simp at hl
 | [],_ :: _,hl,_,_=>simp at hl
 | _ :: _ :: _,[],hl,_,_=>simp at hl
 | _ :: _ :: _,[_],hl,_,_=>simp at hl
theorem FLe.cl {n:Nat} {g g':Nat→F} (h:∀ j,j<n→g j=g' j):FLe (.cl n g) (.cl n g'):=fun _ _ _ hv=>by
 cases hv with | cl _ _ _ hv h0=>exact .cl _ _ _ (FLe.sl h _ _ _ hv) h0
end
def TF (res:List F→List F→List F × List F):List U→List HO→U × List HO
 | .hp o 0 :: us,H=>match H[o]? with
  | some (.box cu)=>match Bb [] cu,Bb [] us with
   | some cs,some xs=>Bv (H.set o (BE (res cs xs).2)) none (.tup (res cs xs).1)
   | _,_=>(.bad,H)
  | _=>(.bad,H)
 | _,H=>(.bad,H)
abbrev Ys (pre:List F→List F→Bool) (res:List F→List F→List F × List F):Sp:=.shared (NN pre) (TF res)
section
variable {P:Program} {w:World} {Z:Nat→Prop} {m:Nat→Nat} {H:List HO}
theorem Zp {f : FuncId} {fn : Func} {c : Code} (hf : P.funcs[f]? = some fn) (hb : fn.body = some c) (hname : (fn.name == "runtime.NumGoroutine") = false) {us : List U} {es : List F} {os : List F}
  (h:CL P H.length (.tmp 1000003 :: fn.results.toList) [.code c] (CU fn.ntmps us H) (.tup (.tup es :: os))) (h0:Nat.beq H.length 0=false) {args:Array Value} (hH:HOK w Z m H) (hL:CP w Z m H us args.toList) :
  Dg P f args w fun v w'=>∃ (st':St) (Z':Nat→Prop) (m':Nat→Nat) (us':List U) (vs:List Value),Po true st'.heap us'=some es∧(As us').length≤1∧Pq (st'.heap.take H.length)=some os ∧
   HOK w' Z' m' st'.heap∧Ext w Z m H w' Z' m' st'.heap∧CP w' Z' m' st'.heap us' vs∧v=(if h:vs.toArray.size=1 then vs.toArray[0] else .tuple vs.toArray):=by
 refine .inl ⟨by
  have hp:(program).run P w=.ok P w:=rfl
  unfold callFunc
  simp only [Sem.run_bind,hp,Result.andThen,hf,hname,hb,Option.isNone_some,Bool.false_eq_true,if_false,Sem.run_pure],fun cs=>?_⟩
 have hlen:us.length=args.size:=by simpa using hL.1
 have hA:AOK w Z m (CU fn.ntmps us H) { tmps:=args++Array.replicate (fn.ntmps-args.size) undef,defers:=[] }:=by
  refine ⟨by simp [CU,hlen],fun i u v hu hv=>?_,hH⟩
  simp only [CU] at hu
  rw [List.getElem?_append] at hu
  rw [Array.getElem?_append] at hv
  split at hu
  ·rename_i hi
   rw [if_pos (by omega)] at hv
   exact hL.2 i u v hu (by simpa using hv)
  ·rename_i hi
   rw [if_neg (by omega)] at hv
   rw [List.getElem?_replicate] at hu
   rw [Array.getElem?_replicate] at hv
   split at hu
   ·split at hv
    ·cases hu;cases hv;exact .undef
    ·cases hv
   ·cases hu
 let b:Frame:={ (default:Frame) with fn:=f,kind:=.normal }
 have henter:Frame.enter P f args .normal=b.at { tmps:=args++Array.replicate (fn.ntmps-args.size) undef,defers:=[] } [.code c]:=by
  simp [Frame.enter,Frame.at,hf,hb,b]
 obtain ⟨st',a',w',todo,hk,⟨hd,Z',m',hA',hE'⟩,hs⟩:=h w Z m H [] _ w Z m rfl hA rfl (Ext.refl _ _ _ _) b cs
 unfold Q5 at hk
 rw [if_neg (by rw [h0,Bool.and_false];exact Bool.false_ne_true),if_pos (by rfl)] at hk
 simp only [List.tail_cons,TB] at hk
 split at hk
 case h_2=>cases hk
 rename_i us' hus
 split at hk
 case isFalse=>cases hk
 rename_i hl1
 split at hk
 case h_2=>cases hk
 rename_i es' os' hes' hos'
 simp only [Option.some.injEq,F.tup.injEq,List.cons.injEq] at hk
 obtain ⟨rfl,rfl⟩:=hk
 obtain ⟨vs,hvs,hR⟩:=IL (P:=P) hA' _ _ hus
 have hres:(results fn a'.tmps).run P w'=.ok (if h:vs.toArray.size=1 then vs.toArray[0] else .tuple vs.toArray) w':=by
  unfold results
  rw [← Array.toArray_toList (xs:=fn.results),List.mapM_toArray]
  simp only [Sem.run_bind,Sem.run_map]
  refine (congrArg (fun q=>Result.andThen (Result.andThen q fun x w=>Result.ok x.toArray w) fun vs w=>(pure (if h:vs.size=1 then vs[0] else .tuple vs):Sem Value).run P w) hvs).trans ?_
  simp [Result.andThen]
 refine ⟨.returned _,w',{ b.at a' todo with mode:=.returning },⟨st',Z',m',us',vs,hes',of_decide_eq_true hl1,hos',hA'.hok,hE',hR,rfl⟩,?_,rfl,rfl,hd,rfl,fn,hf,hres⟩
 rw [henter];exact hs
theorem WR {w':World} {Z':Nat→Prop} {m':Nat→Nat} {Hc:List HO} {o b1:Nat} {cu us0:List U} {ds os cs2:List F} {L:List HO} (hH:HOK w Z m H) (ho:H[o]?=some (.box cu)) (hdl:ds.length=cu.length)
  (hc0:Hc[0]?=some (.box us0)) (hos:Bb [] us0=some os) (hle:Ee os cs2) (q3:HOK w' Z' m' Hc) (q4:Ext w Z (fun _=>m o) [BE ds] w' Z' m' Hc)
  (hL:L=[] ∨ ∃ sz n g,L=[.arr sz n g]∧w.heap.size≤b1∧¬ Z' b1∧∀ m3 G,Hg w' Z' m3 G (.arr sz n g) b1) {m2:Nat→Nat} (hmn:m2 H.length=b1) (hmk:∀ k,k<H.length→m2 k=m k) :
  Ext w Z m H w' Z' m2 (H.set o (BE cs2)++L)∧HOK w' Z' m2 (H.set o (BE cs2)++L):=by
 have hlo:Aw H o:=⟨_,ho,rfl⟩
 have hlt:o<H.length:=(List.getElem?_eq_some_iff.1 ho).1
 obtain ⟨hul,hm0⟩:us0.length=ds.length∧m' 0=m o:=by
  have:=q4.evol 0 (BE ds) _ rfl hc0
  simp only [BE,Bu,List.length_map] at this
  exact this
 have hlive1:∀ k,Aw [BE ds] k→k=0:=fun k ⟨ob,hk,_⟩=>by
  have:=(List.getElem?_eq_some_iff.1 hk).1
  simp at this;exact this
 have hz0:¬ Z' (m o):=by
  have:=q3.apart 0 ⟨_,hc0,rfl⟩
  rwa [hm0] at this
 have hold:∀ b,b<w.heap.size→b ≠ m o→w'.heap[b]?=w.heap[b]?:=fun b hb hne=>q4.rest b hb fun k hk e=>hne e.symm
 have hback:∀ b,Z' b→Z b ∨ w.heap.size≤b:=fun b hb=>by
  rcases q4.back b hb with h | h | ⟨k,hk,e⟩
  ·exact .inl h
  ·exact .inr h
  ·rw [← e] at hb;exact absurd hb hz0
 have hap:∀ k,Aw H k→¬ Z' (m k):=fun k hk hz=>by
  rcases hback _ hz with h | h
  ·exact hH.apart k hk h
  ·have:=hH.blk_lt hk;omega
 have hkeep:∀ k,Aw H k→k ≠ o→w'.heap[m k]?=w.heap[m k]?:=fun k hk hne=>hold _ (hH.blk_lt hk) fun e=>hne (hH.inj k o hk hlo e)
 have hget:∀ k,k<H.length→(H.set o (BE cs2)++L)[k]?=(H.set o (BE cs2))[k]?:=fun k hk=>List.getElem?_append_left (by simpa using hk)
 have hgetL:∀ k ob,¬ k<H.length→(H.set o (BE cs2)++L)[k]?=some ob→k=H.length∧∃ sz n g,ob=.arr sz n g∧w.heap.size≤b1∧¬ Z' b1∧∀ m3 G,Hg w' Z' m3 G (.arr sz n g) b1:=fun k ob hk h=>by
  rw [List.getElem?_append_right (by simp;omega),List.length_set] at h
  rcases hL with rfl | ⟨sz,n,g,rfl,h1,h2,h3⟩
  ·simp at h
  ·have hk0:k-H.length=0:=by
    have:=(List.getElem?_eq_some_iff.1 h).1
    simp at this;omega
   rw [hk0] at h
   simp at h
   exact ⟨by omega,sz,n,g,h.symm,h1,h2,h3⟩
 have hsplit:∀ k,Aw (H.set o (BE cs2)++L) k→(k<H.length∧Aw H k) ∨ (k=H.length∧w.heap.size≤b1∧¬ Z' b1):=by
  rintro k ⟨ob,hk,hl⟩
  by_cases hkl:k<H.length
  ·rw [hget k hkl] at hk
   by_cases hko:o=k
   ·subst hko;exact .inl ⟨hkl,hlo⟩
   ·rw [List.getElem?_set_ne hko] at hk;exact .inl ⟨hkl,ob,hk,hl⟩
  ·obtain ⟨h1,sz,n,g,_,h2,h3,_⟩:=hgetL k ob hkl hk
   exact .inr ⟨h1,h2,h3⟩
 have hEE:Ext w Z m H w' Z' m2 (H.set o (BE cs2)++L):=by
  refine ⟨q4.os,q4.tape,q4.output,q4.size,q4.sub,fun b hb=>(hback b hb).elim .inl fun h=>.inr (.inl h),fun b hb=>q4.kept b hb,fun b hb hn=>hold b hb fun e=>hn o hlo e.symm,by simp,fun k ob ob' hk hk'=>?_,fun k hk=>?_,q4.drawn⟩
  ·have hkl:=(List.getElem?_eq_some_iff.1 hk).1
   rw [hget k hkl] at hk'
   rw [hmk k hkl]
   by_cases hko:o=k
   ·subst hko
    rw [List.getElem?_set_self hlt] at hk'
    rw [ho] at hk
    cases hk;cases hk'
    have h1:=(Bf us0 os hos).1
    have h2:=hle.get.1
    exact ⟨by rw [List.length_map];omega,rfl⟩
   ·rw [List.getElem?_set_ne hko,hk] at hk'
    cases hk'
    cases ob with
    | arr sz n g=>exact ⟨rfl,Nat.le_refl _,fun _=>⟨rfl,by simp only [Az,hkeep k ⟨_,hk,rfl⟩ (fun e=>hko e.symm)]⟩⟩
    | _=>simp [Bu]
  ·rcases hsplit k hk with ⟨h1,h2⟩ | ⟨h1,h2,_⟩
   ·exact .inl ⟨h2,hmk k h1⟩
   ·right;subst h1;rw [hmn];exact h2
 refine ⟨hEE,q3.zlt,fun k hk hz=>?_,fun k k' hk hk' e=>?_,fun k ob hk=>?_⟩
 ·rcases hsplit k hk with ⟨h1,h2⟩ | ⟨h1,_,h3⟩
  ·rw [hmk k h1] at hz;exact hap k h2 hz
  ·subst h1;rw [hmn] at hz;exact h3 hz
 ·rcases hsplit k hk with ⟨h1,h2⟩ | ⟨h1,h2,_⟩ <;> rcases hsplit k' hk' with ⟨g1,g2⟩ | ⟨g1,g2,_⟩
  ·rw [hmk k h1,hmk k' g1] at e;exact hH.inj k k' h2 g2 e
  ·rw [hmk k h1] at e;subst g1;rw [hmn] at e;have:=hH.blk_lt h2;omega
  ·rw [hmk k' g1] at e;subst h1;rw [hmn] at e;have:=hH.blk_lt g2;omega
  ·rw [h1,g1]
 ·by_cases hkl:k<H.length
  ·rw [hget k hkl] at hk
   rw [hmk k hkl]
   by_cases hko:o=k
   ·subst hko
    rw [List.getElem?_set_self hlt] at hk
    cases hk
    obtain ⟨c,el,fr,r1,r2,r3,r4⟩:=q3.ob 0 _ hc0
    rw [hm0] at r1 r2
    obtain ⟨h1,g1⟩:=Bf us0 os hos
    obtain ⟨h2,g2⟩:=hle.get
    refine ⟨c,el,fr,r1,r2,by rw [List.length_map];omega,fun j u hu=>?_⟩
    rw [List.getElem?_map] at hu
    cases hy:cs2[j]? with
    | none=>rw [hy] at hu;cases hu
    | some y =>
     rw [hy] at hu;cases hu
     obtain ⟨x,hx,hxy⟩:=g2 j y hy
     have hj:=(List.getElem?_eq_some_iff.1 hx).1
     have huj:us0[j]?=some us0[j]:=List.getElem?_eq_getElem (by omega)
     obtain ⟨v,hv,hr⟩:=r4 j _ huj
     exact ⟨v,hv,.f _ _ (hxy _ _ _ (Cf q3 hr (g1 j _ x huj hx)))⟩
   ·rw [List.getElem?_set_ne hko] at hk
    by_cases hd:ob.live=true
    ·exact (hH.ob k ob hk).mono hEE (hkeep k ⟨_,hk,hd⟩ (fun e=>hko e.symm))
    ·cases ob with
     | dead=>trivial
     | free=>trivial
     | _=>exact absurd rfl hd
  ·obtain ⟨h1,sz,n,g,rfl,_,_,h4⟩:=hgetL k ob hkl hk
   subst h1
   rw [hmn]
   exact h4 _ _
theorem lA {w':World} {Z':Nat→Prop} {m':Nat→Nat} {Hc:List HO} {o:Nat} {cu us0 us:List U} {ds os cs2 es fs:List F} {vs:List Value} (hH:HOK w Z m H) (ho:H[o]?=some (.box cu)) (hdl:ds.length=cu.length)
  (hc0:Hc[0]?=some (.box us0)) (hos:Bb [] us0=some os) (hle:Ee os cs2) (q1:Po true Hc us=some es) (q2:(As us).length≤1) (q3:HOK w' Z' m' Hc) (q4:Ext w Z (fun _=>m o) [BE ds] w' Z' m' Hc)
  (q5:CP w' Z' m' Hc us vs) (hes:Sn es fs) :
  ∃ m2,Ext w Z m H w' Z' m2 (DJ (H.set o (BE cs2)) none (Cx (DB fs)))∧HOK w' Z' m2 (DJ (H.set o (BE cs2)) none (Cx (DB fs))) ∧
   ∀ (j:Nat) (e:F) (v:Value),fs[j]?=some e→vs[j]?=some v→RepU w' Z' m2 (DJ (H.set o (BE cs2)) none (Cx (DB fs))) (RA (IW (H.set o (BE cs2)) none) e) v:=by
 obtain ⟨hflat,hol,hog⟩:=IU us es q1
 obtain ⟨hfl,hfg⟩:=IT hes
 have each:∀ (j:Nat) (e:F),fs[j]?=some e→∃ u a,us[j]?=some u∧E0 true Hc u.cells=some a∧RJ (mkF (Cd u) a) e:=fun j e he=>by
  have hj:=(List.getElem?_eq_some_iff.1 he).1
  have huj:us[j]?=some us[j]:=List.getElem?_eq_getElem (by omega)
  obtain ⟨a,h1,h2⟩:=hog j _ huj
  obtain ⟨e1,h3,h4⟩:=hfg j _ h2
  rw [he] at h3;cases h3
  exact ⟨_,a,huj,h1,h4⟩
 rcases Pn (OS us) (DB es) (DB fs) (Nat.le_trans (I3 us) q2) hflat (Ld hes) with ⟨h0,hno⟩ | ⟨o1,sz,n,g,g',ho1,hsc,hgg,hob,hone⟩
 ·rw [h0]
  obtain ⟨e1,e2⟩:=WR (L:=[]) (b1:=0) hH ho hdl hc0 hos hle q3 q4 (.inl rfl) (m2:=fun k=>if k=H.length then 0 else m k) (by simp) (fun k hk=>if_neg (by omega))
  rw [List.append_nil] at e1 e2
  have eN:DJ (H.set o (BE cs2)) none []=H.set o (BE cs2):=rfl
  rw [eN]
  refine ⟨_,e1,e2,fun j e v he hv=>?_⟩
  obtain ⟨u,e0,h1,h2,h3⟩:=each j e he
  exact MY (q5.2 j u v h1 hv) h2 h3 (fun _ _ _ hr=>hr) fun x hx o gen off len e=>absurd e (hno x (K2 (List.mem_of_getElem? h1) hx) o gen off len)
 ·rw [hob]
  have hlo1:Aw Hc o1:=⟨_,ho1,rfl⟩
  have hfresh:w.heap.size≤m' o1:=by
   rcases q4.new o1 hlo1 with ⟨⟨ob,hk,_⟩,_⟩ | h
   ·have:=(List.getElem?_eq_some_iff.1 hk).1
    simp at this
    subst this
    rw [hc0] at ho1;cases ho1
   ·exact h
  have hOb:∀ m3 G,Hg w' Z' m3 G (.arr sz n g') (m' o1):=fun m3 G=>by
   obtain ⟨r0,c1,el,fr,r1,r2,r3,r4,r5⟩:=q3.ob o1 _ ho1
   exact ⟨r0,c1,el,fr,r1,r2,r3,fun i hi=>by rw [← hgg i hi];exact r4 i hi,fun i j u hi hu=>r5 i j u hi (by rw [hgg i hi];exact hu)⟩
  obtain ⟨e1,e2⟩:=WR (L:=[.arr sz n g']) (b1:=m' o1) hH ho hdl hc0 hos hle q3 q4 (.inr ⟨sz,n,g',rfl,hfresh,q3.apart o1 hlo1,hOb⟩) (m2:=fun k=>if k=H.length then m' o1 else m k) (by simp) (fun k hk=>if_neg (by omega))
  have eN:DJ (H.set o (BE cs2)) none [.arr sz n g']=H.set o (BE cs2)++[.arr sz n g']:=rfl
  have eA:IW (H.set o (BE cs2)) none=H.length:=by
   show (H.set o (BE cs2)).length=H.length
   exact List.length_set
  rw [eN,eA]
  refine ⟨_,e1,e2,fun j e v he hv=>?_⟩
  obtain ⟨u,e0,h1,h2,h3⟩:=each j e he
  refine MY (q5.2 j u v h1 hv) h2 h3 (fun _ _ _ hr=>hr) fun x hx o2 gen off len e=>?_
  obtain ⟨rfl,rfl,rfl,rfl⟩:=hone x (K2 (List.mem_of_getElem? h1) hx) o2 gen off len e
  refine ⟨sz,g',rfl,rfl,?_,by simp,g,ho1⟩
  rw [List.getElem?_append_right (by simp),List.length_set,Nat.sub_self]
  rfl
theorem fn_ptro {f : FuncId} {fn : Func} {c : Code} (hf : P.funcs[f]? = some fn) (hb : fn.body = some c) (hname : (fn.name == "runtime.NumGoroutine") = false) {pre : List F → List F → Bool} {res : List F → List F → List F × List F}
  (h:∀ cs xs,pre cs xs=true→∃ ds ys es os,Ee cs ds∧Ee xs ys∧CL P 1 (.tmp 1000003 :: fn.results.toList) [.code c] (CU fn.ntmps (.hp 0 0 :: ys.map .f) [.box (ds.map .f)]) (.tup [.tup es,.agg os])∧Sn es (res cs xs).1∧Ee os (res cs xs).2):EJ P f (Ys pre res):=by
 intro us H hp w Z m args hH hL
 unfold NN at hp
 split at hp
 ·rename_i o us'
  split at hp
  ·rename_i cu ho
   split at hp
   ·rename_i cs xs hcs hxs
    have hres:TF res (.hp o 0 :: us') H=Bv (H.set o (BE (res cs xs).2)) none (.tup (res cs xs).1):=by simp only [TF,ho,hcs,hxs]
    rw [hres]
    obtain ⟨ds,ys,es,os,h1,h2,h3,h4,h5⟩:=h cs xs hp
    obtain ⟨hl1,hg1⟩:=Bf cu cs hcs
    obtain ⟨hl2,hg2⟩:=Bf us' xs hxs
    have hlo:Aw H o:=⟨_,ho,rfl⟩
    have hobk:=hH.ob o _ ho
    have hHsub:HOK w Z (fun _=>m o) [BE cs]:=by
     refine ⟨hH.zlt,fun _ _=>hH.apart o hlo,fun a b ha hb _=>?_,fun k ob hk=>?_⟩
     ·obtain ⟨_,ha,_⟩:=ha
      obtain ⟨_,hb,_⟩:=hb
      have:=(List.getElem?_eq_some_iff.1 ha).1
      have:=(List.getElem?_eq_some_iff.1 hb).1
      simp at *
      omega
     ·have hk0:=(List.getElem?_eq_some_iff.1 hk).1
      obtain rfl:k=0:=by simp at hk0;exact hk0
      simp at hk;subst hk
      obtain ⟨c,el,fr,q1,q2,q3,q4⟩:=hobk
      refine ⟨c,el,fr,q1,q2,by rw [List.length_map,← hl1];exact q3,fun j u hu=>?_⟩
      rw [List.getElem?_map] at hu
      cases hxj:cs[j]? with
      | none=>rw [hxj] at hu;cases hu
      | some y =>
       rw [hxj] at hu;cases hu
       have hj:=(List.getElem?_eq_some_iff.1 hxj).1
       have huj:cu[j]?=some cu[j]:=List.getElem?_eq_getElem (by omega)
       obtain ⟨v,hv,hr⟩:=q4 j _ huj
       exact ⟨v,hv,.f _ _ (Cf hH hr (hg1 j _ y huj hxj))⟩
    obtain ⟨hy1,hy2⟩:=h2.get
    have hLsub:CP w Z (fun _=>m o) [BE ds] (.hp 0 0 :: ys.map .f) args.toList:=by
     refine ⟨by rw [← hL.1];simp [hl2,hy1],fun j u v hu hv=>?_⟩
     cases j with
     | zero =>
      simp at hu;subst hu
      have:=hL.2 0 _ v rfl hv
      cases this with
      | hp _ _ _ h1 hk hvv=>exact .hp 0 0 v h1 ⟨_,rfl,by simp [BE]⟩ fun cs' _=>hvv _ ho
     | succ j =>
      simp only [List.getElem?_cons_succ,List.getElem?_map] at hu
      cases hyj:ys[j]? with
      | none=>rw [hyj] at hu;cases hu
      | some y =>
       rw [hyj] at hu;cases hu
       obtain ⟨x,hx,hxy⟩:=hy2 j y hyj
       have hj:=(List.getElem?_eq_some_iff.1 hx).1
       have huj:us'[j]?=some us'[j]:=List.getElem?_eq_getElem (by omega)
       exact .f _ _ (hxy _ _ _ (Cf hH (hL.2 (j+1) _ v (by rw [List.getElem?_cons_succ];exact huj) hv) (hg2 j _ x huj hx)))
    refine (Zp (H:=[BE ds]) hf hb hname (os:=[.agg os]) h3 rfl (hHsub.box_le h1) hLsub).mono fun v w' ⟨st',Z',m',us2,vs,q1,q2,qo,q3,q4,q5,q6⟩=>?_
    have hlen1:1≤st'.heap.length:=by have:=q4.len;simpa using this
    have hc:=List.getElem?_eq_getElem (show 0<st'.heap.length by omega)
    have htake:st'.heap.take 1=[st'.heap[0]]:=by
     apply List.ext_getElem
     ·simp;omega
     ·intro i h1 h2
      have h2:i=0:=by simp at h2;exact h2
      subst h2
      simp
    have hone:[BE ds].length=1:=rfl
    rw [hone,htake] at qo
    obtain ⟨us0,hb0,hos⟩:∃ us0,st'.heap[0]=.box us0∧Bb [] us0=some os:=by
     generalize st'.heap[0]=ob at qo
     cases ob with
     | box us0 =>
      simp only [Pq] at qo
      split at qo
      ·rename_i xs os2 hx ho2
       simp only [Option.some.injEq,List.cons.injEq,F.agg.injEq] at qo
       exact ⟨us0,rfl,by rw [hx,qo.1]⟩
      ·cases qo
     | _=>simp [Pq] at qo
    rw [hb0] at hc
    obtain ⟨m2,p1,p2,p3⟩:=lA (cu:=cu) (ds:=ds) hH ho (by rw [← h1.get.1,hl1]) hc hos h5 q1 q2 q3 q4 q5 h4
    have hfl:(res cs xs).1.length=vs.length:=by
     have e1:=(IT h4).1
     have e2:=(IU us2 es q1).2.1
     have e3:=q5.1
     omega
    have:=fJ (H:=H.set o (BE (res cs xs).2)) (slot:=none) (w:=w) (Z:=Z) (m:=m) hfl p3
    rw [q6]
    refine ⟨Z',m2,?_⟩
    match hr:(res cs xs).1,vs,hfl,p1,p2,p3 with
    | [e],[v],_,p1,p2,p3=>exact ⟨p1,p2,p3 0 e v rfl rfl⟩
    | [],[],_,p1,p2,p3=>exact ⟨p1,p2,.tup [] [] rfl fun j u v hu=>by simp at hu⟩
    | e1 :: e2 :: fs,v1 :: v2 :: vs,hfl,p1,p2,p3 =>
     refine ⟨p1,p2,?_⟩
     have:RepU w' Z' m2 (DJ (H.set o (BE (res cs xs).2)) none (Cx (DB (e1 :: e2 :: fs)))) (.tup ((e1 :: e2 :: fs).map (RA (IW (H.set o (BE (res cs xs).2)) none)))) (.tuple (v1 :: v2 :: vs).toArray):=.tup _ _ (by simpa using hfl) fun j u v hu hv=>by
      rw [List.getElem?_map] at hu
      cases he:(e1 :: e2 :: fs)[j]? with
      | none=>rw [he] at hu;cases hu
      | some e=>rw [he] at hu;cases hu;exact p3 j e v he hv
     have e:(if h:(v1 :: v2 :: vs).toArray.size=1 then (v1 :: v2 :: vs).toArray[0] else Value.tuple (v1 :: v2 :: vs).toArray)=.tuple (v1 :: v2 :: vs).toArray:=dif_neg (by simp)
     rw [e]
     exact this
    | [_],[],hl,_,_,_=>simp at hl
    | [_],_ :: _ :: _,hl,_,_,_=>simp at hl
    | [],_ :: _,hl,_,_,_=>simp at hl
    | _ :: _ :: _,[],hl,_,_,_=>simp at hl
    | _ :: _ :: _,[_],hl,_,_,_=>simp at hl
   ·cases hp
  ·cases hp
 ·cases hp
end
end Go.Proofs.YtlefbocihikaoaaGreat.R
namespace Go.Proofs.YtlefbocihikaoaaGreat.R
open Go Go.RowKit Go.Shelf Go.Sort
section
variable {P:Program} {ρ:Ren} {α:Type} {w:World} {Z:Nat→Prop} {m:Nat→Nat} {H:List HO}
def isI:F→Bool | .int _ _=>true | _=>false
def GR:F→Value | .int k n=>.int k n | _=>.nilFunc
theorem kX {f:F} {v:Value} (h:isI f=true) (r:RepF w Z f v):v=GR f:=by
 cases r <;> first | rfl | cases h
theorem VW {f:F} (h:isI f=true):RepF w Z f (GR f):=by
 cases f <;> first | exact .int _ _ | cases h
theorem MR:∀ {cs:List F},(∀ f ∈ cs,isI f=true)→RepF w Z (.agg cs) (.agg (cs.map GR).toArray):=fun {cs} h =>
 .agg cs (cs.map GR) (by simp) fun j u v hu hv=>by
  rw [List.getElem?_map,hu] at hv
  cases hv
  exact VW (h u (List.mem_of_getElem? hu))
theorem iM {g:FuncId} {pre:List F→Bool} {res:List F→F} (hok:Ai P g pre res) (eg:∀ args w,(callFunc g args).run P w=.ok (.enter g args) w)
  {cs:α→List F} (hI:∀ x,∀ f ∈ cs x,isI f=true) {cf:α→α→Int} (hp:∀ x y,pre [.agg (cs x),.agg (cs y)]=true) (hr:∀ x y,res [.agg (cs x),.agg (cs y)]=.int .i64 (cf x y)) (x y:α) (W:World) :
  Calls P g #[.agg ((cs x).map GR).toArray,.agg ((cs y).map GR).toArray] W fun e w'=>e=.returned (.int .i64 (cf x y))∧∃ q os',w'=grow (W.drewN q) os':=by
 have h:=hok _ (hp x y) W (fun b=>b<W.heap.size) #[.agg ((cs x).map GR).toArray,.agg ((cs y).map GR).toArray] (fun _ h=>h)
  ⟨rfl,fun j u v hu hv=>by
   match j,hu,hv with
   | 0,hu,hv=>cases hu;cases hv;exact MR (hI x)
   | 1,hu,hv=>cases hu;cases hv;exact MR (hI y)
   | j+2,hu,hv=>simp at hu⟩
 rcases h with ⟨_,h⟩ | ⟨v,w',h,_⟩
 ·refine h.mono fun e w' he=>?_
  cases e with
  | returned v =>
   obtain ⟨g,Z',_,hv⟩:=he
   rw [hr] at hv
   refine ⟨by cases hv;rfl,w'.drawn-W.drawn,w'.heap.extract W.heap.size w'.heap.size,?_⟩
   have e1:w'.heap=W.heap++w'.heap.extract W.heap.size w'.heap.size:=by
    apply Array.ext_getElem?
    intro k
    rw [Array.getElem?_append]
    by_cases hk:k<W.heap.size
    ·rw [if_pos hk];exact g.old k hk
    ·rw [if_neg hk]
     simp only [Array.getElem?_extract]
     have:=g.size
     split
     ·congr 1;omega
     ·rw [Array.getElem?_eq_none (by omega)]
   have e2:w'.drawn=W.drawn+(w'.drawn-W.drawn):=by have:=g.drawn;omega
   cases w' with
   | mk hp tp dr os out =>
    cases W with
    | mk hp0 tp0 dr0 os0 out0 =>
     have a1:=g.os;have a2:=g.tape;have a3:=g.output
     simp only at a1 a2 a3 e1 e2
     subst a1 a2 a3
     simp only [grow,World.drewN]
     congr 1
  | _=>exact he.elim
 ·rw [eg] at h;cases h
variable [Inhabited α]
theorem Vu {cs:α→List F} {k:Nat} (hcl:∀ x,(cs x).length=k) (d:Array α) {i j:Nat} (hi:i<d.size) (hj:j<k) :
  (flatK (fun x=>(cs x).map GR) k d)[i*k+j]! = GR ((cs d[i]!).getD j .dflt):=by
 have h1:i*k+j<d.size*k:=by
  have:=Nat.mul_le_mul_right k (show i+1≤d.size from hi);rw [Nat.add_mul,Nat.one_mul] at this;omega
 rw [get_flatK _ _ _ _ h1]
 have e1:(i*k+j) / k=i:=by rw [Nat.mul_comm,Nat.mul_add_div (by omega),Nat.div_eq_of_lt hj,Nat.add_zero]
 have e2:(i*k+j) % k=j:=by rw [Nat.mul_comm,Nat.mul_add_mod,Nat.mod_eq_of_lt hj]
 rw [e1,e2]
 have hl:j<(cs d[i]!).length:=by rw [hcl];exact hj
 rw [getElem!_pos _ j (by simpa using hl)]
 simp [List.getD,List.getElem?_eq_getElem hl]
def O0 (k g:Nat) (is:F→Bool):List U→List HO→Bool
 | [.hs o gen off len,.fn g' []],H=>match H[o]? with
  | some (.arr sz n e)=>Nat.beq sz k&&decide (gen=n)&&decide (off=0)&&decide (len=n)&&Nat.beq g' g&&(decide (n≤1000000)&&(List.range n).all fun j=>is (e j))
  | _=>false
 | _,_=>false
def MG (res:Nat→(Nat→F)→Nat→F):List U→List HO→U × List HO
 | [.hs o _ _ _,.fn _ []],H=>match H[o]? with
  | some (.arr sz n e)=>(.f (.tup []),H.set o (.arr sz n (res n e)))
  | _=>(.bad,H)
 | _,H=>(.bad,H)
theorem LE {blk:Nat} {c:Array Value} {el:TypeId} {fr:Nat × Nat} (hb:w.heap[blk]?=some (.cells c el fr)) (F:Array Value):putRow id w blk 0 F=Bd w blk (.cells (Go.Sort.putCells id 0 F c) el fr):=by
 unfold putRow mapBlock Bd
 congr 1
 apply Array.ext_getElem?
 intro k
 simp only [Array.getElem?_modify,Array.getElem?_setIfInBounds]
 by_cases hk:blk=k
 ·subst hk
  rw [if_pos rfl,if_pos rfl,hb]
  have:=(Array.getElem?_eq_some_iff.1 hb).1
  rw [if_pos this]
  rfl
 ·rw [if_neg hk,if_neg hk]
theorem fn_sort (L:SlLaysF0.n6 P ρ) {k:Nat} (hk0:0<k) (aE:∀ w,(isAgg (ρ.t 24)).run P w=.ok true w) (zE:∀ w,(Go.sizeOf (ρ.t 24)).run P w=.ok k w)
  {cs:α→List F} (hcl:∀ x,(cs x).length=k) (hI:∀ x,∀ f ∈ cs x,isI f=true) {cf:α→α→Int} (hO:SWO (ltOf cf)) {g:Nat}
  (eg:∀ args w,(callFunc g args).run P w=.ok (.enter g args) w)
  (hc:∀ x y W,Calls P g #[.agg ((cs x).map GR).toArray,.agg ((cs y).map GR).toArray] W fun e w'=>e=.returned (.int .i64 (cf x y))∧∃ q os',w'=grow (W.drewN q) os')
  {is:F→Bool} {un:F→α} (hun:∀ f,is f=true→f.cells=cs (un f))
  (hent:∀ args w,(callFunc (ρ.f 6) args).run P w=.ok (.enter (ρ.f 6) args) w) {res:Nat→(Nat→F)→Nat→F}
  (hres:∀ n e j,j<n→(∀ j,j<n→is (e j)=true)→(res n e j).cells=cs ((pdq (ltOf cf) ((List.range n).map fun j=>un (e j)).toArray 0 n (Lib.bitLen n) true true)[j]!)) :
  EJ P (ρ.f 6) (.shared (O0 k g is) (MG res)):=by
 intro us H hp w Z m args hH hL
 unfold O0 at hp
 split at hp
 case h_2=>cases hp
 rename_i o gen off len g'
 split at hp
 case h_2=>cases hp
 rename_i sz n e ho
 simp only [Bool.and_eq_true,decide_eq_true_eq,List.all_eq_true,List.mem_range] at hp
 obtain ⟨⟨⟨⟨⟨hsz,rfl⟩,rfl⟩,rfl⟩,hg⟩,hn,his⟩:=hp
 have:=Nat.eq_of_beq_eq_true hsz
 subst this
 have:=Nat.eq_of_beq_eq_true hg
 subst this
 have hres':MG res [.hs o len 0 len,.fn g' []] H=(.f (.tup []),H.set o (.arr sz len (res len e))):=by simp only [MG,ho]
 rw [hres']
 obtain ⟨hl,hr⟩:=hL
 obtain ⟨v0,v1,he⟩:∃ v0 v1,args.toList=[v0,v1]:=by
  match h:args.toList,hl with
  | [v0,v1],_=>exact ⟨v0,v1,rfl⟩
 have ea:args = #[v0,v1]:=by rw [← Array.toArray_toList (xs:=args),he]
 have r0:=hr 0 _ v0 rfl (by rw [he];rfl)
 have r1:=hr 1 _ v1 rfl (by rw [he];rfl)
 subst ea
 cases r1 with
 | fn _ _ vs hvl hvr =>
 have:vs=[]:=by cases vs with | nil=>rfl | cons _ _=>simp at hvl
 subst this
 cases r0 with
 | hs _ _ _ _ _ h1 hkn hgg hv =>
 obtain ⟨_,A,c,rfl,hlc,hA,hbc⟩:=hv _ _ _ ho rfl
 have hlo:Aw H o:=⟨_,ho,rfl⟩
 have hlt:o<H.length:=(List.getElem?_eq_some_iff.1 ho).1
 have hobk:=hH.ob o _ ho
 obtain ⟨hs0,cc,el,fr,hb,hfz,hsize,hcells,hreps⟩:=hobk
 have hbl:m o<w.heap.size:=hH.blk_lt hlo
  -- the row sorted
 let d:Array α:=((List.range len).map fun j=>un (e j)).toArray
 have hd:d.size=len:=by simp [d]
 have hdi:∀ i,i<len→d[i]! = un (e i):=fun i hi=>by
  rw [getElem!_pos d i (by omega)]
  simp [d]
 refine .inl ⟨hent _ _,?_⟩
  -- the end
 have fin:∀ (d':Array α) (n':Nat) (os:Array Obj),d'.size=len→(∀ j,j<len→(res len e j).cells=cs d'[j]!) →
   ∃ Z' m',Ext w Z m H (sortWorldK (fun x=>(cs x).map GR) sz w (m o) 0 n' d' os) Z' m' (H.set o (.arr sz len (res len e)))∧HOK (sortWorldK (fun x=>(cs x).map GR) sz w (m o) 0 n' d' os) Z' m' (H.set o (.arr sz len (res len e))) ∧
    RepU (sortWorldK (fun x=>(cs x).map GR) sz w (m o) 0 n' d' os) Z' m' (H.set o (.arr sz len (res len e))) (.f (.tup [])) (.tuple #[]):=by
  intro d' n' os hd' hcs
  let F0:=flatK (fun x=>(cs x).map GR) sz d'
  let w1:=Bd w (m o) (.cells (Go.Sort.putCells id 0 F0 cc) el fr)
  have hpc:(Go.Sort.putCells id 0 F0 cc).size=cc.size:=by simp [Go.Sort.putCells]
  have hbc1:Az w1 (m o)=Az w (m o):=by
   simp only [Az,w1,Co,hb]
   rw [if_pos ⟨trivial,hbl⟩]
   exact hpc
  have hE1:Ext w Z m H w1 Z m (H.set o (.arr sz len (res len e))):=O9 hH ho rfl ⟨rfl,Nat.le_refl _,fun _=>⟨rfl,hbc1⟩⟩
  have hH1:HOK w1 Z m (H.set o (.arr sz len (res len e))):=by
   refine O7 hH ho rfl hE1 ⟨hs0,Go.Sort.putCells id 0 F0 cc,el,fr,?_,?_,by rw [hpc];exact hsize,fun i hi=>by rw [hcs i hi,hcl],fun i j u hi hu=>?_⟩
   ·rw [Co,if_pos ⟨rfl,hbl⟩]
   ·intro j hj
    have:=hfz j (by rw [← hpc];exact hj)
    simp only [World.frozen?,hb] at this
    simp only [World.frozen?,Co]
    rw [if_pos ⟨trivial,hbl⟩]
    exact this
   ·rw [hcs i hi] at hu
    have hu':=List.mem_of_getElem? hu
    have hju:=(List.getElem?_eq_some_iff.1 hu).1
    rw [hcl] at hju
    have hii:=hI _ u hu'
    have hlt2:i*sz+j<len*sz:=by
     have:=Nat.mul_le_mul_right sz (show i+1≤len from hi);rw [Nat.add_mul,Nat.one_mul] at this;omega
    refine ⟨(by cases u <;> first | rfl | cases hii),GR u,?_,VW hii⟩
    have hcz:i*sz+j<cc.size:=by omega
    simp only [Go.Sort.putCells,Array.getElem?_mapIdx,Array.getElem?_eq_getElem hcz,Option.map_some]
    rw [if_pos ⟨Nat.zero_le _,by show i*sz+j<0+F0.size;simp only [F0,size_flatK,hd'];omega⟩,Nat.sub_zero]
    show some (id F0[i*sz+j]!)=_
    rw [show F0[i*sz+j]! = _ from Vu hcl d' (by omega) hju]
    simp only [List.getD,hu,Option.getD_some,id]
  have hw1:∀ n',putRowK (fun x=>(cs x).map GR) sz (Sort.ahead w n') (m o) 0 d'=Sort.ahead w1 n':=fun n'=>by
   have:putRowK (fun x=>(cs x).map GR) sz (Sort.ahead w n') (m o) 0 d'=Bd (Sort.ahead w n') (m o) (.cells (Go.Sort.putCells id 0 F0 cc) el fr):=LE (w:=Sort.ahead w n') hb _
   rw [this]
   rfl
  have hG:Grows w1 (sortWorldK (fun x=>(cs x).map GR) sz w (m o) 0 n' d' os):=by
   unfold sortWorldK
   rw [hw1]
   refine ⟨rfl,rfl,rfl,by simp [grow,Sort.ahead],fun b hbb=>?_,Nat.le_add_right _ _⟩
   simp only [grow,Sort.ahead]
   rw [Array.getElem?_append_left hbb]
  obtain ⟨e2,h2⟩:=Ext.grows hH1 hG
  exact ⟨Z,m,hE1.trans e2,h2,.f _ _ (.tup [] [] rfl fun j u v hu=>by simp at hu)⟩
 have hsorted:∀ d':Array α,d'=pdq (ltOf cf) d 0 d.size (Lib.bitLen d.size) true true→d'.size=len∧∀ j,j<len→(res len e j).cells=cs d'[j]!:=by
  rintro d' rfl
  have hps:=(pdq_sorts (ltOf cf) hO d 0 d.size (Lib.bitLen d.size) true true (Nat.zero_le _) (Nat.le_refl _) (Or.inl rfl)).1.1
  refine ⟨by rw [hps,hd],fun j hj=>?_⟩
  rw [hres len e j hj his,hd]
 by_cases h0:len=0
 ·subst h0
  refine (AnyF.slices_SortFunc_none L A c (.func (.func g') #[] #[]) w).mono fun e' w' ⟨he',hw'⟩=>?_
  subst he';subst hw'
  obtain ⟨q1,q2⟩:=hsorted _ rfl
  obtain ⟨Z',m',a1,a2,a3⟩:=fin _ 0 #[] q1 q2
  have ew:sortWorldK (fun x=>(cs x).map GR) sz w' (m o) 0 0 (pdq (ltOf cf) d 0 d.size (Lib.bitLen d.size) true true) #[]=w':=by
   unfold sortWorldK
   rw [grow_empty]
   have:putRowK (fun x=>(cs x).map GR) sz (Sort.ahead w' 0) (m o) 0 (pdq (ltOf cf) d 0 d.size (Lib.bitLen d.size) true true)=putRow id w' (m o) 0 (flatK (fun x=>(cs x).map GR) sz (pdq (ltOf cf) d 0 d.size (Lib.bitLen d.size) true true)):=rfl
   rw [this,LE hb]
   rw [show Go.Sort.putCells id 0 (flatK (fun x=>(cs x).map GR) sz (pdq (ltOf cf) d 0 d.size (Lib.bitLen d.size) true true)) cc=cc from ?_]
   ·exact OG hb
   ·apply Array.ext_getElem?
    intro t
    simp only [Go.Sort.putCells,Array.getElem?_mapIdx]
    cases ht:cc[t]? with
    | none=>rfl
    | some v =>
     simp only [Option.map_some]
     rw [if_neg (by rw [size_flatK,q1];omega)]
  rw [ew] at a1 a2 a3
  exact ⟨Z',m',a1,a2,a3⟩
 ·have hcp:c ≠ 0:=by omega
  obtain rfl:=hA hcp
  have hHold:HoldsK (fun x=>(cs x).map GR) sz w (m o) 0 d:=by
   intro t ht
   rw [size_flatK,hd] at ht
   have ht0:t=(t / sz)*sz+t % sz:=by have:=Nat.div_add_mod t sz;rw [Nat.mul_comm] at this;exact this.symm
   have hti:t / sz<len:=by rw [Nat.div_lt_iff_lt_mul hk0];exact ht
   have htj:t % sz<sz:=Nat.mod_lt _ hk0
   have hcs:(e (t / sz)).cells=cs (un (e (t / sz))):=hun _ (his _ hti)
   have hj:t % sz<(e (t / sz)).cells.length:=by rw [hcs,hcl];exact htj
   obtain ⟨_,v,hv,hrv⟩:=hreps (t / sz) (t % sz) _ hti (List.getElem?_eq_getElem hj)
   have hu:(e (t / sz)).cells[t % sz] ∈ cs (un (e (t / sz))):=by rw [← hcs];exact List.getElem_mem hj
   have hvv:=kX (hI _ _ hu) hrv
   have hct:t<cc.size:=by omega
   constructor
   ·rw [Nat.zero_add]
    simp only [World.cell?,hb]
    show cc[t]?=some (id _)
    conv=>rhs;rw [ht0]
    rw [Vu hcl d (by omega) htj,hdi _ hti]
    conv=>lhs;rw [ht0]
    rw [hv,hvv]
    simp only [id,← hcs,List.getD,List.getElem?_eq_getElem hj,Option.getD_some]
   ·rw [Nat.zero_add];exact hfz t hct
  have hcon:=AnyQ.slices_SortFunc_eq L sz aE zE (fun x=>(cs x).map GR) (fun x=>by simp [hcl]) (fun x v hv=>by
   simp only [List.mem_map] at hv
   obtain ⟨f,hf,rfl⟩:=hv
   have:=hI x f hf
   cases f <;> first | rfl | cases this) cf hO g' #[] (m o) 0 c d w eg (fun n os dk _ x y=>hc x y _) hHold hbl (by omega)
  rw [hd] at hcon
  have e0:(⟨m o,0*sz,none⟩:Addr)=⟨m o,0,none⟩:=by rw [Nat.zero_mul]
  rw [e0]
  refine hcon.mono fun e' w' ⟨he',n',os,hw'⟩=>?_
  subst he';subst hw'
  obtain ⟨q1,q2⟩:=hsorted _ rfl
  rw [hd] at q1 q2
  exact fin _ n' os q1 q2
end
end Go.Proofs.YtlefbocihikaoaaGreat.R
namespace Go.Proofs.YtlefbocihikaoaaGreat.R
open Go Go.Shelf Go.RowKit Go.Lib Go.Sort
def Vh:Go.Shelf.Ren:=⟨fun | 6=>59 | 15=>92 | 14=>91 | 28=>115 | 29=>116 | 20=>107 | 21=>108 | 22=>109 | 23=>110 | 24=>111 | 25=>112 | 26=>113 | 27=>114 | 46=>122 | 47=>123 | 48=>124 | 49=>125 | 50=>126 | 57=>127 | n=>n,fun | 22=>24 | 24=>48 | 25=>101 | 3=>3 | 39=>104 | 0=>0 | 53=>124 | 55=>49 | 4=>4 | 46=>145 | 45=>144 | 50=>149 | 5=>5 | 9=>9 | 66=>156 | 70=>159 | 76=>163 | 77=>164 | n=>n,fun | n=>n⟩
theorem sortSeg:Go.Proofs.SlLaysF0.n6 Tryz.prog Vh:={
 mixed:=by kernel_rfl
 f6:=⟨Tryz.f59.name,by decide,Tryz.func59.trans (congrArg some (by kernel_rfl))⟩
 f14:=⟨Tryz.f91.name,by decide,Tryz.func91.trans (congrArg some (by kernel_rfl))⟩
 f15:=Tryz.func92.trans (congrArg some (by kernel_rfl))
 f20:=⟨Tryz.f107.name,by decide,Tryz.func107.trans (congrArg some (by kernel_rfl))⟩
 f21:=⟨Tryz.f108.name,by decide,Tryz.func108.trans (congrArg some (by kernel_rfl))⟩
 f22:=⟨Tryz.f109.name,by decide,Tryz.func109.trans (congrArg some (by kernel_rfl))⟩
 f23:=⟨Tryz.f110.name,by decide,Tryz.func110.trans (congrArg some (by kernel_rfl))⟩
 f24:=⟨Tryz.f111.name,by decide,Tryz.func111.trans (congrArg some (by kernel_rfl))⟩
 f25:=⟨Tryz.f112.name,by decide,Tryz.func112.trans (congrArg some (by kernel_rfl))⟩
 f26:=⟨Tryz.f113.name,by decide,Tryz.func113.trans (congrArg some (by kernel_rfl))⟩
 f27:=⟨Tryz.f114.name,by decide,Tryz.func114.trans (congrArg some (by kernel_rfl))⟩
 f28:=Tryz.func115.trans (congrArg some (by kernel_rfl))
 f29:=Tryz.func116.trans (congrArg some (by kernel_rfl))
 f46:=⟨Tryz.f122.name,by decide,Tryz.func122.trans (congrArg some (by kernel_rfl))⟩
 f47:=Tryz.func123.trans (congrArg some (by kernel_rfl))
 f48:=Tryz.func124.trans (congrArg some (by kernel_rfl))
 f49:=⟨Tryz.f125.name,by decide,Tryz.func125.trans (congrArg some (by kernel_rfl))⟩
 f50:=⟨Tryz.f126.name,by decide,Tryz.func126.trans (congrArg some (by kernel_rfl))⟩
 f57:=⟨Tryz.f127.name,by decide,Tryz.func127.trans (congrArg some (by kernel_rfl))⟩
 t0:=Tryz.underlying0
 a0:=Tryz.isAgg0
 z0:=Tryz.sizeOf0
 v0:=Tryz.zeroValue0
 t3:=Tryz.underlying3
 a3:=Tryz.isAgg3
 z3:=Tryz.sizeOf3
 v3:=Tryz.zeroValue3
 t4:=Tryz.underlying4
 a4:=Tryz.isAgg4
 z4:=Tryz.sizeOf4
 v4:=Tryz.zeroValue4
 t5:=Tryz.underlying5
 a5:=Tryz.isAgg5
 z5:=Tryz.sizeOf5
 v5:=Tryz.zeroValue5
 t9:=Tryz.underlying9
 a9:=Tryz.isAgg9
 z9:=Tryz.sizeOf9
 v9:=Tryz.zeroValue9
 t22:=Tryz.underlying24
 a22:=Tryz.isAgg24
 z22:=Tryz.sizeOf24
 v22:=Tryz.zeroValue24
 t25:=Tryz.underlying101
 a25:=Tryz.isAgg101
 z25:=Tryz.sizeOf101
 v25:=Tryz.zeroValue101
 t39:=Tryz.underlying104
 a39:=Tryz.isAgg104
 z39:=Tryz.sizeOf104
 v39:=Tryz.zeroValue104
 t45:=Tryz.underlying144
 a45:=Tryz.isAgg144
 z45:=Tryz.sizeOf144
 v45:=Tryz.zeroValue144
 t46:=Tryz.underlying145
 a46:=Tryz.isAgg145
 z46:=Tryz.sizeOf145
 v46:=Tryz.zeroValue145
 t50:=Tryz.underlying149
 a50:=Tryz.isAgg149
 z50:=Tryz.sizeOf149
 v50:=Tryz.zeroValue149
 t53:=Tryz.underlying124
 a53:=Tryz.isAgg124
 z53:=Tryz.sizeOf124
 v53:=Tryz.zeroValue124
 t55:=Tryz.underlying49
 a55:=Tryz.isAgg49
 z55:=Tryz.sizeOf49
 v55:=Tryz.zeroValue49
 t66:=Tryz.underlying156
 a66:=Tryz.isAgg156
 z66:=Tryz.sizeOf156
 v66:=Tryz.zeroValue156
 t70:=Tryz.underlying159
 a70:=Tryz.isAgg159
 z70:=Tryz.sizeOf159
 v70:=Tryz.zeroValue159
 t76:=Tryz.underlying163
 a76:=Tryz.isAgg163
 z76:=Tryz.sizeOf163
 v76:=Tryz.zeroValue163
 t77:=Tryz.underlying164
 a77:=Tryz.isAgg164
 z77:=Tryz.sizeOf164
 v77:=Tryz.zeroValue164 }
noncomputable section
/-! ### function 60 -/
def T60 {ρ:Type} (ret:(Int)→Option ρ) (x0:Int) (y0:Int) (x1:Int) (y1:Int) (u0:Int) (v0:Int) (u1:Int) (v1:Int):Option ρ :=
 (ret (orV (YY (F.sl 2 (Aj [F.int .i64 (EH x0 y0 u0 v0),F.int .i64 (EH x1 y1 u1 v1)])))))
def G60 (x0:Int) (y0:Int) (x1:Int) (y1:Int) (u0:Int) (v0:Int) (u1:Int) (v1:Int):Option (Int):=T60 some x0 y0 x1 y1 u0 v0 u1 v1
theorem t60 (x0:Int) (y0:Int) (x1:Int) (y1:Int) (u0:Int) (v0:Int) (u1:Int) (v1:Int) (r:Int) (h:G60 x0 y0 x1 y1 u0 v0 u1 v1=some r):AY Tryz.prog Tryz.f60.results.toList [.code (AR Tryz.f60)] (start Tryz.f60.ntmps ([F.agg [F.int .i64 x0,F.int .i64 y0,F.int .i64 x1,F.int .i64 y1],F.agg [F.int .i64 u0,F.int .i64 v0,F.int .i64 u1,F.int .i64 v1]].map .f)) (F.int .i64 r):=by
 refine AY.of_run Ap ST (T:=[]) (n:=200) ?_
 refine gE (Y:=T60 (fun r=>some (.ret (F.int .i64 r))) x0 y0 x1 y1 u0 v0 u1 v1) (by kernel_rfl) ?_
 exact gR (by cases h;rfl)
def Ha (s t:Sg):Int:=orV [EH s.x0 s.y0 t.x0 t.y0,EH s.x1 s.y1 t.x1 t.y1]
def O3:List F→Bool | [.agg [.int .i64 _,.int .i64 _,.int .i64 _,.int .i64 _],.agg [.int .i64 _,.int .i64 _,.int .i64 _,.int .i64 _]]=>true | _=>false
def bK:List F→F | [.agg [.int .i64 x0,.int .i64 y0,.int .i64 x1,.int .i64 y1],.agg [.int .i64 u0,.int .i64 v0,.int .i64 u1,.int .i64 v1]]=>.int .i64 (Ha ⟨x0,y0,x1,y1⟩ ⟨u0,v0,u1,v1⟩) | _=>.dflt
theorem mE:Ai Tryz.prog 60 O3 bK :=
 Bm (c:=AR Tryz.f60) Tryz.func60 (by kernel_rfl) (by kernel_rfl) fun xs hp=>match xs,hp with
 | [.agg [.int .i64 x0,.int .i64 y0,.int .i64 x1,.int .i64 y1],.agg [.int .i64 u0,.int .i64 v0,.int .i64 u1,.int .i64 v1]],_=>t60 x0 y0 x1 y1 u0 v0 u1 v1 _ rfl
instance:Inhabited Sg:=⟨.zero⟩
def csSg (s:Sg):List F:=[.int .i64 s.x0,.int .i64 s.y0,.int .i64 s.x1,.int .i64 s.y1]
def ZF (s t:Sg):Prop:=BT s.x0 s.y0 t.x0 t.y0 ∨ (s.x0=t.x0∧s.y0=t.y0∧BT s.x1 s.y1 t.x1 t.y1)
theorem ZE (s t:Sg):ltOf Ha s t=true ↔ ZF s t:=by
 unfold ltOf Ha ZF
 rw [decide_eq_true_eq]
 simp only [orV]
 have e:∀ a b c d:Int,(EH a b c d=0∧a=c∧b=d) ∨ (EH a b c d = -1∧BT a b c d) ∨ (EH a b c d=1∧BT c d a b):=fun a b c d=>by
  unfold EH
  cases h1:(a==c&&b==d) with
  | true =>
   simp only [Bool.and_eq_true,beq_iff_eq] at h1
   exact .inl ⟨rfl,h1.1,h1.2⟩
  | false =>
   cases h2:B1 a b c d with
   | true=>exact .inr (.inl ⟨rfl,Cz.1 h2⟩)
   | false =>
    refine .inr (.inr ⟨rfl,?_⟩)
    have:=Er.1 h2
    simp only [Bool.and_eq_false_iff,beq_eq_false_iff_ne,ne_eq] at h1
    unfold Ct at this
    unfold BT
    omega
 rcases e s.x0 s.y0 t.x0 t.y0 with ⟨h,h'⟩ | ⟨h,h'⟩ | ⟨h,h'⟩ <;> rcases e s.x1 s.y1 t.x1 t.y1 with ⟨k,k'⟩ | ⟨k,k'⟩ | ⟨k,k'⟩ <;> rw [h,k] <;> unfold BT at * <;> simp only [bne_self_eq_false,cond_false,show ((-1:Int) != 0)=true from rfl,show ((1:Int) != 0)=true from rfl,cond_true] <;> omega
theorem swoSg:Go.Sort.SWO (ltOf Ha) where
 irrefl x:=by
  cases h:ltOf Ha x x with
  | false=>rfl
  | true=>have:=(ZE x x).1 h;unfold ZF BT at this;omega
 trans x y z h1 h2:=by
  have h1:=(ZE _ _).1 h1
  have h2:=(ZE _ _).1 h2
  rw [ZE]
  unfold ZF BT at *
  omega
 ntrans x y z h1 h2:=by
  have h1:¬ ZF x y:=fun h=>by rw [(ZE _ _).2 h] at h1;cases h1
  have h2:¬ ZF y z:=fun h=>by rw [(ZE _ _).2 h] at h2;cases h2
  cases h:ltOf Ha x z with
  | false=>rfl
  | true =>
   have:=(ZE x z).1 h
   exfalso
   unfold ZF BT at *
   omega
def S6 (n:Nat) (e:Nat→F):Array Sg:=Go.Sort.pdq (ltOf Ha) ((List.range n).map fun j=>YW (e j)).toArray 0 n (Go.Lib.bitLen n) true true
def Iw (n:Nat) (e:Nat→F):Nat→F:=@dite _ True (Classical.propDecidable _) (fun _ j=>sgF (S6 n e)[j]!) fun _ _=>.dflt
theorem PS (n:Nat) (e:Nat→F) (j:Nat):Iw n e j=sgF (S6 n e)[j]!:=by
 unfold Iw
 rw [dif_pos trivial]
theorem lQ:EJ Tryz.prog 59 (.shared (O0 4 60 Na) (MG Iw)) :=
 fn_sort (α:=Sg) sortSeg (by omega) Tryz.isAgg48 Tryz.sizeOf48 (cs:=csSg) (fun _=>rfl) (fun x f hf=>by
  simp only [csSg,List.mem_cons,List.not_mem_nil,or_false] at hf
  rcases hf with rfl | rfl | rfl | rfl <;> rfl) swoSg (g:=60) (fun args w=>Mw (c:=AR Tryz.f60) Tryz.func60 (by kernel_rfl) (by kernel_rfl) args w)
  (fun x y W=>iM mE (fun args w=>Mw (c:=AR Tryz.f60) Tryz.func60 (by kernel_rfl) (by kernel_rfl) args w) (cs:=csSg) (fun x f hf=>by
   simp only [csSg,List.mem_cons,List.not_mem_nil,or_false] at hf
   rcases hf with rfl | rfl | rfl | rfl <;> rfl) (fun _ _=>rfl) (fun _ _=>rfl) x y W)
  (is:=Na) (un:=YW) (fun f h=>by
   unfold Na at h
   split at h
   ·rfl
   ·cases h) (fun args w=>Mw (c:=AR Tryz.f59) Tryz.func59 (by kernel_rfl) (by kernel_rfl) args w) (fun n e j hj he=>by rw [PS];rfl)
def envI3:Env:=(oY.add 60 (.pure O3 bK)).add 59 (.shared (O0 4 60 Na) (MG Iw))
theorem QT:Ax Tryz.prog envI3:=(Env.add_ok (Env.add_ok ST mE.sp) lQ)
end
noncomputable section
set_option maxHeartbeats 1000000
end
/-! A segment's ends lie on one side of another one's line, or the other way round, or all four on one line. -/
/-! Rings as rows of spots. -/
/-! Where a rising side comes to a height, all told as many times as it rises. -/
structure Rise where
 lx:Int
 ly:Int
 tx:Int
 ty:Int
def Rise.d (e:Rise):Int:=e.ty-e.ly
def Rise.at (e:Rise) (y:Int):Int:=e.lx*(e.ty-y)+e.tx*(y-e.ly)
end Go.Proofs.YtlefbocihikaoaaGreat.R
