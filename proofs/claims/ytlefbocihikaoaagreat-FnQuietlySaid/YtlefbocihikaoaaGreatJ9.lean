/-
 The own walk and what it shows,part 9 of 10.
-/
import Derived.Test.YtlefbocihikaoaaGreatJ1
import Derived.Test.YtlefbocihikaoaaGreatJ2
import Derived.Test.YtlefbocihikaoaaGreatJ3
import Derived.Test.YtlefbocihikaoaaGreatJ4
import Derived.Test.YtlefbocihikaoaaGreatJ5
import Derived.Test.YtlefbocihikaoaaGreatJ6
import Derived.Test.YtlefbocihikaoaaGreatJ7
import Derived.Test.YtlefbocihikaoaaGreatJ8
set_option linter.unusedVariables false
set_option linter.unusedSimpArgs false
set_option maxRecDepth 100000
set_option exponentiation.threshold 30000
namespace Go.Proofs.YtlefbocihikaoaaGreat.R
open Go
noncomputable section
set_option maxHeartbeats 1000000
end
noncomputable section
set_option maxHeartbeats 1000000
end
noncomputable section
end
noncomputable section
theorem gQ (q:List Pt):0≤CB q∧CB q≤5:=by
 unfold CB Ho
 cases decide (q.length<3) <;> cases decide (q.length > 12) <;> cases (q.all fun p=>BQ p.x p.y) <;> cases BK (Bg q) 0 q.length <;> cases BK (EX q) 0 q.length <;> simp
theorem X2 {R:Int × Int}:∀ (l:List (List Pt)) (i:Nat),(M2 l i R).1=0→(∀ r ∈ l,Bp r=true)∧R.1=0
 | [],i,h=>⟨fun r hr=>by simp at hr,h⟩
 | r :: l,i,h=>by
  rw [M2] at h
  have:=gQ r
  cases hf:(CB r != 0) with
  | true =>
   rw [hf,cond_true] at h
   simp only [Av (show -9223372036854775808≤10+CB r by omega) (by omega)] at h
   omega
  | false =>
   rw [hf,cond_false] at h
   obtain ⟨h1,h2⟩:=X2 l (i+1) h
   refine ⟨fun p hp=>?_,h2⟩
   rcases List.mem_cons.1 hp with rfl | hp
   ·unfold Bp
    rw [bne,Bool.not_eq_false'] at hf
    exact hf
   ·exact h1 p hp
theorem R1 (l:List (List Pt)):∀ (d i:Nat),(H5 l d i).1=0→∀ j,i≤j→j<i+d→Gj (l.getD j []) (l.take j)=false
 | 0,i,h,j,h1,h2=>by omega
 | d+1,i,h,j,h1,h2=>by
  rw [H5] at h
  cases hc:Gj (l.getD i []) (l.take i) with
  | true=>rw [hc,cond_true] at h;exact absurd h (show ¬ (3:Int)=0 by decide)
  | false =>
   rw [hc,cond_false] at h
   by_cases e:j=i
   ·subst e;exact hc
   ·exact R1 l d (i+1) h j (by omega) (by omega)
theorem Dq {l:List (List Pt)} (h:DM l=true):l.length≤6∧(∀ r ∈ l,Bp r=true)∧∀ i,i<l.length→∀ k,k<i→EU (l.getD i []) (l.getD k [])=false:=by
 have h0:(Et l).1=0:=eq_of_beq h
 unfold Et at h0
 by_cases h1:l.length > 6
 ·rw [decide_eq_true h1,cond_true] at h0;exact absurd h0 (by decide)
 ·rw [decide_eq_false h1,cond_false] at h0
  cases h2:decide (LV l > 20) with
  | true=>rw [h2,cond_true] at h0;exact absurd h0 (by decide)
  | false =>
   rw [h2,cond_false] at h0
   obtain ⟨h3,h4⟩:=X2 _ _ h0
   refine ⟨by omega,h3,fun i hi k hk=>?_⟩
   have h5:=R1 l l.length 0 h4 i (by omega) (by omega)
   unfold Gj at h5
   rw [List.any_eq_false] at h5
   have h6:=h5 (l.getD k []) (by
    have hlt:k<(l.take i).length:=by rw [List.length_take];omega
    have:(l.take i)[k]=l.getD k []:=by simp [List.getD,List.getElem?_eq_getElem (show k<l.length by omega)]
    rw [← this]
    exact List.getElem_mem hlt)
   simpa using h6
end
noncomputable section
end
noncomputable section
section
variable {l:List (List Pt)} (h:DM l=true)
include h
end
end
/-! ### function 28 -/
def T28 {ρ:Type} (ret:(Int)→(Int)→Option ρ) (s:ByteArray) (p:Int) (n:Int):Option ρ :=
 (AC (decide (n≤1))
 (ret (0) (p))
 (AC (decide (n≤256))
 (AC (Af (AB s)&&A9 (AA (AB s)) p)
 (AC (n != 0)
 (ret ((EZ (AA (AB s)) p).fst.tmod n) ((EZ (AA (AB s)) p).snd))
 none)
 none)
 (AC (Af (AB s)&&A9 (AA (AB s)) p)
 (AC (Af (AB s)&&A9 (AA (AB s)) (EZ (AA (AB s)) p).snd)
 (AC (n != 0)
 (ret ((IntKind.i64.wrap (IntKind.i64.wrap ((EZ (AA (AB s)) p).fst*256)+(EZ (AA (AB s)) (EZ (AA (AB s)) p).snd).fst)).tmod n) ((EZ (AA (AB s)) (EZ (AA (AB s)) p).snd).snd))
 none)
 none)
 none)))
def G28 (s:ByteArray) (p:Int) (n:Int):Option ((Int) × (Int)):=T28 (fun r q=>some (r,q)) s p n
theorem t28 (s:ByteArray) (p:Int) (n:Int) (r:Int) (q:Int) (h:G28 s p n=some (r,q)):CL Tryz.prog 1 Tryz.f28.results.toList [.code (AR Tryz.f28)] (CU Tryz.f28.ntmps [U.hp 0 0,U.f (F.int .i64 n)] [HO.box [U.f (AB s),U.f (F.int .i64 p)]]) (F.tup [F.int .i64 r,F.agg [AB s,F.int .i64 q]]):=by
 refine AY.of_run Ap Xl (T:=[]) (n:=200) ?_
 refine gE (Y:=T28 (fun r q=>some (.ret (F.tup [F.int .i64 r,F.agg [AB s,F.int .i64 q]]))) s p n) (by kernel_rfl) ?_
 exact (gS h (fun _ h=>gR (by cases h;rfl)) (fun _ h=>(gS h (fun _ h=>(gS h (fun _ h=>(gS h (fun _ h=>gR (by cases h;rfl)) gN)) gN)) (fun _ h=>(gS h (fun _ h=>(gS h (fun _ h=>(gS h (fun _ h=>gR (by cases h;rfl)) gN)) gN)) gN)))))
def AK (s:ByteArray) (p n:Int):Int × Int:=(G28 s p n).getD (0,0)
theorem EI {s:ByteArray} {p:Int} (h:A9 s p=true) (n:Int) :
  G28 s p n=some (AK s p n)∧0≤(AK s p n).1∧((AK s p n).1<n ∨ (AK s p n).1=0)∧A9 s (AK s p n).2=true:=by
 obtain ⟨h1,h2,h3,h4⟩:=O4 h
 obtain ⟨k1,k2,k3,k4⟩:=O4 h4
 unfold AK G28 T28
 simp only [A3,A8,h,h4,Bool.and_self,AF]
 by_cases c1:n≤1
 ·simp only [decide_eq_true c1,AF,Option.getD_some]
  exact ⟨trivial,by omega,.inr trivial,h⟩
 ·have hn:(n != 0)=true:=by simp;omega
  simp only [decide_eq_false c1,AJ,hn,AF]
  by_cases c2:n≤256
  ·simp only [decide_eq_true c2,AF,Option.getD_some]
   exact ⟨trivial,Int.tmod_nonneg _ h2,.inl (Int.tmod_lt_of_pos _ (by omega)),h4⟩
  ·simp only [decide_eq_false c2,AJ,Option.getD_some]
   refine ⟨trivial,Int.tmod_nonneg _ ?_,.inl (Int.tmod_lt_of_pos _ (by omega)),k4⟩
   rw [E1 (x:=(EZ s p).1*256) (by omega) (by omega),E1 (by omega) (by omega)]
   omega
theorem okBelow:EJ Tryz.prog 28 (MT (fun cs xs=>match xs with | [.int .i64 n]=>Q9 cs | _=>false) (fun cs xs=>match xs with | [.int .i64 n]=>rd (fun s p=>(.int .i64 (AK s p n).1,(AK s p n).2)) cs | _=>(.dflt,cs))) :=
 K1 (c:=AR Tryz.f28) Tryz.func28 (by kernel_rfl) (by kernel_rfl) fun cs xs hp=>by
  split at hp
  ·rename_i n
   obtain ⟨b,p,rfl,hb,hr⟩:=IP hp
   obtain ⟨h1,_⟩:=EI hr n
   exact ⟨[AB (AA b),.int .i64 p],[.int .i64 n],_,_,⟨(CC hb).1,.refl _,trivial⟩,⟨.refl _,trivial⟩,t28 _ _ _ _ _ h1,.refl _,⟨(CC hb).2,.refl _,trivial⟩⟩
  ·cases hp
def envD2:Env:=envD1.add 28 (MT (fun cs xs=>match xs with | [.int .i64 n]=>Q9 cs | _=>false) (fun cs xs=>match xs with | [.int .i64 n]=>rd (fun s p=>(.int .i64 (AK s p n).1,(AK s p n).2)) cs | _=>(.dflt,cs)))
theorem Xk:Ax Tryz.prog envD2:=(Env.add_ok Xl okBelow)
/-! ### function 12 -/
def T12 {ρ:Type} (ret:(Bool)→(Int)→Option ρ) (s:ByteArray) (p:Int) (n:Int):Option ρ :=
 (AC (Af (AB s)&&A9 (AA (AB s)) p)
 (ret ((AK (AA (AB s)) p n).fst==IntKind.i64.wrap (n-1)) ((AK (AA (AB s)) p n).snd))
 none)
def G12 (s:ByteArray) (p:Int) (n:Int):Option ((Bool) × (Int)):=T12 (fun r q=>some (r,q)) s p n
theorem t12 (s:ByteArray) (p:Int) (n:Int) (r:Bool) (q:Int) (h:G12 s p n=some (r,q)):CL Tryz.prog 1 Tryz.f12.results.toList [.code (AR Tryz.f12)] (CU Tryz.f12.ntmps [U.hp 0 0,U.f (F.int .i64 n)] [HO.box [U.f (AB s),U.f (F.int .i64 p)]]) (F.tup [F.bool r,F.agg [AB s,F.int .i64 q]]):=by
 refine AY.of_run Ap Xk (T:=[]) (n:=200) ?_
 refine gE (Y:=T12 (fun r q=>some (.ret (F.tup [F.bool r,F.agg [AB s,F.int .i64 q]]))) s p n) (by kernel_rfl) ?_
 exact (gS h (fun _ h=>gR (by cases h;rfl)) gN)
def Ar (s:ByteArray) (p n:Int):Bool × Int:=(G12 s p n).getD (false,0)
theorem GP {s:ByteArray} {p:Int} (h:A9 s p=true) (n:Int):G12 s p n=some (Ar s p n)∧A9 s (Ar s p n).2=true:=by
 obtain ⟨h1,h2,h3,h4⟩:=EI h n
 unfold Ar G12 T12
 simp only [A3,A8,h,h4,Bool.and_self,AF,Option.getD_some]
 exact ⟨trivial,trivial⟩
theorem okOnce:EJ Tryz.prog 12 (MT (fun cs xs=>match xs with | [.int .i64 n]=>Q9 cs | _=>false) (fun cs xs=>match xs with | [.int .i64 n]=>rd (fun s p=>(.bool (Ar s p n).1,(Ar s p n).2)) cs | _=>(.dflt,cs))) :=
 K1 (c:=AR Tryz.f12) Tryz.func12 (by kernel_rfl) (by kernel_rfl) fun cs xs hp=>by
  split at hp
  ·rename_i n
   obtain ⟨b,p,rfl,hb,hr⟩:=IP hp
   obtain ⟨h1,_⟩:=GP hr n
   exact ⟨[AB (AA b),.int .i64 p],[.int .i64 n],_,_,⟨(CC hb).1,.refl _,trivial⟩,⟨.refl _,trivial⟩,t12 _ _ _ _ _ h1,.refl _,⟨(CC hb).2,.refl _,trivial⟩⟩
  ·cases hp
def envD3:Env:=envD2.add 12 (MT (fun cs xs=>match xs with | [.int .i64 n]=>Q9 cs | _=>false) (fun cs xs=>match xs with | [.int .i64 n]=>rd (fun s p=>(.bool (Ar s p n).1,(Ar s p n).2)) cs | _=>(.dflt,cs)))
theorem QW:Ax Tryz.prog envD3:=(Env.add_ok Xk okOnce)
abbrev La (pre:List F→Bool) (V:List F→ByteArray→Int→F × Int):Sp:=MT (fun cs xs=>Q9 cs&&pre xs) (fun cs xs=>rd (V xs) cs)
theorem Pr {f:FuncId} {fn:Func} {c:Code} (hf:Tryz.prog.funcs[f]?=some fn) (hb:fn.body=some c) (hname:LI fn=false) {pre:List F→Bool} {V:List F→ByteArray→Int→F × Int}
  (h:∀ xs s p,pre xs=true→A9 s p=true→∃ r,FLe r (V xs s p).1∧CL Tryz.prog 1 fn.results.toList [.code c] (CU fn.ntmps (U.hp 0 0 :: xs.map U.f) [HO.box [U.f (AB s),U.f (F.int .i64 p)]]) (.tup [r,.agg [AB s,.int .i64 (V xs s p).2]])) :
  EJ Tryz.prog f (La pre V) :=
 K1 hf hb hname fun cs xs hp=>by
  simp only [Bool.and_eq_true] at hp
  obtain ⟨b,p,rfl,hb,hr⟩:=IP hp.1
  obtain ⟨r,h1,h2⟩:=h xs (AA b) p hp.2 hr
  exact ⟨[AB (AA b),.int .i64 p],xs,r,_,⟨(CC hb).1,.refl _,trivial⟩,Ee.refl _,h2,h1,⟨(CC hb).2,.refl _,trivial⟩⟩
def isNone:List F→Bool | []=>true | _=>false
/-! ### function 64 -/
def rO (s:ByteArray) (p:Int) (x3:Int) (x4:Int):St:=⟨(U.hp 0 0) :: Ag 2 ((U.f (F.int .u64 x3)) :: (U.f (F.int .i64 x4)) :: Ag 11 []),[HO.box [U.f (AB s),U.f (F.int .i64 p)]]⟩
def dP {ρ:Type} (ret:(Int)→(Int)→Option ρ) (c3:(ByteArray)→(Int)→(Int)→(Int)→Option ρ) (s:ByteArray) (p:Int) (x3:Int) (x4:Int):Option ρ :=
 (AC (decide (x4<8))
 (AC (Af (AB s)&&A9 (AA (AB s)) p)
 (c3 (s) ((EZ (AA (AB s)) p).snd) (Bz BinOp.or IntKind.u64 (IntKind.u64.wrap (x3*2 ^ min (Int.toNat 8) IntKind.u64.bits)) (IntKind.u64.wrap (EZ (AA (AB s)) p).fst)) (IntKind.i64.wrap (x4+1)))
 none)
 (ret (x3) (p)))
def Sw:Nat→(ByteArray)→(Int)→(Int)→(Int)→Option ((Int) × (Int))
 | 0,_,_,_,_=>none
 | k+1,s,p,x3,x4=>dP (fun r q=>some (r,q)) (Sw k) s p x3 x4
def T64 {ρ:Type} (ret:(Int)→(Int)→Option ρ) (c3:(ByteArray)→(Int)→(Int)→(Int)→Option ρ) (s:ByteArray) (p:Int):Option ρ :=
 (c3 (s) (p) (0) (0))
def G64 (k:Nat) (s:ByteArray) (p:Int):Option ((Int) × (Int)):=T64 (fun r q=>some (r,q)) (Sw k) s p
theorem t64_3:∀ (k:Nat) (s:ByteArray) (p:Int) (x3:Int) (x4:Int) (r:Int) (q:Int),Sw k s p x3 x4=some (r,q)→CL Tryz.prog 1 Tryz.f64.results.toList (at_ Tryz.f64 3) (rO s p x3 x4) (F.tup [F.int .u64 r,F.agg [AB s,F.int .i64 q]])
 | 0,_,_,_,_,_,_,h=>nomatch h
 | k+1,s,p,x3,x4,r,q,h=>by
  refine AY.of_cut Ap QW (T:=[(3,[0,3,4],1)]) (n:=200) ?_
  refine gE (Y:=dP (fun r q=>some (.ret (F.tup [F.int .u64 r,F.agg [AB s,F.int .i64 q]]))) (fun s p x3 x4=>some (.cut (at_ Tryz.f64 3) (rO s p x3 x4))) s p x3 x4) (by kernel_rfl) ?_
  exact (gS h (fun _ h=>(gS h (fun _ h=>gC (t64_3 k _ _ _ _ r q h)) gN)) (fun _ h=>gR (by cases h;rfl)))
theorem t64 (k:Nat) (s:ByteArray) (p:Int) (r:Int) (q:Int) (h:G64 k s p=some (r,q)):CL Tryz.prog 1 Tryz.f64.results.toList [.code (AR Tryz.f64)] (CU Tryz.f64.ntmps [U.hp 0 0] [HO.box [U.f (AB s),U.f (F.int .i64 p)]]) (F.tup [F.int .u64 r,F.agg [AB s,F.int .i64 q]]):=by
 refine AY.of_run Ap QW (T:=[(3,[0,3,4],1)]) (n:=200) ?_
 refine gE (Y:=T64 (fun r q=>some (.ret (F.tup [F.int .u64 r,F.agg [AB s,F.int .i64 q]]))) (fun s p x3 x4=>some (.cut (at_ Tryz.f64 3) (rO s p x3 x4))) s p) (by kernel_rfl) ?_
 exact gC (t64_3 k _ _ _ _ r q h)
theorem RO {s:ByteArray}:∀ (d i:Nat) (p x:Int),i+d=8→A9 s p=true→∃ r q,Sw (d+1) s p x i=some (r,q)∧A9 s q=true
 | 0,i,p,x,h,hr=>by
  obtain rfl:i=8:=by omega
  have c1:decide (((8:Nat):Int)<8)=false:=by decide
  exact ⟨x,p,by simp only [Sw,dP,c1,AJ],hr⟩
 | d+1,i,p,x,h,hr=>by
  obtain ⟨h1,h2,h3,h4⟩:=O4 hr
  have c1:decide ((i:Int)<8)=true:=decide_eq_true (by omega)
  have e2:IntKind.i64.wrap ((i:Int)+1)=((i+1:Nat):Int):=by rw [E1 (by omega) (by omega)];omega
  rw [Sw]
  simp only [dP,A3,A8,hr,c1,e2,Bool.and_self,AF]
  exact RO d (i+1) _ _ (by omega) h4
def L8 (s:ByteArray) (p:Int):Int × Int:=(G64 9 s p).getD (0,0)
theorem aC {s:ByteArray} {p:Int} (h:A9 s p=true):G64 9 s p=some (L8 s p)∧A9 s (L8 s p).2=true:=by
 obtain ⟨r,q,e,k⟩:=RO 8 0 p 0 (by omega) h
 have:G64 9 s p=some (r,q):=e
 unfold L8
 rw [this]
 exact ⟨rfl,k⟩
theorem okWord:EJ Tryz.prog 64 (La isNone fun _ s p=>(.int .u64 (L8 s p).1,(L8 s p).2)) :=
 Pr (c:=AR Tryz.f64) Tryz.func64 (by kernel_rfl) (by kernel_rfl) fun xs s p hx hr=>match xs,hx with
 | [],_=>⟨_,.refl _,t64 9 s p _ _ (aC hr).1⟩
def envD7:Env:=envD3.add 64 (La isNone fun _ s p=>(.int .u64 (L8 s p).1,(L8 s p).2))
theorem Xj:Ax Tryz.prog envD7:=(Env.add_ok QW okWord)
/-! ### function 33 -/
def T33 {ρ:Type} (ret:(Int)→(Int)→Option ρ) (s:ByteArray) (p:Int) (a:Int) (b:Int):Option ρ :=
 (AC (Af (AB s)&&A9 (AA (AB s)) p)
 (AC ((AK (AA (AB s)) p 8).fst==0)
 (ret (a) ((AK (AA (AB s)) p 8).snd))
 (AC ((AK (AA (AB s)) p 8).fst==1)
 (ret (b) ((AK (AA (AB s)) p 8).snd))
 (AC (decide (b<a))
 (ret (a) ((AK (AA (AB s)) p 8).snd))
 (AC (Af (AB s)&&A9 (AA (AB s)) (AK (AA (AB s)) p 8).snd&&true)
 (AC (IntKind.u64.wrap (IntKind.i64.wrap (IntKind.i64.wrap (b-a)+1)) != 0)
 (ret (IntKind.i64.wrap (a+IntKind.i64.wrap (((L8 (AA (AB s)) (AK (AA (AB s)) p 8).snd).fst.fdiv (2 ^ min (Int.toNat 1) IntKind.u64.bits)).tmod (IntKind.u64.wrap (IntKind.i64.wrap (IntKind.i64.wrap (b-a)+1)))))) ((L8 (AA (AB s)) (AK (AA (AB s)) p 8).snd).snd))
 none)
 none))))
 none)
def G33 (s:ByteArray) (p:Int) (a:Int) (b:Int):Option ((Int) × (Int)):=T33 (fun r q=>some (r,q)) s p a b
theorem t33 (s:ByteArray) (p:Int) (a:Int) (b:Int) (r:Int) (q:Int) (h:G33 s p a b=some (r,q)):CL Tryz.prog 1 Tryz.f33.results.toList [.code (AR Tryz.f33)] (CU Tryz.f33.ntmps [U.hp 0 0,U.f (F.int .i64 a),U.f (F.int .i64 b)] [HO.box [U.f (AB s),U.f (F.int .i64 p)]]) (F.tup [F.int .i64 r,F.agg [AB s,F.int .i64 q]]):=by
 refine AY.of_run Ap Xj (T:=[]) (n:=200) ?_
 refine gE (Y:=T33 (fun r q=>some (.ret (F.tup [F.int .i64 r,F.agg [AB s,F.int .i64 q]]))) s p a b) (by kernel_rfl) ?_
 exact (gS h (fun _ h=>(gS h (fun _ h=>gR (by cases h;rfl)) (fun _ h=>(gS h (fun _ h=>gR (by cases h;rfl)) (fun _ h=>(gS h (fun _ h=>gR (by cases h;rfl)) (fun _ h=>(gS h (fun _ h=>(gS h (fun _ h=>gR (by cases h;rfl)) gN)) gN)))))))) gN)
theorem wrapU64 {x:Int} (h0:0≤x) (h1:x≤18446744073709551615):IntKind.u64.wrap x=x:=by
 unfold IntKind.wrap
 simp [IntKind.bits,IntKind.signed]
 omega
def Nc:List F→Bool
 | [.int .i64 a,.int .i64 b]=>decide (-1099511627776≤a∧a≤b∧b≤1099511627776)
 | _=>false
def Ak (a b:Int) (s:ByteArray) (p:Int):Int × Int:=(G33 s p a b).getD (0,0)
theorem Cy {s:ByteArray} {p a b:Int} (h:A9 s p=true) (hab:-1099511627776≤a∧a≤b∧b≤1099511627776):G33 s p a b=some (Ak a b s p)∧A9 s (Ak a b s p).2=true:=by
 obtain ⟨b1,b2,b3,b4⟩:=EI h 8
 obtain ⟨w1,w2⟩:=aC b4
 unfold Ak G33 T33
 have e:IntKind.u64.wrap (IntKind.i64.wrap (IntKind.i64.wrap (b-a)+1))=b-a+1:=by
  rw [E1 (x:=b-a) (by omega) (by omega),E1 (by omega) (by omega),wrapU64 (by omega) (by omega)]
 have c1:(b-a+1 != 0)=true:=by simp;omega
 have c2:decide (b<a)=false:=decide_eq_false (by omega)
 simp only [A3,A8,h,b4,e,c1,c2,Bool.and_self,Bool.and_true,AF,AJ]
 cases (AK s p 8).1==0
 ·simp only [AJ]
  cases (AK s p 8).1==1
  ·simp only [AJ,Option.getD_some];exact ⟨trivial,w2⟩
  ·simp only [AF,Option.getD_some];exact ⟨trivial,b4⟩
 ·simp only [AF,Option.getD_some];exact ⟨trivial,b4⟩
def AU:List F→ByteArray→Int→F × Int
 | [.int .i64 a,.int .i64 b],s,p=>(.int .i64 (Ak a b s p).1,(Ak a b s p).2)
 | _,_,p=>(.dflt,p)
theorem okNear:EJ Tryz.prog 33 (La Nc AU) :=
 Pr (c:=AR Tryz.f33) Tryz.func33 (by kernel_rfl) (by kernel_rfl) fun xs s p hx hr=>match xs,hx with
 | [.int .i64 a,.int .i64 b],hx=>⟨_,.refl _,t33 s p a b _ _ (Cy hr (of_decide_eq_true hx)).1⟩
def envD8:Env:=envD7.add 33 (La Nc AU)
theorem QV:Ax Tryz.prog envD8:=(Env.add_ok Xj okNear)
/-! ### function 34 -/
def T34 {ρ:Type} (ret:(Int)→(Int)→(Int)→Option ρ) (s:ByteArray) (p:Int):Option ρ :=
 (AC (Af (AB s)&&A9 (AA (AB s)) p&&true)
 (AC (Af (AB s)&&A9 (AA (AB s)) (AU [F.int .i64 (-6),F.int .i64 6] (AA (AB s)) p).snd&&true)
 (ret ((Ak (-6) 6 (AA (AB s)) p).fst) ((Ak (-6) 6 (AA (AB s)) (AU [F.int .i64 (-6),F.int .i64 6] (AA (AB s)) p).snd).fst) ((AU [F.int .i64 (-6),F.int .i64 6] (AA (AB s)) (AU [F.int .i64 (-6),F.int .i64 6] (AA (AB s)) p).snd).snd))
 none)
 none)
def G34 (s:ByteArray) (p:Int):Option ((Int) × (Int) × (Int)):=T34 (fun r r2 q=>some (r,r2,q)) s p
theorem t34 (s:ByteArray) (p:Int) (r:Int) (r2:Int) (q:Int) (h:G34 s p=some (r,r2,q)):CL Tryz.prog 1 Tryz.f34.results.toList [.code (AR Tryz.f34)] (CU Tryz.f34.ntmps [U.hp 0 0] [HO.box [U.f (AB s),U.f (F.int .i64 p)]]) (F.tup [F.agg [F.int .i64 r,F.int .i64 r2],F.agg [AB s,F.int .i64 q]]):=by
 refine AY.of_run Ap QV (T:=[]) (n:=200) ?_
 refine gE (Y:=T34 (fun r r2 q=>some (.ret (F.tup [F.agg [F.int .i64 r,F.int .i64 r2],F.agg [AB s,F.int .i64 q]]))) s p) (by kernel_rfl) ?_
 exact (gS h (fun _ h=>(gS h (fun _ h=>gR (by cases h;rfl)) gN)) gN)
/-! ### function 63 -/
def T63 {ρ:Type} (ret:(Int)→(Int)→Option ρ) (s:ByteArray) (p:Int) (a:Int) (b:Int):Option ρ :=
 (AC (Af (AB s)&&A9 (AA (AB s)) p)
 (AC ((Ar (AA (AB s)) p 24).fst)
 (AC (Af (AB s)&&A9 (AA (AB s)) (Ar (AA (AB s)) p 24).snd)
 (AC (decide (0≤(AK (AA (AB s)) (Ar (AA (AB s)) p 24).snd 4).fst))
 (AC (decide ((AK (AA (AB s)) (Ar (AA (AB s)) p 24).snd 4).fst<((4:Nat):Int)))
 (AC (decide (0+(AK (AA (AB s)) (Ar (AA (AB s)) p 24).snd 4).fst.toNat<4))
 (AC (decide ((Aj [F.int .i64 (IntKind.i64.wrap (a-1)),F.int .i64 (IntKind.i64.wrap (b+1)),F.int .i64 (-9223372036854775808),F.int .i64 9223372036854775807] (0+(AK (AA (AB s)) (Ar (AA (AB s)) p 24).snd 4).fst.toNat)).cells.length=1))
 (AC (okV (Value.int IntKind.i64 0) ((List.drop 0 (Aj [F.int .i64 (IntKind.i64.wrap (a-1)),F.int .i64 (IntKind.i64.wrap (b+1)),F.int .i64 (-9223372036854775808),F.int .i64 9223372036854775807] (0+(AK (AA (AB s)) (Ar (AA (AB s)) p 24).snd 4).fst.toNat)).cells).headD F.dflt)&&true)
 (ret (Ex ((List.drop 0 (Aj [F.int .i64 (IntKind.i64.wrap (a-1)),F.int .i64 (IntKind.i64.wrap (b+1)),F.int .i64 (-9223372036854775808),F.int .i64 9223372036854775807] (0+(AK (AA (AB s)) (Ar (AA (AB s)) p 24).snd 4).fst.toNat)).cells).headD F.dflt)) ((AK (AA (AB s)) (Ar (AA (AB s)) p 24).snd 4).snd))
 none)
 none)
 none)
 none)
 none)
 none)
 (AC (Af (AB s)&&A9 (AA (AB s)) (Ar (AA (AB s)) p 24).snd&&Nc [F.int .i64 a,F.int .i64 b])
 (ret ((Ak a b (AA (AB s)) (Ar (AA (AB s)) p 24).snd).fst) ((AU [F.int .i64 a,F.int .i64 b] (AA (AB s)) (Ar (AA (AB s)) p 24).snd).snd))
 none))
 none)
def G63 (s:ByteArray) (p:Int) (a:Int) (b:Int):Option ((Int) × (Int)):=T63 (fun r q=>some (r,q)) s p a b
theorem t63 (s:ByteArray) (p:Int) (a:Int) (b:Int) (r:Int) (q:Int) (h:G63 s p a b=some (r,q)):CL Tryz.prog 1 Tryz.f63.results.toList [.code (AR Tryz.f63)] (CU Tryz.f63.ntmps [U.hp 0 0,U.f (F.int .i64 a),U.f (F.int .i64 b)] [HO.box [U.f (AB s),U.f (F.int .i64 p)]]) (F.tup [F.int .i64 r,F.agg [AB s,F.int .i64 q]]):=by
 refine AY.of_run Ap QV (T:=[]) (n:=200) ?_
 refine gE (Y:=T63 (fun r q=>some (.ret (F.tup [F.int .i64 r,F.agg [AB s,F.int .i64 q]]))) s p a b) (by kernel_rfl) ?_
 exact (gS h (fun _ h=>(gS h (fun _ h=>(gS h (fun _ h=>(gS h (fun _ h=>(gS h (fun _ h=>(gS h (fun _ h=>(gS h (fun _ h=>(gS h (fun _ h=>gR (by cases h;rfl)) gN)) gN)) gN)) gN)) gN)) gN)) (fun _ h=>(gS h (fun _ h=>gR (by cases h;rfl)) gN)))) gN)
def AV (s:ByteArray) (p:Int):Int × Int × Int:=(G34 s p).getD (0,0,0)
theorem Gu {s:ByteArray} {p:Int} (h:A9 s p=true):G34 s p=some (AV s p)∧A9 s (AV s p).2.2=true:=by
 obtain ⟨a1,a2⟩:=Cy h (a:=-6) (b:=6) (by omega)
 obtain ⟨b1,b2⟩:=Cy a2 (a:=-6) (b:=6) (by omega)
 unfold AV G34 T34
 simp only [AU,A3,A8,h,a2,Bool.and_self,Bool.and_true,AF,Option.getD_some]
 exact ⟨trivial,b2⟩
def AL:List F→ByteArray→Int→F × Int:=fun _ s p=>(.agg [.int .i64 (AV s p).1,.int .i64 (AV s p).2.1],(AV s p).2.2)
theorem okSpot:EJ Tryz.prog 34 (La isNone AL) :=
 Pr (c:=AR Tryz.f34) Tryz.func34 (by kernel_rfl) (by kernel_rfl) fun xs s p hx hr=>match xs,hx with
 | [],hx=>⟨_,.refl _,t34 s p _ _ _ (Gu hr).1⟩
def RB (a b:Int) (s:ByteArray) (p:Int):Int × Int:=(G63 s p a b).getD (0,0)
theorem NV {s:ByteArray} {p a b:Int} (h:A9 s p=true) (hab:-1099511627776≤a∧a≤b∧b≤1099511627776):G63 s p a b=some (RB a b s p)∧A9 s (RB a b s p).2=true:=by
 obtain ⟨o1,o2⟩:=GP h 24
 obtain ⟨b1,b2,b3,b4⟩:=EI o2 4
 obtain ⟨n1,n2⟩:=Cy o2 hab
 have hn:Nc [F.int .i64 a,F.int .i64 b]=true:=decide_eq_true hab
 unfold RB G63 T63
 simp only [AU,A3,A8,h,o2,hn,Bool.and_self,Bool.and_true,AF]
 cases (Ar s p 24).1 with
 | false=>simp only [AJ,Option.getD_some];exact ⟨trivial,n2⟩
 | true =>
  simp only [AF]
  have hk:(AK s (Ar s p 24).2 4).1=0 ∨ (AK s (Ar s p 24).2 4).1=1 ∨ (AK s (Ar s p 24).2 4).1=2 ∨ (AK s (Ar s p 24).2 4).1=3:=by omega
  generalize (AK s (Ar s p 24).2 4).1=k at hk b2
  rcases hk with rfl | rfl | rfl | rfl <;> exact ⟨rfl,b4⟩
def C7:List F→ByteArray→Int→F × Int
 | [.int .i64 a,.int .i64 b],s,p=>(.int .i64 (RB a b s p).1,(RB a b s p).2)
 | _,_,p=>(.dflt,p)
theorem okOff:EJ Tryz.prog 63 (La Nc C7) :=
 Pr (c:=AR Tryz.f63) Tryz.func63 (by kernel_rfl) (by kernel_rfl) fun xs s p hx hr=>match xs,hx with
 | [.int .i64 a,.int .i64 b],hx=>⟨_,.refl _,t63 s p a b _ _ (NV hr (of_decide_eq_true hx)).1⟩
def pM:Env:=(envD8.add 34 (La isNone AL)).add 63 (La Nc C7)
theorem Gf:Ax Tryz.prog pM:=(Env.add_ok (Env.add_ok QV okSpot) okOff)
theorem pt_at {α:Type} {is:F→Bool} {un:F→α} {enc:α→F} (d:α) (h1:∀ x,is x=true→x=enc (un x)) {n:Nat} {g:Nat→F} (h:Ci is (.sl n g)=true) {j:Nat} (hj:j<n):g j=enc ((D8 un (.sl n g)).getD j d):=by
 simp only [Ci,List.all_eq_true,List.mem_range] at h
 have e:(D8 un (.sl n g)).getD j d=un (g j):=by simp [D8,List.getD,hj]
 rw [e]
 exact h1 _ (h j hj)
theorem X3 {n:Nat} {g:Nat→F} (h:C3 (.sl n g)=true) {j:Nat} (hj:j<n):g j=ptF ((BR (.sl n g)).getD j Pt.zero):=pt_at Pt.zero (fun _ h=>(pt_eq h).symm) h hj
noncomputable section
/-! ### function 32 -/
def Qq (s:ByteArray) (p:Int) (n:Nat) (g:Nat→F) (x:Int) (y:Int) (u:Int) (t:Int):St:=⟨(U.hp 0 0) :: Ag 1 ((U.hp 1 0) :: (U.f (F.int .i64 x)) :: (U.f (F.int .i64 y)) :: (U.f (F.int .i64 u)) :: (U.f (F.int .i64 t)) :: (U.hs 2 n 0 n) :: Ag 187 []),[HO.box [U.f (AB s),U.f (F.int .i64 p)],HO.box [U.nils],HO.arr 2 n g]⟩
def S32_6v (s:ByteArray) (p:Int) (n:Nat) (o:List Pt) (x:Int) (y:Int) (u:Int) (t:Int):St:=⟨(U.hp 0 0) :: Ag 1 ((U.hp 1 0) :: (U.f (F.int .i64 x)) :: (U.f (F.int .i64 y)) :: (U.f (F.int .i64 u)) :: (U.f (F.int .i64 t)) :: (U.hs 2 n 0 n) :: Ag 187 []),[HO.box [U.f (AB s),U.f (F.int .i64 p)],HO.box [U.nils],HO.arr 2 n (fun i=>ptF (o.getD i Pt.zero))]⟩
def L4 (s:ByteArray) (p:Int) (n:Nat) (g:Nat→F):St:=⟨(U.hp 0 0) :: Ag 1 ((U.hp 1 0) :: Ag 4 ((U.hs 2 n 0 n) :: Ag 187 [])),[HO.box [U.f (AB s),U.f (F.int .i64 p)],HO.box [U.nils],HO.arr 2 n g]⟩
def S32_17v (s:ByteArray) (p:Int) (n:Nat) (o:List Pt):St:=⟨(U.hp 0 0) :: Ag 1 ((U.hp 1 0) :: Ag 4 ((U.hs 2 n 0 n) :: Ag 187 [])),[HO.box [U.f (AB s),U.f (F.int .i64 p)],HO.box [U.nils],HO.arr 2 n (fun i=>ptF (o.getD i Pt.zero))]⟩
def L3 (s:ByteArray) (p:Int) (n:Nat) (g:Nat→F) (i:Int):St:=⟨(U.hp 0 0) :: Ag 1 ((U.hp 1 0) :: Ag 4 ((U.hs 2 n 0 n) :: (U.f (F.int .i64 i)) :: Ag 186 [])),[HO.box [U.f (AB s),U.f (F.int .i64 p)],HO.box [U.nils],HO.arr 2 n g]⟩
def S32_19v (s:ByteArray) (p:Int) (n:Nat) (o:List Pt) (i:Int):St:=⟨(U.hp 0 0) :: Ag 1 ((U.hp 1 0) :: Ag 4 ((U.hs 2 n 0 n) :: (U.f (F.int .i64 i)) :: Ag 186 [])),[HO.box [U.f (AB s),U.f (F.int .i64 p)],HO.box [U.nils],HO.arr 2 n (fun i=>ptF (o.getD i Pt.zero))]⟩
def L2 (s:ByteArray) (p:Int) (n:Nat) (g:Nat→F):St:=⟨(U.hp 0 0) :: Ag 1 ((U.hp 1 0) :: Ag 4 ((U.hs 2 n 0 n) :: Ag 187 [])),[HO.box [U.f (AB s),U.f (F.int .i64 p)],HO.box [U.nils],HO.arr 2 n g]⟩
def S32_24v (s:ByteArray) (p:Int) (n:Nat) (o:List Pt):St:=⟨(U.hp 0 0) :: Ag 1 ((U.hp 1 0) :: Ag 4 ((U.hs 2 n 0 n) :: Ag 187 [])),[HO.box [U.f (AB s),U.f (F.int .i64 p)],HO.box [U.nils],HO.arr 2 n (fun i=>ptF (o.getD i Pt.zero))]⟩
def L1 (s:ByteArray) (p:Int) (n:Nat) (g:Nat→F):St:=⟨(U.hp 0 0) :: Ag 1 ((U.hp 1 0) :: Ag 4 ((U.hs 2 n 0 n) :: Ag 187 [])),[HO.box [U.f (AB s),U.f (F.int .i64 p)],HO.box [U.nils],HO.arr 2 n g]⟩
def S32_26v (s:ByteArray) (p:Int) (n:Nat) (o:List Pt):St:=⟨(U.hp 0 0) :: Ag 1 ((U.hp 1 0) :: Ag 4 ((U.hs 2 n 0 n) :: Ag 187 [])),[HO.box [U.f (AB s),U.f (F.int .i64 p)],HO.box [U.nils],HO.arr 2 n (fun i=>ptF (o.getD i Pt.zero))]⟩
abbrev Jl (ρ:Type):=(ByteArray)→(Int)→(Nat)→(Nat→F)→Option ρ
abbrev iV (ρ:Type):=(ByteArray)→(Int)→(Nat)→(Nat→F)→(Int)→(Int)→(Int)→(Int)→Option ρ
abbrev iU (ρ:Type):=(ByteArray)→(Int)→(Nat)→(Nat→F)→(Int)→Option ρ
abbrev iT (ρ:Type):=(F)→(Int)→Option ρ
def qZ {ρ:Type} (ret:iT ρ) (c6:iV ρ) (c17:Jl ρ) (c19:iU ρ) (c24:Jl ρ) (c26:Jl ρ) (s:ByteArray) (p:Int) (n:Nat) (o:List Pt) (x:Int) (y:Int) (u:Int) (t:Int):Option ρ :=
 (AC (Af (AB s)&&A9 (AA (AB s)) p)
 (AC ((AK (AA (AB s)) p 8).fst==0)
 (AC (Af (AB s)&&A9 (AA (AB s)) (AK (AA (AB s)) p 8).snd&&true)
 (AC (Af (AB s)&&A9 (AA (AB s)) (AL [] (AA (AB s)) (AK (AA (AB s)) p 8).snd).snd&&true)
 (AC (Af (AB s)&&A9 (AA (AB s)) (AL [] (AA (AB s)) (AL [] (AA (AB s)) (AK (AA (AB s)) p 8).snd).snd).snd&&true)
 (c17 (s) ((AL [] (AA (AB s)) (AL [] (AA (AB s)) (AL [] (AA (AB s)) (AK (AA (AB s)) p 8).snd).snd).snd).snd) (3) (Aj [F.agg [F.int .i64 (AV (AA (AB s)) (AK (AA (AB s)) p 8).snd).fst,F.int .i64 (AV (AA (AB s)) (AK (AA (AB s)) p 8).snd).snd.fst],F.agg [F.int .i64 (AV (AA (AB s)) (AL [] (AA (AB s)) (AK (AA (AB s)) p 8).snd).snd).fst,F.int .i64 (AV (AA (AB s)) (AL [] (AA (AB s)) (AK (AA (AB s)) p 8).snd).snd).snd.fst],F.agg [F.int .i64 (AV (AA (AB s)) (AL [] (AA (AB s)) (AL [] (AA (AB s)) (AK (AA (AB s)) p 8).snd).snd).snd).fst,F.int .i64 (AV (AA (AB s)) (AL [] (AA (AB s)) (AL [] (AA (AB s)) (AK (AA (AB s)) p 8).snd).snd).snd).snd.fst]]))
 none)
 none)
 none)
 (AC ((AK (AA (AB s)) p 8).fst==1)
 (c17 (s) ((AK (AA (AB s)) p 8).snd) (6) (Aj [F.agg [F.int .i64 x,F.int .i64 y],F.agg [F.int .i64 (IntKind.i64.wrap (IntKind.i64.wrap (x+u)+1)),F.int .i64 y],F.agg [F.int .i64 (IntKind.i64.wrap (IntKind.i64.wrap (x+u)+1)),F.int .i64 (IntKind.i64.wrap (y+1))],F.agg [F.int .i64 (IntKind.i64.wrap (x+1)),F.int .i64 (IntKind.i64.wrap (y+1))],F.agg [F.int .i64 (IntKind.i64.wrap (x+1)),F.int .i64 (IntKind.i64.wrap (IntKind.i64.wrap (y+t)+1))],F.agg [F.int .i64 x,F.int .i64 (IntKind.i64.wrap (IntKind.i64.wrap (y+t)+1))]]))
 (AC ((AK (AA (AB s)) p 8).fst==2)
 (AC (Af (AB s)&&A9 (AA (AB s)) (AK (AA (AB s)) p 8).snd&&true)
 (AC (Af (AB s)&&A9 (AA (AB s)) (AL [] (AA (AB s)) (AK (AA (AB s)) p 8).snd).snd&&true)
 (AC (Af (AB s)&&A9 (AA (AB s)) (AL [] (AA (AB s)) (AL [] (AA (AB s)) (AK (AA (AB s)) p 8).snd).snd).snd&&true)
 (AC (Af (AB s)&&A9 (AA (AB s)) (AL [] (AA (AB s)) (AL [] (AA (AB s)) (AL [] (AA (AB s)) (AK (AA (AB s)) p 8).snd).snd).snd).snd&&true)
 (c17 (s) ((AL [] (AA (AB s)) (AL [] (AA (AB s)) (AL [] (AA (AB s)) (AL [] (AA (AB s)) (AK (AA (AB s)) p 8).snd).snd).snd).snd).snd) (4) (Aj [F.agg [F.int .i64 (AV (AA (AB s)) (AK (AA (AB s)) p 8).snd).fst,F.int .i64 (AV (AA (AB s)) (AK (AA (AB s)) p 8).snd).snd.fst],F.agg [F.int .i64 (AV (AA (AB s)) (AL [] (AA (AB s)) (AK (AA (AB s)) p 8).snd).snd).fst,F.int .i64 (AV (AA (AB s)) (AL [] (AA (AB s)) (AK (AA (AB s)) p 8).snd).snd).snd.fst],F.agg [F.int .i64 (AV (AA (AB s)) (AL [] (AA (AB s)) (AL [] (AA (AB s)) (AK (AA (AB s)) p 8).snd).snd).snd).fst,F.int .i64 (AV (AA (AB s)) (AL [] (AA (AB s)) (AL [] (AA (AB s)) (AK (AA (AB s)) p 8).snd).snd).snd).snd.fst],F.agg [F.int .i64 (AV (AA (AB s)) (AL [] (AA (AB s)) (AL [] (AA (AB s)) (AL [] (AA (AB s)) (AK (AA (AB s)) p 8).snd).snd).snd).snd).fst,F.int .i64 (AV (AA (AB s)) (AL [] (AA (AB s)) (AL [] (AA (AB s)) (AL [] (AA (AB s)) (AK (AA (AB s)) p 8).snd).snd).snd).snd).snd.fst]]))
 none)
 none)
 none)
 none)
 (AC ((AK (AA (AB s)) p 8).fst==3)
 (AC (Af (AB s)&&A9 (AA (AB s)) (AK (AA (AB s)) p 8).snd&&true)
 (c17 (s) ((AU [F.int .i64 (-2),F.int .i64 8] (AA (AB s)) (AK (AA (AB s)) p 8).snd).snd) (3) (Aj [F.agg [F.int .i64 x,F.int .i64 y],F.agg [F.int .i64 (IntKind.i64.wrap (x+u)),F.int .i64 y],F.agg [F.int .i64 (IntKind.i64.wrap (x+(Ak (-2) 8 (AA (AB s)) (AK (AA (AB s)) p 8).snd).fst)),F.int .i64 (IntKind.i64.wrap (y+t))]]))
 none)
 (AC ((AK (AA (AB s)) p 8).fst==4)
 (c17 (s) ((AK (AA (AB s)) p 8).snd) (4) (Aj [F.agg [F.int .i64 (IntKind.i64.wrap (x+IntKind.i64.wrap (2*u))),F.int .i64 y],F.agg [F.int .i64 (IntKind.i64.wrap (x+u)),F.int .i64 (IntKind.i64.wrap (y+t))],F.agg [F.int .i64 x,F.int .i64 y],F.agg [F.int .i64 (IntKind.i64.wrap (x+u)),F.int .i64 (IntKind.i64.wrap (y-t))]]))
 (c17 (s) ((AK (AA (AB s)) p 8).snd) (n) (fun i ↦ F.agg [F.int .i64 (o.getD i Pt.zero).x,F.int .i64 (o.getD i Pt.zero).y])))))))
 none)
def Z4 {ρ:Type} (ret:iT ρ) (c6:iV ρ) (c17:Jl ρ) (c19:iU ρ) (c24:Jl ρ) (c26:Jl ρ) (s:ByteArray) (p:Int) (n:Nat) (o:List Pt):Option ρ :=
 (AC (Af (AB s)&&A9 (AA (AB s)) p)
 (AC ((Ar (AA (AB s)) p 6).fst)
 (c19 (s) ((Ar (AA (AB s)) p 6).snd) (n) (fun i ↦ F.agg [F.int .i64 (o.getD i Pt.zero).x,F.int .i64 (o.getD i Pt.zero).y]) (0))
 (c24 (s) ((Ar (AA (AB s)) p 6).snd) (n) (fun i ↦ F.agg [F.int .i64 (o.getD i Pt.zero).x,F.int .i64 (o.getD i Pt.zero).y])))
 none)
def VB {ρ:Type} (ret:iT ρ) (c6:iV ρ) (c17:Jl ρ) (c19:iU ρ) (c24:Jl ρ) (c26:Jl ρ) (s:ByteArray) (p:Int) (n:Nat) (o:List Pt) (i:Int):Option ρ :=
 (AC (decide (n=n))
 (AC (decide (i<IntKind.i64.wrap ((↑n:Int).tdiv 2)))
 (AC (decide (n=n))
 (AC (decide (0≤i))
 (AC (decide (i<(↑n:Int)))
 (AC (decide (n=n))
 (AC (decide (0+i.toNat<n))
 (AC (decide (n=n))
 (AC (decide (n=n))
 (AC (decide (0≤IntKind.i64.wrap (IntKind.i64.wrap ((↑n:Int)-1)-i)))
 (AC (decide (IntKind.i64.wrap (IntKind.i64.wrap ((↑n:Int)-1)-i)<(↑n:Int)))
 (AC (decide (n=n))
 (AC (decide (0+(IntKind.i64.wrap (IntKind.i64.wrap ((↑n:Int)-1)-i)).toNat<n))
 (AC (decide (n=n))
 (AC (decide (0≤i))
 (AC (decide (i<(↑n:Int)))
 (AC (decide (n=n))
 (AC (decide (0+i.toNat<n))
 (AC (decide (n=n))
 (AC (decide (n=n))
 (AC (decide (0≤IntKind.i64.wrap (IntKind.i64.wrap ((↑n:Int)-1)-i)))
 (AC (decide (IntKind.i64.wrap (IntKind.i64.wrap ((↑n:Int)-1)-i)<(↑n:Int)))
 (AC (decide (n=n))
 (AC (decide (0+(IntKind.i64.wrap (IntKind.i64.wrap ((↑n:Int)-1)-i)).toNat<n))
 (AC (decide ((if 0+(IntKind.i64.wrap (IntKind.i64.wrap ((↑n:Int)-1)-i)).toNat=0+i.toNat then F.agg [F.int .i64 (o.getD (0+(IntKind.i64.wrap (IntKind.i64.wrap ((↑n:Int)-1)-i)).toNat) Pt.zero).x,F.int .i64 (o.getD (0+(IntKind.i64.wrap (IntKind.i64.wrap ((↑n:Int)-1)-i)).toNat) Pt.zero).y] else F.agg [F.int .i64 (o.getD (0+(IntKind.i64.wrap (IntKind.i64.wrap ((↑n:Int)-1)-i)).toNat) Pt.zero).x,F.int .i64 (o.getD (0+(IntKind.i64.wrap (IntKind.i64.wrap ((↑n:Int)-1)-i)).toNat) Pt.zero).y]).cells.length=2))
 (AC ((CO (if 0+(IntKind.i64.wrap (IntKind.i64.wrap ((↑n:Int)-1)-i)).toNat=0+i.toNat then F.agg [F.int .i64 (o.getD (0+(IntKind.i64.wrap (IntKind.i64.wrap ((↑n:Int)-1)-i)).toNat) Pt.zero).x,F.int .i64 (o.getD (0+(IntKind.i64.wrap (IntKind.i64.wrap ((↑n:Int)-1)-i)).toNat) Pt.zero).y] else F.agg [F.int .i64 (o.getD (0+(IntKind.i64.wrap (IntKind.i64.wrap ((↑n:Int)-1)-i)).toNat) Pt.zero).x,F.int .i64 (o.getD (0+(IntKind.i64.wrap (IntKind.i64.wrap ((↑n:Int)-1)-i)).toNat) Pt.zero).y]) || false)&&true)
 (c19 (s) (p) (n) (fun j ↦ if j=0+(IntKind.i64.wrap (IntKind.i64.wrap ((↑n:Int)-1)-i)).toNat then F.agg [F.int .i64 (o.getD (0+i.toNat) Pt.zero).x,F.int .i64 (o.getD (0+i.toNat) Pt.zero).y] else if j=0+i.toNat then F.agg [F.int .i64 (o.getD (0+(IntKind.i64.wrap (IntKind.i64.wrap ((↑n:Int)-1)-i)).toNat) Pt.zero).x,F.int .i64 (o.getD (0+(IntKind.i64.wrap (IntKind.i64.wrap ((↑n:Int)-1)-i)).toNat) Pt.zero).y] else F.agg [F.int .i64 (o.getD j Pt.zero).x,F.int .i64 (o.getD j Pt.zero).y]) (IntKind.i64.wrap (i+1)))
 none)
 none)
 none)
 none)
 none)
 none)
 none)
 none)
 none)
 none)
 none)
 none)
 none)
 none)
 none)
 none)
 none)
 none)
 none)
 none)
 none)
 none)
 none)
 none)
 (c24 (s) (p) (n) (fun i ↦ F.agg [F.int .i64 (o.getD i Pt.zero).x,F.int .i64 (o.getD i Pt.zero).y])))
 none)
def Z3 {ρ:Type} (ret:iT ρ) (c6:iV ρ) (c17:Jl ρ) (c19:iU ρ) (c24:Jl ρ) (c26:Jl ρ) (s:ByteArray) (p:Int) (n:Nat) (o:List Pt):Option ρ :=
 (AC (Af (AB s)&&A9 (AA (AB s)) p)
 (AC ((Ar (AA (AB s)) p 40).fst)
 (AC (decide (n=n))
 (AC (Af (AB s)&&A9 (AA (AB s)) (Ar (AA (AB s)) p 40).snd)
 (AC (Af (AB s)&&A9 (AA (AB s)) (AK (AA (AB s)) (Ar (AA (AB s)) p 40).snd (↑n:Int)).snd&&true)
 (AC (decide (n=n))
 (AC (decide (0≤(AK (AA (AB s)) (Ar (AA (AB s)) p 40).snd (↑n:Int)).fst))
 (AC (decide ((AK (AA (AB s)) (Ar (AA (AB s)) p 40).snd (↑n:Int)).fst<(↑n:Int)))
 (AC (decide (n=n))
 (AC (decide (n=n))
 (AC (decide (0+(AK (AA (AB s)) (Ar (AA (AB s)) p 40).snd (↑n:Int)).fst.toNat<n))
 (c26 (s) ((C7 [F.int .i64 (-1000000),F.int .i64 1000000] (AA (AB s)) (AK (AA (AB s)) (Ar (AA (AB s)) p 40).snd (↑n:Int)).snd).snd) (n) (fun j ↦ if j=0+(AK (AA (AB s)) (Ar (AA (AB s)) p 40).snd (↑n:Int)).fst.toNat then F.agg [F.int .i64 (RB (-1000000) 1000000 (AA (AB s)) (AK (AA (AB s)) (Ar (AA (AB s)) p 40).snd (↑n:Int)).snd).fst,F.int .i64 (o.getD (0+(AK (AA (AB s)) (Ar (AA (AB s)) p 40).snd (↑n:Int)).fst.toNat) Pt.zero).y] else F.agg [F.int .i64 (o.getD j Pt.zero).x,F.int .i64 (o.getD j Pt.zero).y]))
 none)
 none)
 none)
 none)
 none)
 none)
 none)
 none)
 none)
 (c26 (s) ((Ar (AA (AB s)) p 40).snd) (n) (fun i ↦ F.agg [F.int .i64 (o.getD i Pt.zero).x,F.int .i64 (o.getD i Pt.zero).y])))
 none)
def Zz {ρ:Type} (ret:iT ρ) (c6:iV ρ) (c17:Jl ρ) (c19:iU ρ) (c24:Jl ρ) (c26:Jl ρ) (s:ByteArray) (p:Int) (n:Nat) (o:List Pt):Option ρ :=
 (AC (Af (AB s)&&A9 (AA (AB s)) p)
 (AC ((Ar (AA (AB s)) p 40).fst)
 (AC (decide (n=n))
 (AC (decide (n=n))
 (AC (decide (n=n))
 (AC (decide ((↑(n+n):Int)*(((16:Nat):Int)+1)≤(↑BC:Int)))
 (AC (decide (n+n=n+n))
 (ret (F.agg [F.sl (n+n) fun j ↦ if j<n then F.agg [F.int .i64 (o.getD j Pt.zero).x,F.int .i64 (o.getD j Pt.zero).y] else one n (B3 0 fun i ↦ F.agg [F.int .i64 (o.getD i Pt.zero).x,F.int .i64 (o.getD i Pt.zero).y]) (j-n)]) ((Ar (AA (AB s)) p 40).snd))
 none)
 none)
 none)
 none)
 none)
 (AC (decide (n=n))
 (ret (F.agg [F.sl n fun i ↦ F.agg [F.int .i64 (o.getD i Pt.zero).x,F.int .i64 (o.getD i Pt.zero).y]]) ((Ar (AA (AB s)) p 40).snd))
 none))
 none)
mutual
def M7:Nat→(ByteArray)→(Int)→(Nat)→(Nat→F)→(Int)→(Int)→(Int)→(Int)→Option ((F) × (Int))
 | 0,_,_,_,_,_,_,_,_=>none
 | k+1,s,p,n,g,x,y,u,t=>AC (C3 (F.sl n g)) (qZ (fun rt pq=>some (rt,pq)) (M7 k) (JZ k) (JY k) (JX k) (JW k) s p n (BR (F.sl n g)) x y u t) none
 termination_by structural k=>k
def JZ:Nat→(ByteArray)→(Int)→(Nat)→(Nat→F)→Option ((F) × (Int))
 | 0,_,_,_,_=>none
 | k+1,s,p,n,g=>AC (C3 (F.sl n g)) (Z4 (fun rt pq=>some (rt,pq)) (M7 k) (JZ k) (JY k) (JX k) (JW k) s p n (BR (F.sl n g))) none
 termination_by structural k=>k
def JY:Nat→(ByteArray)→(Int)→(Nat)→(Nat→F)→(Int)→Option ((F) × (Int))
 | 0,_,_,_,_,_=>none
 | k+1,s,p,n,g,i=>AC (C3 (F.sl n g)) (VB (fun rt pq=>some (rt,pq)) (M7 k) (JZ k) (JY k) (JX k) (JW k) s p n (BR (F.sl n g)) i) none
 termination_by structural k=>k
def JX:Nat→(ByteArray)→(Int)→(Nat)→(Nat→F)→Option ((F) × (Int))
 | 0,_,_,_,_=>none
 | k+1,s,p,n,g=>AC (C3 (F.sl n g)) (Z3 (fun rt pq=>some (rt,pq)) (M7 k) (JZ k) (JY k) (JX k) (JW k) s p n (BR (F.sl n g))) none
 termination_by structural k=>k
def JW:Nat→(ByteArray)→(Int)→(Nat)→(Nat→F)→Option ((F) × (Int))
 | 0,_,_,_,_=>none
 | k+1,s,p,n,g=>AC (C3 (F.sl n g)) (Zz (fun rt pq=>some (rt,pq)) (M7 k) (JZ k) (JY k) (JX k) (JW k) s p n (BR (F.sl n g))) none
 termination_by structural k=>k
end
def T32 {ρ:Type} (ret:iT ρ) (c6:iV ρ) (c17:Jl ρ) (c19:iU ρ) (c24:Jl ρ) (c26:Jl ρ) (s:ByteArray) (p:Int):Option ρ :=
 (AC (Af (AB s)&&A9 (AA (AB s)) p&&true)
 (AC (Af (AB s)&&A9 (AA (AB s)) (AU [F.int .i64 (-6),F.int .i64 4] (AA (AB s)) p).snd&&true)
 (AC (Af (AB s)&&A9 (AA (AB s)) (AU [F.int .i64 (-6),F.int .i64 4] (AA (AB s)) (AU [F.int .i64 (-6),F.int .i64 4] (AA (AB s)) p).snd).snd&&true)
 (AC (Af (AB s)&&A9 (AA (AB s)) (AU [F.int .i64 0,F.int .i64 6] (AA (AB s)) (AU [F.int .i64 (-6),F.int .i64 4] (AA (AB s)) (AU [F.int .i64 (-6),F.int .i64 4] (AA (AB s)) p).snd).snd).snd&&true)
 (c6 (s) ((AU [F.int .i64 0,F.int .i64 6] (AA (AB s)) (AU [F.int .i64 0,F.int .i64 6] (AA (AB s)) (AU [F.int .i64 (-6),F.int .i64 4] (AA (AB s)) (AU [F.int .i64 (-6),F.int .i64 4] (AA (AB s)) p).snd).snd).snd).snd) (4) (Aj [F.agg [F.int .i64 (Ak (-6) 4 (AA (AB s)) p).fst,F.int .i64 (Ak (-6) 4 (AA (AB s)) (AU [F.int .i64 (-6),F.int .i64 4] (AA (AB s)) p).snd).fst],F.agg [F.int .i64 (IntKind.i64.wrap ((Ak (-6) 4 (AA (AB s)) p).fst+IntKind.i64.wrap (1+(Ak 0 6 (AA (AB s)) (AU [F.int .i64 (-6),F.int .i64 4] (AA (AB s)) (AU [F.int .i64 (-6),F.int .i64 4] (AA (AB s)) p).snd).snd).fst))),F.int .i64 (Ak (-6) 4 (AA (AB s)) (AU [F.int .i64 (-6),F.int .i64 4] (AA (AB s)) p).snd).fst],F.agg [F.int .i64 (IntKind.i64.wrap ((Ak (-6) 4 (AA (AB s)) p).fst+IntKind.i64.wrap (1+(Ak 0 6 (AA (AB s)) (AU [F.int .i64 (-6),F.int .i64 4] (AA (AB s)) (AU [F.int .i64 (-6),F.int .i64 4] (AA (AB s)) p).snd).snd).fst))),F.int .i64 (IntKind.i64.wrap ((Ak (-6) 4 (AA (AB s)) (AU [F.int .i64 (-6),F.int .i64 4] (AA (AB s)) p).snd).fst+IntKind.i64.wrap (1+(Ak 0 6 (AA (AB s)) (AU [F.int .i64 0,F.int .i64 6] (AA (AB s)) (AU [F.int .i64 (-6),F.int .i64 4] (AA (AB s)) (AU [F.int .i64 (-6),F.int .i64 4] (AA (AB s)) p).snd).snd).snd).fst)))],F.agg [F.int .i64 (Ak (-6) 4 (AA (AB s)) p).fst,F.int .i64 (IntKind.i64.wrap ((Ak (-6) 4 (AA (AB s)) (AU [F.int .i64 (-6),F.int .i64 4] (AA (AB s)) p).snd).fst+IntKind.i64.wrap (1+(Ak 0 6 (AA (AB s)) (AU [F.int .i64 0,F.int .i64 6] (AA (AB s)) (AU [F.int .i64 (-6),F.int .i64 4] (AA (AB s)) (AU [F.int .i64 (-6),F.int .i64 4] (AA (AB s)) p).snd).snd).snd).fst)))]]) ((Ak (-6) 4 (AA (AB s)) p).fst) ((Ak (-6) 4 (AA (AB s)) (AU [F.int .i64 (-6),F.int .i64 4] (AA (AB s)) p).snd).fst) (IntKind.i64.wrap (1+(Ak 0 6 (AA (AB s)) (AU [F.int .i64 (-6),F.int .i64 4] (AA (AB s)) (AU [F.int .i64 (-6),F.int .i64 4] (AA (AB s)) p).snd).snd).fst)) (IntKind.i64.wrap (1+(Ak 0 6 (AA (AB s)) (AU [F.int .i64 0,F.int .i64 6] (AA (AB s)) (AU [F.int .i64 (-6),F.int .i64 4] (AA (AB s)) (AU [F.int .i64 (-6),F.int .i64 4] (AA (AB s)) p).snd).snd).snd).fst)))
 none)
 none)
 none)
 none)
def G32 (k:Nat) (s:ByteArray) (p:Int):Option ((F) × (Int)):=T32 (fun rt pq=>some (rt,pq)) (M7 k) (JZ k) (JY k) (JX k) (JW k) s p
mutual
theorem t32_6:∀ (k:Nat) (s:ByteArray) (p:Int) (n:Nat) (g:Nat→F) (x:Int) (y:Int) (u:Int) (t:Int) (rt:F) (pq:Int),M7 k s p n g x y u t=some (rt,pq)→CL Tryz.prog 1 Tryz.f32.results.toList (at_ Tryz.f32 6) (Qq s p n g x y u t) (F.tup [rt,F.agg [AB s,F.int .i64 pq]])
 | 0,_,_,_,_,_,_,_,_,_,_,h=>nomatch h
 | k+1,s,p,n,g,x,y,u,t,rt,pq,h=>by
  obtain ⟨hv_g,h⟩:=AI h
  refine AY.weak (st':=S32_6v s p n (BR (F.sl n g)) x y u t) (Nx.refl _) (HLe.cons (G2.refl _) (HLe.cons (G2.refl _) (HLe.cons (G2.arr fun j hj=>X3 hv_g hj) (HLe.nil)))) ?_
  generalize BR (F.sl n g)=o at h ⊢
  refine AY.of_cut Ap Gf (T:=[(6,[0,2,3,4,5,6,7],1000),(17,[0,2,7],1000),(19,[0,2,7,8],1000),(24,[0,2,7],1000),(26,[0,2,7],1000)]) (n:=200) ?_
  refine gE (Y:=qZ (fun rt pq=>some (.ret (F.tup [rt,F.agg [AB s,F.int .i64 pq]]))) (fun s p n g x y u t=>some (.cut (at_ Tryz.f32 6) (Qq s p n g x y u t))) (fun s p n g=>some (.cut (at_ Tryz.f32 17) (L4 s p n g))) (fun s p n g i=>some (.cut (at_ Tryz.f32 19) (L3 s p n g i))) (fun s p n g=>some (.cut (at_ Tryz.f32 24) (L2 s p n g))) (fun s p n g=>some (.cut (at_ Tryz.f32 26) (L1 s p n g))) s p n o x y u t) (by kernel_rfl) ?_
  exact (gS h (fun _ h=>(gS h (fun _ h=>(gS h (fun _ h=>(gS h (fun _ h=>(gS h (fun _ h=>gC (NE k _ _ _ _ rt pq h)) gN)) gN)) gN)) (fun _ h=>(gS h (fun _ h=>gC (NE k _ _ _ _ rt pq h)) (fun _ h=>(gS h (fun _ h=>(gS h (fun _ h=>(gS h (fun _ h=>(gS h (fun _ h=>(gS h (fun _ h=>gC (NE k _ _ _ _ rt pq h)) gN)) gN)) gN)) gN)) (fun _ h=>(gS h (fun _ h=>(gS h (fun _ h=>gC (NE k _ _ _ _ rt pq h)) gN)) (fun _ h=>(gS h (fun _ h=>gC (NE k _ _ _ _ rt pq h)) (fun _ h=>gC (NE k _ _ _ _ rt pq h)))))))))))) gN)
theorem NE:∀ (k:Nat) (s:ByteArray) (p:Int) (n:Nat) (g:Nat→F) (rt:F) (pq:Int),JZ k s p n g=some (rt,pq)→CL Tryz.prog 1 Tryz.f32.results.toList (at_ Tryz.f32 17) (L4 s p n g) (F.tup [rt,F.agg [AB s,F.int .i64 pq]])
 | 0,_,_,_,_,_,_,h=>nomatch h
 | k+1,s,p,n,g,rt,pq,h=>by
  obtain ⟨hv_g,h⟩:=AI h
  refine AY.weak (st':=S32_17v s p n (BR (F.sl n g))) (Nx.refl _) (HLe.cons (G2.refl _) (HLe.cons (G2.refl _) (HLe.cons (G2.arr fun j hj=>X3 hv_g hj) (HLe.nil)))) ?_
  generalize BR (F.sl n g)=o at h ⊢
  refine AY.of_cut Ap Gf (T:=[(6,[0,2,3,4,5,6,7],1000),(17,[0,2,7],1000),(19,[0,2,7,8],1000),(24,[0,2,7],1000),(26,[0,2,7],1000)]) (n:=200) ?_
  refine gE (Y:=Z4 (fun rt pq=>some (.ret (F.tup [rt,F.agg [AB s,F.int .i64 pq]]))) (fun s p n g x y u t=>some (.cut (at_ Tryz.f32 6) (Qq s p n g x y u t))) (fun s p n g=>some (.cut (at_ Tryz.f32 17) (L4 s p n g))) (fun s p n g i=>some (.cut (at_ Tryz.f32 19) (L3 s p n g i))) (fun s p n g=>some (.cut (at_ Tryz.f32 24) (L2 s p n g))) (fun s p n g=>some (.cut (at_ Tryz.f32 26) (L1 s p n g))) s p n o) (by kernel_rfl) ?_
  exact (gS h (fun _ h=>(gS h (fun _ h=>gC (jT k _ _ _ _ _ rt pq h)) (fun _ h=>gC (jS k _ _ _ _ rt pq h)))) gN)
theorem jT:∀ (k:Nat) (s:ByteArray) (p:Int) (n:Nat) (g:Nat→F) (i:Int) (rt:F) (pq:Int),JY k s p n g i=some (rt,pq)→CL Tryz.prog 1 Tryz.f32.results.toList (at_ Tryz.f32 19) (L3 s p n g i) (F.tup [rt,F.agg [AB s,F.int .i64 pq]])
 | 0,_,_,_,_,_,_,_,h=>nomatch h
 | k+1,s,p,n,g,i,rt,pq,h=>by
  obtain ⟨hv_g,h⟩:=AI h
  refine AY.weak (st':=S32_19v s p n (BR (F.sl n g)) i) (Nx.refl _) (HLe.cons (G2.refl _) (HLe.cons (G2.refl _) (HLe.cons (G2.arr fun j hj=>X3 hv_g hj) (HLe.nil)))) ?_
  generalize BR (F.sl n g)=o at h ⊢
  refine AY.of_cut Ap Gf (T:=[(6,[0,2,3,4,5,6,7],1000),(17,[0,2,7],1000),(19,[0,2,7,8],1000),(24,[0,2,7],1000),(26,[0,2,7],1000)]) (n:=200) ?_
  refine gE (Y:=VB (fun rt pq=>some (.ret (F.tup [rt,F.agg [AB s,F.int .i64 pq]]))) (fun s p n g x y u t=>some (.cut (at_ Tryz.f32 6) (Qq s p n g x y u t))) (fun s p n g=>some (.cut (at_ Tryz.f32 17) (L4 s p n g))) (fun s p n g i=>some (.cut (at_ Tryz.f32 19) (L3 s p n g i))) (fun s p n g=>some (.cut (at_ Tryz.f32 24) (L2 s p n g))) (fun s p n g=>some (.cut (at_ Tryz.f32 26) (L1 s p n g))) s p n o i) (by kernel_rfl) ?_
  exact (gS h (fun _ h=>(gS h (fun _ h=>(gS h (fun _ h=>(gS h (fun _ h=>(gS h (fun _ h=>(gS h (fun _ h=>(gS h (fun _ h=>(gS h (fun _ h=>(gS h (fun _ h=>(gS h (fun _ h=>(gS h (fun _ h=>(gS h (fun _ h=>(gS h (fun _ h=>(gS h (fun _ h=>(gS h (fun _ h=>(gS h (fun _ h=>(gS h (fun _ h=>(gS h (fun _ h=>(gS h (fun _ h=>(gS h (fun _ h=>(gS h (fun _ h=>(gS h (fun _ h=>(gS h (fun _ h=>(gS h (fun _ h=>(gS h (fun _ h=>(gS h (fun _ h=>gC (jT k _ _ _ _ _ rt pq h)) gN)) gN)) gN)) gN)) gN)) gN)) gN)) gN)) gN)) gN)) gN)) gN)) gN)) gN)) gN)) gN)) gN)) gN)) gN)) gN)) gN)) gN)) gN)) gN)) (fun _ h=>gC (jS k _ _ _ _ rt pq h)))) gN)
theorem jS:∀ (k:Nat) (s:ByteArray) (p:Int) (n:Nat) (g:Nat→F) (rt:F) (pq:Int),JX k s p n g=some (rt,pq)→CL Tryz.prog 1 Tryz.f32.results.toList (at_ Tryz.f32 24) (L2 s p n g) (F.tup [rt,F.agg [AB s,F.int .i64 pq]])
 | 0,_,_,_,_,_,_,h=>nomatch h
 | k+1,s,p,n,g,rt,pq,h=>by
  obtain ⟨hv_g,h⟩:=AI h
  refine AY.weak (st':=S32_24v s p n (BR (F.sl n g))) (Nx.refl _) (HLe.cons (G2.refl _) (HLe.cons (G2.refl _) (HLe.cons (G2.arr fun j hj=>X3 hv_g hj) (HLe.nil)))) ?_
  generalize BR (F.sl n g)=o at h ⊢
  refine AY.of_cut Ap Gf (T:=[(6,[0,2,3,4,5,6,7],1000),(17,[0,2,7],1000),(19,[0,2,7,8],1000),(24,[0,2,7],1000),(26,[0,2,7],1000)]) (n:=200) ?_
  refine gE (Y:=Z3 (fun rt pq=>some (.ret (F.tup [rt,F.agg [AB s,F.int .i64 pq]]))) (fun s p n g x y u t=>some (.cut (at_ Tryz.f32 6) (Qq s p n g x y u t))) (fun s p n g=>some (.cut (at_ Tryz.f32 17) (L4 s p n g))) (fun s p n g i=>some (.cut (at_ Tryz.f32 19) (L3 s p n g i))) (fun s p n g=>some (.cut (at_ Tryz.f32 24) (L2 s p n g))) (fun s p n g=>some (.cut (at_ Tryz.f32 26) (L1 s p n g))) s p n o) (by kernel_rfl) ?_
  exact (gS h (fun _ h=>(gS h (fun _ h=>(gS h (fun _ h=>(gS h (fun _ h=>(gS h (fun _ h=>(gS h (fun _ h=>(gS h (fun _ h=>(gS h (fun _ h=>(gS h (fun _ h=>(gS h (fun _ h=>(gS h (fun _ h=>gC (jR k _ _ _ _ rt pq h)) gN)) gN)) gN)) gN)) gN)) gN)) gN)) gN)) gN)) (fun _ h=>gC (jR k _ _ _ _ rt pq h)))) gN)
theorem jR:∀ (k:Nat) (s:ByteArray) (p:Int) (n:Nat) (g:Nat→F) (rt:F) (pq:Int),JW k s p n g=some (rt,pq)→CL Tryz.prog 1 Tryz.f32.results.toList (at_ Tryz.f32 26) (L1 s p n g) (F.tup [rt,F.agg [AB s,F.int .i64 pq]])
 | 0,_,_,_,_,_,_,h=>nomatch h
 | k+1,s,p,n,g,rt,pq,h=>by
  obtain ⟨hv_g,h⟩:=AI h
  refine AY.weak (st':=S32_26v s p n (BR (F.sl n g))) (Nx.refl _) (HLe.cons (G2.refl _) (HLe.cons (G2.refl _) (HLe.cons (G2.arr fun j hj=>X3 hv_g hj) (HLe.nil)))) ?_
  generalize BR (F.sl n g)=o at h ⊢
  refine AY.of_cut Ap Gf (T:=[(6,[0,2,3,4,5,6,7],1000),(17,[0,2,7],1000),(19,[0,2,7,8],1000),(24,[0,2,7],1000),(26,[0,2,7],1000)]) (n:=200) ?_
  refine gE (Y:=Zz (fun rt pq=>some (.ret (F.tup [rt,F.agg [AB s,F.int .i64 pq]]))) (fun s p n g x y u t=>some (.cut (at_ Tryz.f32 6) (Qq s p n g x y u t))) (fun s p n g=>some (.cut (at_ Tryz.f32 17) (L4 s p n g))) (fun s p n g i=>some (.cut (at_ Tryz.f32 19) (L3 s p n g i))) (fun s p n g=>some (.cut (at_ Tryz.f32 24) (L2 s p n g))) (fun s p n g=>some (.cut (at_ Tryz.f32 26) (L1 s p n g))) s p n o) (by kernel_rfl) ?_
  exact (gS h (fun _ h=>(gS h (fun _ h=>(gS h (fun _ h=>(gS h (fun _ h=>(gS h (fun _ h=>(gS h (fun _ h=>(gS h (fun _ h=>gR (by cases h;rfl)) gN)) gN)) gN)) gN)) gN)) (fun _ h=>(gS h (fun _ h=>gR (by cases h;rfl)) gN)))) gN)
end
theorem t32 (k:Nat) (s:ByteArray) (p:Int) (rt:F) (pq:Int) (h:G32 k s p=some (rt,pq)):CL Tryz.prog 1 Tryz.f32.results.toList [.code (AR Tryz.f32)] (CU Tryz.f32.ntmps [U.hp 0 0] [HO.box [U.f (AB s),U.f (F.int .i64 p)]]) (F.tup [rt,F.agg [AB s,F.int .i64 pq]]):=by
 refine AY.of_run Ap Gf (T:=[(6,[0,2,3,4,5,6,7],1000),(17,[0,2,7],1000),(19,[0,2,7,8],1000),(24,[0,2,7],1000),(26,[0,2,7],1000)]) (n:=200) ?_
 refine gE (Y:=T32 (fun rt pq=>some (.ret (F.tup [rt,F.agg [AB s,F.int .i64 pq]]))) (fun s p n g x y u t=>some (.cut (at_ Tryz.f32 6) (Qq s p n g x y u t))) (fun s p n g=>some (.cut (at_ Tryz.f32 17) (L4 s p n g))) (fun s p n g i=>some (.cut (at_ Tryz.f32 19) (L3 s p n g i))) (fun s p n g=>some (.cut (at_ Tryz.f32 24) (L2 s p n g))) (fun s p n g=>some (.cut (at_ Tryz.f32 26) (L1 s p n g))) s p) (by kernel_rfl) ?_
 exact (gS h (fun _ h=>(gS h (fun _ h=>(gS h (fun _ h=>(gS h (fun _ h=>gC (t32_6 k _ _ _ _ _ _ _ _ rt pq h)) gN)) gN)) gN)) gN)
def Sm (s:ByteArray) (x:Option (F × Int)):Prop:=∃ rt q p',x=some (rt,p')∧FLe rt (C9 q)∧A9 s p'=true
theorem J3 {n:Nat} {g:Nat→F} (h:∀ j,j<n→isPt (g j)=true):C3 (.sl n g)=true:=by
 simp only [C3,Ci,List.all_eq_true,List.mem_range]
 exact h
theorem rg_leaf {n:Nat} {g:Nat→F} (h:C3 (.sl n g)=true):FLe (.agg [.sl n g]) (C9 (BR (.sl n g))):=FLe.agg ⟨(Dx h).1,trivial⟩
theorem Kl (n:Nat) (g:Nat→F):(BR (.sl n g)).length=n:=by rw [BR,MB]
theorem kM {s:ByteArray} (k:Nat) {p:Int} {n:Nat} {g:Nat→F} (hr:A9 s p=true) (hg:C3 (.sl n g)=true) (hn:n≤1000):Sm s (JW (k+1) s p n g):=by
 rw [JW,hg,AF]
 have hl:n=(BR (.sl n g)).length:=(Kl n g).symm
 generalize BR (.sl n g)=o at hl
 subst hl
 obtain ⟨_,o1⟩:=GP hr 40
 have c1:decide (((o.length+o.length:Nat):Int)*(((16:Nat):Int)+1)≤(BC:Int))=true:=by rw [DL];exact decide_eq_true (by omega)
 simp only [Zz,A3,A8,hr,c1,Bool.and_self,decide_true,AF]
 cases (Ar s p 40).1 with
 | false=>exact ⟨_,o,_,rfl,.refl _,o1⟩
 | true =>
  refine ⟨_,_,_,rfl,rg_leaf (J3 fun j hj=>?_),o1⟩
  by_cases h:j<o.length
  ·rw [if_pos h];rfl
  ·rw [if_neg h,H4 _ (show j-o.length<o.length by omega)];rfl
theorem kN {s:ByteArray} (k:Nat) {p:Int} {n:Nat} {g:Nat→F} (hr:A9 s p=true) (hg:C3 (.sl n g)=true) (h0:0<n) (hn:n≤1000):Sm s (JX (k+2) s p n g):=by
 rw [JX,hg,AF]
 have hl:n=(BR (.sl n g)).length:=(Kl n g).symm
 generalize BR (.sl n g)=o at hl
 subst hl
 obtain ⟨_,o1⟩:=GP hr 40
 obtain ⟨_,b1,b2,b3⟩:=EI o1 (o.length:Int)
 have hab:-1099511627776≤(-1000000:Int)∧(-1000000:Int)≤1000000∧(1000000:Int)≤1099511627776:=by omega
 obtain ⟨_,o2⟩:=NV b3 hab
 have c1:decide (0≤(AK s (Ar s p 40).2 (o.length:Int)).1)=true:=decide_eq_true b1
 have c2:decide ((AK s (Ar s p 40).2 (o.length:Int)).1<(o.length:Int))=true:=decide_eq_true (by omega)
 have c3:decide (0+(AK s (Ar s p 40).2 (o.length:Int)).1.toNat<o.length)=true:=decide_eq_true (by omega)
 simp only [Z3,A3,A8,hr,o1,b3,c1,c2,c3,C7,Bool.and_self,Bool.and_true,decide_true,AF]
 cases (Ar s p 40).1 with
 | false=>exact kM k o1 (J3 fun j hj=>rfl) hn
 | true =>
  refine kM k o2 (J3 fun j hj=>?_) hn
  split <;> rfl
theorem kO {s:ByteArray} {p:Int} (hr:A9 s p=true):∀ (d i k n:Nat) (g:Nat→F),i+d=n / 2→C3 (.sl n g)=true→0<n→n≤1000→Sm s (JY (k+d+3) s p n g i)
 | d,i,k,n,g,h,hg,h0,hn=>by
  have e:k+d+3=k+d+2+1:=rfl
  rw [e,JY,hg,AF]
  have hl:n=(BR (.sl n g)).length:=(Kl n g).symm
  generalize BR (.sl n g)=o at hl
  subst hl
  have w0:IntKind.i64.wrap ((o.length:Int).tdiv 2)=((o.length / 2:Nat):Int):=by
   have:(o.length:Int).tdiv 2=((o.length / 2:Nat):Int):=rfl
   rw [this,E1 (by omega) (by omega)]
  match d,h with
  | 0,h =>
   have c1:decide ((i:Int)<((o.length / 2:Nat):Int))=false:=decide_eq_false (by omega)
   simp only [VB,w0,c1,AJ,decide_true,AF]
   exact kN k hr (J3 fun j hj=>rfl) h0 hn
  | d+1,h =>
   have c1:decide ((i:Int)<((o.length / 2:Nat):Int))=true:=decide_eq_true (by omega)
   have c2:decide (0≤(i:Int))=true:=decide_eq_true (by omega)
   have c3:decide ((i:Int)<(o.length:Int))=true:=decide_eq_true (by omega)
   have c4:decide (0+i<o.length)=true:=decide_eq_true (by omega)
   have w1:IntKind.i64.wrap (IntKind.i64.wrap ((o.length:Int)-1)-(i:Int))=((o.length-1-i:Nat):Int):=by
    rw [E1 (x:=(o.length:Int)-1) (by omega) (by omega),E1 (by omega) (by omega)];omega
   have c5:decide (0≤((o.length-1-i:Nat):Int))=true:=decide_eq_true (by omega)
   have c6:decide (((o.length-1-i:Nat):Int)<(o.length:Int))=true:=decide_eq_true (by omega)
   have c7:decide (0+(o.length-1-i)<o.length)=true:=decide_eq_true (by omega)
   have w2:IntKind.i64.wrap ((i:Int)+1)=((i+1:Nat):Int):=by rw [E1 (by omega) (by omega)];omega
   have z1:∀ (c:Prop) [Decidable c] (a b a' b':F),decide ((if c then F.agg [a,b] else F.agg [a',b']).cells.length=2)=true:=fun c _ a b a' b'=>by split <;> rfl
   have z2:∀ (c:Prop) [Decidable c] (a b a' b':F),CO (if c then F.agg [a,b] else F.agg [a',b'])=true:=fun c _ a b a' b'=>by split <;> rfl
   simp only [VB,w0,w1,w2,c1,c2,c3,c4,c5,c6,c7,z1,z2,Int.toNat_natCast,decide_true,Bool.true_or,Bool.and_self,AF]
   have e2:k+(d+1)+2=k+d+3:=by omega
   rw [e2]
   refine kO hr d (i+1) k _ _ (by omega) (J3 fun j hj=>?_) h0 hn
   split
   ·rfl
   ·split <;> rfl
theorem NI {s:ByteArray} (k:Nat) {p:Int} {n:Nat} {g:Nat→F} (hr:A9 s p=true) (hg:C3 (.sl n g)=true) (h0:0<n) (hn:n≤1000):Sm s (JZ (k+n / 2+4) s p n g):=by
 have e:k+n / 2+4=k+n / 2+3+1:=rfl
 rw [e,JZ,hg,AF]
 have hl:n=(BR (.sl n g)).length:=(Kl n g).symm
 generalize BR (.sl n g)=o at hl
 subst hl
 obtain ⟨_,o1⟩:=GP hr 6
 simp only [Z4,A3,A8,hr,Bool.and_self,AF]
 cases (Ar s p 6).1 with
 | false=>exact kN (k+o.length / 2+1) o1 (J3 fun j hj=>rfl) h0 hn
 | true=>exact kO o1 (o.length / 2) 0 k _ _ (by omega) (J3 fun j hj=>rfl) h0 hn
theorem ring6 {s:ByteArray} (k:Nat) {p:Int} {g:Nat→F} {x y u t:Int} (hr:A9 s p=true) (hg:C3 (.sl 4 g)=true):Sm s (M7 (k+8) s p 4 g x y u t):=by
 have e:k+8=k+7+1:=rfl
 rw [e,M7,hg,AF]
 generalize BR (.sl 4 g)=o
 obtain ⟨_,_,_,b1⟩:=EI hr 8
 obtain ⟨_,s1⟩:=Gu b1
 obtain ⟨_,s2⟩:=Gu s1
 obtain ⟨_,s3⟩:=Gu s2
 obtain ⟨_,s4⟩:=Gu s3
 have hab:-1099511627776≤(-2:Int)∧(-2:Int)≤8∧(8:Int)≤1099511627776:=by omega
 obtain ⟨_,n1⟩:=Cy b1 hab
 simp only [qZ,A3,A8,hr,b1,s1,s2,s3,AL,AU,Bool.and_self,Bool.and_true,AF]
 have e3:k+7=k+2+3 / 2+4:=by omega
 have e4:k+7=k+1+4 / 2+4:=by omega
 have e6:k+7=k+6 / 2+4:=by omega
 cases ((AK s p 8).1==0) with
 | true =>
  rw [AF,e3]
  refine NI (k+2) s3 ?_ (by omega) (by omega)
  rfl
 | false =>
 rw [AJ]
 cases ((AK s p 8).1==1) with
 | true =>
  rw [AF,e6]
  refine NI k b1 ?_ (by omega) (by omega)
  rfl
 | false =>
 rw [AJ]
 cases ((AK s p 8).1==2) with
 | true =>
  rw [AF,e4]
  refine NI (k+1) s4 ?_ (by omega) (by omega)
  rfl
 | false =>
 rw [AJ]
 cases ((AK s p 8).1==3) with
 | true =>
  rw [AF,e3]
  refine NI (k+2) n1 ?_ (by omega) (by omega)
  rfl
 | false =>
 rw [AJ]
 cases ((AK s p 8).1==4) with
 | true =>
  rw [AF,e4]
  refine NI (k+1) b1 ?_ (by omega) (by omega)
  rfl
 | false =>
  rw [AJ,e4]
  refine NI (k+1) b1 (J3 fun j hj=>?_) (by omega) (by omega)
  rfl
theorem J0 {s:ByteArray} {p:Int} (hr:A9 s p=true):Sm s (G32 20 s p):=by
 have h1:-1099511627776≤(-6:Int)∧(-6:Int)≤4∧(4:Int)≤1099511627776:=by omega
 have h2:-1099511627776≤(0:Int)∧(0:Int)≤6∧(6:Int)≤1099511627776:=by omega
 obtain ⟨_,n1⟩:=Cy hr h1
 obtain ⟨_,n2⟩:=Cy n1 h1
 obtain ⟨_,n3⟩:=Cy n2 h2
 obtain ⟨_,n4⟩:=Cy n3 h2
 unfold G32 T32
 simp only [A3,A8,hr,n1,n2,n3,AU,Bool.and_self,Bool.and_true,AF]
 exact ring6 12 n4 rfl
def rgV (s:ByteArray) (p:Int):List Pt × Int:=@dite _ (A9 s p=true) (Classical.propDecidable _) (fun h=>(Classical.choose (Classical.choose_spec (J0 h)),Classical.choose (Classical.choose_spec (Classical.choose_spec (J0 h))))) fun _=>([],0)
theorem kP {s:ByteArray} {p:Int} (h:A9 s p=true):∃ rt,G32 20 s p=some (rt,(rgV s p).2)∧FLe rt (C9 (rgV s p).1)∧A9 s (rgV s p).2=true:=by
 have e:rgV s p=(Classical.choose (Classical.choose_spec (J0 h)),Classical.choose (Classical.choose_spec (Classical.choose_spec (J0 h)))):=@dif_pos _ (Classical.propDecidable _) h _ _ _
 rw [e]
 exact ⟨_,Classical.choose_spec (Classical.choose_spec (Classical.choose_spec (J0 h)))⟩
def Aa:List F→ByteArray→Int→F × Int:=fun _ s p=>(C9 (rgV s p).1,(rgV s p).2)
theorem okRing:EJ Tryz.prog 32 (La isNone Aa) :=
 Pr (c:=AR Tryz.f32) Tryz.func32 (by kernel_rfl) (by kernel_rfl) fun xs s p hx hr=>match xs,hx with
 | [],hx=>by
  obtain ⟨rt,e,hle,_⟩:=kP hr
  exact ⟨rt,hle,t32 20 s p rt _ e⟩
def envA7:Env:=pM.add 32 (La isNone Aa)
theorem Xm:Ax Tryz.prog envA7:=(Env.add_ok Gf okRing)
end
noncomputable section
/-! ### function 14 -/
def T14 {ρ:Type} (ret:(List F)→(Int)→Option ρ) (s:ByteArray) (p:Int):Option ρ :=
 (AC (Af (AB s)&&A9 (AA (AB s)) p&&true)
 (AC (Af (AB s)&&A9 (AA (AB s)) (Aa [] (AA (AB s)) p).snd)
 (AC ((AK (AA (AB s)) (Aa [] (AA (AB s)) p).snd 10).fst==0)
 (ret ([F.tup [F.int .i64 ((1:Nat):Int),F.sl 0 (Aj [])]]) ((AK (AA (AB s)) (Aa [] (AA (AB s)) p).snd 10).snd))
 (AC ((AK (AA (AB s)) (Aa [] (AA (AB s)) p).snd 10).fst==1)
 (AC ((AK (AA (AB s)) (Aa [] (AA (AB s)) p).snd 10).fst==1)
 (AC (Af (AB s)&&A9 (AA (AB s)) (AK (AA (AB s)) (Aa [] (AA (AB s)) p).snd 10).snd&&true)
 (AC (Af (AB s)&&A9 (AA (AB s)) (AU [F.int .i64 (-6),F.int .i64 0] (AA (AB s)) (AK (AA (AB s)) (Aa [] (AA (AB s)) p).snd 10).snd).snd&&true)
 (AC (Af (AB s)&&A9 (AA (AB s)) (AU [F.int .i64 (-6),F.int .i64 0] (AA (AB s)) (AU [F.int .i64 (-6),F.int .i64 0] (AA (AB s)) (AK (AA (AB s)) (Aa [] (AA (AB s)) p).snd 10).snd).snd).snd&&true)
 (AC (Af (AB s)&&A9 (AA (AB s)) (AU [F.int .i64 0,F.int .i64 2] (AA (AB s)) (AU [F.int .i64 (-6),F.int .i64 0] (AA (AB s)) (AU [F.int .i64 (-6),F.int .i64 0] (AA (AB s)) (AK (AA (AB s)) (Aa [] (AA (AB s)) p).snd 10).snd).snd).snd).snd)
 (AC ((Ar (AA (AB s)) (AU [F.int .i64 0,F.int .i64 2] (AA (AB s)) (AU [F.int .i64 (-6),F.int .i64 0] (AA (AB s)) (AU [F.int .i64 (-6),F.int .i64 0] (AA (AB s)) (AK (AA (AB s)) (Aa [] (AA (AB s)) p).snd 10).snd).snd).snd).snd 2).fst)
 (AC (decide ((↑(2+1):Int)*(((24:Nat):Int)+1)≤(↑BC:Int)))
 (ret ([F.tup [F.int .i64 ((1:Nat):Int),F.sl (2+1) fun j ↦ if j<2 then Aj [F.agg [F.sl 4 (Aj [F.agg [F.int .i64 (Ak (-6) 0 (AA (AB s)) (AK (AA (AB s)) (Aa [] (AA (AB s)) p).snd 10).snd).fst,F.int .i64 (Ak (-6) 0 (AA (AB s)) (AU [F.int .i64 (-6),F.int .i64 0] (AA (AB s)) (AK (AA (AB s)) (Aa [] (AA (AB s)) p).snd 10).snd).snd).fst],F.agg [F.int .i64 (IntKind.i64.wrap ((Ak (-6) 0 (AA (AB s)) (AK (AA (AB s)) (Aa [] (AA (AB s)) p).snd 10).snd).fst+7)),F.int .i64 (Ak (-6) 0 (AA (AB s)) (AU [F.int .i64 (-6),F.int .i64 0] (AA (AB s)) (AK (AA (AB s)) (Aa [] (AA (AB s)) p).snd 10).snd).snd).fst],F.agg [F.int .i64 (IntKind.i64.wrap ((Ak (-6) 0 (AA (AB s)) (AK (AA (AB s)) (Aa [] (AA (AB s)) p).snd 10).snd).fst+7)),F.int .i64 (IntKind.i64.wrap ((Ak (-6) 0 (AA (AB s)) (AU [F.int .i64 (-6),F.int .i64 0] (AA (AB s)) (AK (AA (AB s)) (Aa [] (AA (AB s)) p).snd 10).snd).snd).fst+7))],F.agg [F.int .i64 (Ak (-6) 0 (AA (AB s)) (AK (AA (AB s)) (Aa [] (AA (AB s)) p).snd 10).snd).fst,F.int .i64 (IntKind.i64.wrap ((Ak (-6) 0 (AA (AB s)) (AU [F.int .i64 (-6),F.int .i64 0] (AA (AB s)) (AK (AA (AB s)) (Aa [] (AA (AB s)) p).snd 10).snd).snd).fst+7))]])],F.agg [F.sl 4 (Aj [F.agg [F.int .i64 (IntKind.i64.wrap ((Ak (-6) 0 (AA (AB s)) (AK (AA (AB s)) (Aa [] (AA (AB s)) p).snd 10).snd).fst+1)),F.int .i64 (IntKind.i64.wrap ((Ak (-6) 0 (AA (AB s)) (AU [F.int .i64 (-6),F.int .i64 0] (AA (AB s)) (AK (AA (AB s)) (Aa [] (AA (AB s)) p).snd 10).snd).snd).fst+1))],F.agg [F.int .i64 (IntKind.i64.wrap ((Ak (-6) 0 (AA (AB s)) (AK (AA (AB s)) (Aa [] (AA (AB s)) p).snd 10).snd).fst+1)),F.int .i64 (IntKind.i64.wrap ((Ak (-6) 0 (AA (AB s)) (AU [F.int .i64 (-6),F.int .i64 0] (AA (AB s)) (AK (AA (AB s)) (Aa [] (AA (AB s)) p).snd 10).snd).snd).fst+5))],F.agg [F.int .i64 (IntKind.i64.wrap ((Ak (-6) 0 (AA (AB s)) (AK (AA (AB s)) (Aa [] (AA (AB s)) p).snd 10).snd).fst+5)),F.int .i64 (IntKind.i64.wrap ((Ak (-6) 0 (AA (AB s)) (AU [F.int .i64 (-6),F.int .i64 0] (AA (AB s)) (AK (AA (AB s)) (Aa [] (AA (AB s)) p).snd 10).snd).snd).fst+5))],F.agg [F.int .i64 (IntKind.i64.wrap (IntKind.i64.wrap ((Ak (-6) 0 (AA (AB s)) (AK (AA (AB s)) (Aa [] (AA (AB s)) p).snd 10).snd).fst+5)-(Ak 0 2 (AA (AB s)) (AU [F.int .i64 (-6),F.int .i64 0] (AA (AB s)) (AU [F.int .i64 (-6),F.int .i64 0] (AA (AB s)) (AK (AA (AB s)) (Aa [] (AA (AB s)) p).snd 10).snd).snd).snd).fst)),F.int .i64 (IntKind.i64.wrap ((Ak (-6) 0 (AA (AB s)) (AU [F.int .i64 (-6),F.int .i64 0] (AA (AB s)) (AK (AA (AB s)) (Aa [] (AA (AB s)) p).snd 10).snd).snd).fst+1))]])]] j else F.agg [F.sl 3 (Aj [F.agg [F.int .i64 (IntKind.i64.wrap ((Ak (-6) 0 (AA (AB s)) (AK (AA (AB s)) (Aa [] (AA (AB s)) p).snd 10).snd).fst+2)),F.int .i64 (IntKind.i64.wrap ((Ak (-6) 0 (AA (AB s)) (AU [F.int .i64 (-6),F.int .i64 0] (AA (AB s)) (AK (AA (AB s)) (Aa [] (AA (AB s)) p).snd 10).snd).snd).fst+2))],F.agg [F.int .i64 (IntKind.i64.wrap ((Ak (-6) 0 (AA (AB s)) (AK (AA (AB s)) (Aa [] (AA (AB s)) p).snd 10).snd).fst+3)),F.int .i64 (IntKind.i64.wrap ((Ak (-6) 0 (AA (AB s)) (AU [F.int .i64 (-6),F.int .i64 0] (AA (AB s)) (AK (AA (AB s)) (Aa [] (AA (AB s)) p).snd 10).snd).snd).fst+2))],F.agg [F.int .i64 (IntKind.i64.wrap ((Ak (-6) 0 (AA (AB s)) (AK (AA (AB s)) (Aa [] (AA (AB s)) p).snd 10).snd).fst+2)),F.int .i64 (IntKind.i64.wrap ((Ak (-6) 0 (AA (AB s)) (AU [F.int .i64 (-6),F.int .i64 0] (AA (AB s)) (AK (AA (AB s)) (Aa [] (AA (AB s)) p).snd 10).snd).snd).fst+3))]])]]]) ((Ar (AA (AB s)) (AU [F.int .i64 0,F.int .i64 2] (AA (AB s)) (AU [F.int .i64 (-6),F.int .i64 0] (AA (AB s)) (AU [F.int .i64 (-6),F.int .i64 0] (AA (AB s)) (AK (AA (AB s)) (Aa [] (AA (AB s)) p).snd 10).snd).snd).snd).snd 2).snd))
 none)
 (ret ([F.tup [F.int .i64 ((1:Nat):Int),F.sl 2 (Aj [F.agg [F.sl 4 (Aj [F.agg [F.int .i64 (Ak (-6) 0 (AA (AB s)) (AK (AA (AB s)) (Aa [] (AA (AB s)) p).snd 10).snd).fst,F.int .i64 (Ak (-6) 0 (AA (AB s)) (AU [F.int .i64 (-6),F.int .i64 0] (AA (AB s)) (AK (AA (AB s)) (Aa [] (AA (AB s)) p).snd 10).snd).snd).fst],F.agg [F.int .i64 (IntKind.i64.wrap ((Ak (-6) 0 (AA (AB s)) (AK (AA (AB s)) (Aa [] (AA (AB s)) p).snd 10).snd).fst+7)),F.int .i64 (Ak (-6) 0 (AA (AB s)) (AU [F.int .i64 (-6),F.int .i64 0] (AA (AB s)) (AK (AA (AB s)) (Aa [] (AA (AB s)) p).snd 10).snd).snd).fst],F.agg [F.int .i64 (IntKind.i64.wrap ((Ak (-6) 0 (AA (AB s)) (AK (AA (AB s)) (Aa [] (AA (AB s)) p).snd 10).snd).fst+7)),F.int .i64 (IntKind.i64.wrap ((Ak (-6) 0 (AA (AB s)) (AU [F.int .i64 (-6),F.int .i64 0] (AA (AB s)) (AK (AA (AB s)) (Aa [] (AA (AB s)) p).snd 10).snd).snd).fst+7))],F.agg [F.int .i64 (Ak (-6) 0 (AA (AB s)) (AK (AA (AB s)) (Aa [] (AA (AB s)) p).snd 10).snd).fst,F.int .i64 (IntKind.i64.wrap ((Ak (-6) 0 (AA (AB s)) (AU [F.int .i64 (-6),F.int .i64 0] (AA (AB s)) (AK (AA (AB s)) (Aa [] (AA (AB s)) p).snd 10).snd).snd).fst+7))]])],F.agg [F.sl 4 (Aj [F.agg [F.int .i64 (IntKind.i64.wrap ((Ak (-6) 0 (AA (AB s)) (AK (AA (AB s)) (Aa [] (AA (AB s)) p).snd 10).snd).fst+1)),F.int .i64 (IntKind.i64.wrap ((Ak (-6) 0 (AA (AB s)) (AU [F.int .i64 (-6),F.int .i64 0] (AA (AB s)) (AK (AA (AB s)) (Aa [] (AA (AB s)) p).snd 10).snd).snd).fst+1))],F.agg [F.int .i64 (IntKind.i64.wrap ((Ak (-6) 0 (AA (AB s)) (AK (AA (AB s)) (Aa [] (AA (AB s)) p).snd 10).snd).fst+1)),F.int .i64 (IntKind.i64.wrap ((Ak (-6) 0 (AA (AB s)) (AU [F.int .i64 (-6),F.int .i64 0] (AA (AB s)) (AK (AA (AB s)) (Aa [] (AA (AB s)) p).snd 10).snd).snd).fst+5))],F.agg [F.int .i64 (IntKind.i64.wrap ((Ak (-6) 0 (AA (AB s)) (AK (AA (AB s)) (Aa [] (AA (AB s)) p).snd 10).snd).fst+5)),F.int .i64 (IntKind.i64.wrap ((Ak (-6) 0 (AA (AB s)) (AU [F.int .i64 (-6),F.int .i64 0] (AA (AB s)) (AK (AA (AB s)) (Aa [] (AA (AB s)) p).snd 10).snd).snd).fst+5))],F.agg [F.int .i64 (IntKind.i64.wrap (IntKind.i64.wrap ((Ak (-6) 0 (AA (AB s)) (AK (AA (AB s)) (Aa [] (AA (AB s)) p).snd 10).snd).fst+5)-(Ak 0 2 (AA (AB s)) (AU [F.int .i64 (-6),F.int .i64 0] (AA (AB s)) (AU [F.int .i64 (-6),F.int .i64 0] (AA (AB s)) (AK (AA (AB s)) (Aa [] (AA (AB s)) p).snd 10).snd).snd).snd).fst)),F.int .i64 (IntKind.i64.wrap ((Ak (-6) 0 (AA (AB s)) (AU [F.int .i64 (-6),F.int .i64 0] (AA (AB s)) (AK (AA (AB s)) (Aa [] (AA (AB s)) p).snd 10).snd).snd).fst+1))]])]])]]) ((Ar (AA (AB s)) (AU [F.int .i64 0,F.int .i64 2] (AA (AB s)) (AU [F.int .i64 (-6),F.int .i64 0] (AA (AB s)) (AU [F.int .i64 (-6),F.int .i64 0] (AA (AB s)) (AK (AA (AB s)) (Aa [] (AA (AB s)) p).snd 10).snd).snd).snd).snd 2).snd)))
 none)
 none)
 none)
 none)
 (AC ((AK (AA (AB s)) (Aa [] (AA (AB s)) p).snd 10).fst==3)
 (AC (Af (AB s)&&A9 (AA (AB s)) (AK (AA (AB s)) (Aa [] (AA (AB s)) p).snd 10).snd&&true)
 (AC (decide ((↑(1+1):Int)*(((24:Nat):Int)+1)≤(↑BC:Int)))
 (ret ([F.tup [F.int .i64 ((1:Nat):Int),F.sl (1+1) fun j ↦ if j<1 then Aj [F.agg [Am (rgV (AA (AB s)) p).fst]] j else F.agg [Am (rgV (AA (AB s)) (AK (AA (AB s)) (Aa [] (AA (AB s)) p).snd 10).snd).fst]]]) ((Aa [] (AA (AB s)) (AK (AA (AB s)) (Aa [] (AA (AB s)) p).snd 10).snd).snd))
 none)
 none)
 (AC ((AK (AA (AB s)) (Aa [] (AA (AB s)) p).snd 10).fst==4)
 (AC (Af (AB s)&&A9 (AA (AB s)) (AK (AA (AB s)) (Aa [] (AA (AB s)) p).snd 10).snd&&true)
 (AC (decide ((↑(1+1):Int)*(((24:Nat):Int)+1)≤(↑BC:Int)))
 (ret ([F.tup [F.int .i64 ((1:Nat):Int),F.sl (1+1) fun j ↦ if j<1 then Aj [F.agg [Am (rgV (AA (AB s)) p).fst]] j else F.agg [F.sl 3 (Aj [F.agg [F.int .i64 (Ak 12 14 (AA (AB s)) (AK (AA (AB s)) (Aa [] (AA (AB s)) p).snd 10).snd).fst,F.int .i64 0],F.agg [F.int .i64 (IntKind.i64.wrap ((Ak 12 14 (AA (AB s)) (AK (AA (AB s)) (Aa [] (AA (AB s)) p).snd 10).snd).fst+2)),F.int .i64 0],F.agg [F.int .i64 (Ak 12 14 (AA (AB s)) (AK (AA (AB s)) (Aa [] (AA (AB s)) p).snd 10).snd).fst,F.int .i64 3]])]]]) ((AU [F.int .i64 12,F.int .i64 14] (AA (AB s)) (AK (AA (AB s)) (Aa [] (AA (AB s)) p).snd 10).snd).snd))
 none)
 none)
 (ret ([F.tup [F.int .i64 ((1:Nat):Int),F.sl 1 (Aj [F.agg [Am (rgV (AA (AB s)) p).fst]])]]) ((AK (AA (AB s)) (Aa [] (AA (AB s)) p).snd 10).snd)))))
 (AC ((AK (AA (AB s)) (Aa [] (AA (AB s)) p).snd 10).fst==2)
 (AC (Af (AB s)&&A9 (AA (AB s)) (AK (AA (AB s)) (Aa [] (AA (AB s)) p).snd 10).snd&&true)
 (AC (Af (AB s)&&A9 (AA (AB s)) (AU [F.int .i64 (-6),F.int .i64 0] (AA (AB s)) (AK (AA (AB s)) (Aa [] (AA (AB s)) p).snd 10).snd).snd&&true)
 (AC (Af (AB s)&&A9 (AA (AB s)) (AU [F.int .i64 (-6),F.int .i64 0] (AA (AB s)) (AU [F.int .i64 (-6),F.int .i64 0] (AA (AB s)) (AK (AA (AB s)) (Aa [] (AA (AB s)) p).snd 10).snd).snd).snd&&true)
 (AC (Af (AB s)&&A9 (AA (AB s)) (AU [F.int .i64 0,F.int .i64 2] (AA (AB s)) (AU [F.int .i64 (-6),F.int .i64 0] (AA (AB s)) (AU [F.int .i64 (-6),F.int .i64 0] (AA (AB s)) (AK (AA (AB s)) (Aa [] (AA (AB s)) p).snd 10).snd).snd).snd).snd)
 (AC ((Ar (AA (AB s)) (AU [F.int .i64 0,F.int .i64 2] (AA (AB s)) (AU [F.int .i64 (-6),F.int .i64 0] (AA (AB s)) (AU [F.int .i64 (-6),F.int .i64 0] (AA (AB s)) (AK (AA (AB s)) (Aa [] (AA (AB s)) p).snd 10).snd).snd).snd).snd 2).fst)
 (AC (decide ((↑(2+1):Int)*(((24:Nat):Int)+1)≤(↑BC:Int)))
 (ret ([F.tup [F.int .i64 ((1:Nat):Int),F.sl (2+1) fun j ↦ if j<2 then Aj [F.agg [F.sl 4 (Aj [F.agg [F.int .i64 (Ak (-6) 0 (AA (AB s)) (AK (AA (AB s)) (Aa [] (AA (AB s)) p).snd 10).snd).fst,F.int .i64 (Ak (-6) 0 (AA (AB s)) (AU [F.int .i64 (-6),F.int .i64 0] (AA (AB s)) (AK (AA (AB s)) (Aa [] (AA (AB s)) p).snd 10).snd).snd).fst],F.agg [F.int .i64 (IntKind.i64.wrap ((Ak (-6) 0 (AA (AB s)) (AK (AA (AB s)) (Aa [] (AA (AB s)) p).snd 10).snd).fst+7)),F.int .i64 (Ak (-6) 0 (AA (AB s)) (AU [F.int .i64 (-6),F.int .i64 0] (AA (AB s)) (AK (AA (AB s)) (Aa [] (AA (AB s)) p).snd 10).snd).snd).fst],F.agg [F.int .i64 (IntKind.i64.wrap ((Ak (-6) 0 (AA (AB s)) (AK (AA (AB s)) (Aa [] (AA (AB s)) p).snd 10).snd).fst+7)),F.int .i64 (IntKind.i64.wrap ((Ak (-6) 0 (AA (AB s)) (AU [F.int .i64 (-6),F.int .i64 0] (AA (AB s)) (AK (AA (AB s)) (Aa [] (AA (AB s)) p).snd 10).snd).snd).fst+7))],F.agg [F.int .i64 (Ak (-6) 0 (AA (AB s)) (AK (AA (AB s)) (Aa [] (AA (AB s)) p).snd 10).snd).fst,F.int .i64 (IntKind.i64.wrap ((Ak (-6) 0 (AA (AB s)) (AU [F.int .i64 (-6),F.int .i64 0] (AA (AB s)) (AK (AA (AB s)) (Aa [] (AA (AB s)) p).snd 10).snd).snd).fst+7))]])],F.agg [F.sl 4 (Aj [F.agg [F.int .i64 (IntKind.i64.wrap ((Ak (-6) 0 (AA (AB s)) (AK (AA (AB s)) (Aa [] (AA (AB s)) p).snd 10).snd).fst+1)),F.int .i64 (IntKind.i64.wrap ((Ak (-6) 0 (AA (AB s)) (AU [F.int .i64 (-6),F.int .i64 0] (AA (AB s)) (AK (AA (AB s)) (Aa [] (AA (AB s)) p).snd 10).snd).snd).fst+1))],F.agg [F.int .i64 (IntKind.i64.wrap ((Ak (-6) 0 (AA (AB s)) (AK (AA (AB s)) (Aa [] (AA (AB s)) p).snd 10).snd).fst+1)),F.int .i64 (IntKind.i64.wrap ((Ak (-6) 0 (AA (AB s)) (AU [F.int .i64 (-6),F.int .i64 0] (AA (AB s)) (AK (AA (AB s)) (Aa [] (AA (AB s)) p).snd 10).snd).snd).fst+5))],F.agg [F.int .i64 (IntKind.i64.wrap ((Ak (-6) 0 (AA (AB s)) (AK (AA (AB s)) (Aa [] (AA (AB s)) p).snd 10).snd).fst+5)),F.int .i64 (IntKind.i64.wrap ((Ak (-6) 0 (AA (AB s)) (AU [F.int .i64 (-6),F.int .i64 0] (AA (AB s)) (AK (AA (AB s)) (Aa [] (AA (AB s)) p).snd 10).snd).snd).fst+5))],F.agg [F.int .i64 (IntKind.i64.wrap (IntKind.i64.wrap ((Ak (-6) 0 (AA (AB s)) (AK (AA (AB s)) (Aa [] (AA (AB s)) p).snd 10).snd).fst+5)-(Ak 0 2 (AA (AB s)) (AU [F.int .i64 (-6),F.int .i64 0] (AA (AB s)) (AU [F.int .i64 (-6),F.int .i64 0] (AA (AB s)) (AK (AA (AB s)) (Aa [] (AA (AB s)) p).snd 10).snd).snd).snd).fst)),F.int .i64 (IntKind.i64.wrap ((Ak (-6) 0 (AA (AB s)) (AU [F.int .i64 (-6),F.int .i64 0] (AA (AB s)) (AK (AA (AB s)) (Aa [] (AA (AB s)) p).snd 10).snd).snd).fst+1))]])]] j else F.agg [F.sl 3 (Aj [F.agg [F.int .i64 (IntKind.i64.wrap ((Ak (-6) 0 (AA (AB s)) (AK (AA (AB s)) (Aa [] (AA (AB s)) p).snd 10).snd).fst+2)),F.int .i64 (IntKind.i64.wrap ((Ak (-6) 0 (AA (AB s)) (AU [F.int .i64 (-6),F.int .i64 0] (AA (AB s)) (AK (AA (AB s)) (Aa [] (AA (AB s)) p).snd 10).snd).snd).fst+2))],F.agg [F.int .i64 (IntKind.i64.wrap ((Ak (-6) 0 (AA (AB s)) (AK (AA (AB s)) (Aa [] (AA (AB s)) p).snd 10).snd).fst+3)),F.int .i64 (IntKind.i64.wrap ((Ak (-6) 0 (AA (AB s)) (AU [F.int .i64 (-6),F.int .i64 0] (AA (AB s)) (AK (AA (AB s)) (Aa [] (AA (AB s)) p).snd 10).snd).snd).fst+2))],F.agg [F.int .i64 (IntKind.i64.wrap ((Ak (-6) 0 (AA (AB s)) (AK (AA (AB s)) (Aa [] (AA (AB s)) p).snd 10).snd).fst+2)),F.int .i64 (IntKind.i64.wrap ((Ak (-6) 0 (AA (AB s)) (AU [F.int .i64 (-6),F.int .i64 0] (AA (AB s)) (AK (AA (AB s)) (Aa [] (AA (AB s)) p).snd 10).snd).snd).fst+3))]])]]]) ((Ar (AA (AB s)) (AU [F.int .i64 0,F.int .i64 2] (AA (AB s)) (AU [F.int .i64 (-6),F.int .i64 0] (AA (AB s)) (AU [F.int .i64 (-6),F.int .i64 0] (AA (AB s)) (AK (AA (AB s)) (Aa [] (AA (AB s)) p).snd 10).snd).snd).snd).snd 2).snd))
 none)
 (ret ([F.tup [F.int .i64 ((1:Nat):Int),F.sl 2 (Aj [F.agg [F.sl 4 (Aj [F.agg [F.int .i64 (Ak (-6) 0 (AA (AB s)) (AK (AA (AB s)) (Aa [] (AA (AB s)) p).snd 10).snd).fst,F.int .i64 (Ak (-6) 0 (AA (AB s)) (AU [F.int .i64 (-6),F.int .i64 0] (AA (AB s)) (AK (AA (AB s)) (Aa [] (AA (AB s)) p).snd 10).snd).snd).fst],F.agg [F.int .i64 (IntKind.i64.wrap ((Ak (-6) 0 (AA (AB s)) (AK (AA (AB s)) (Aa [] (AA (AB s)) p).snd 10).snd).fst+7)),F.int .i64 (Ak (-6) 0 (AA (AB s)) (AU [F.int .i64 (-6),F.int .i64 0] (AA (AB s)) (AK (AA (AB s)) (Aa [] (AA (AB s)) p).snd 10).snd).snd).fst],F.agg [F.int .i64 (IntKind.i64.wrap ((Ak (-6) 0 (AA (AB s)) (AK (AA (AB s)) (Aa [] (AA (AB s)) p).snd 10).snd).fst+7)),F.int .i64 (IntKind.i64.wrap ((Ak (-6) 0 (AA (AB s)) (AU [F.int .i64 (-6),F.int .i64 0] (AA (AB s)) (AK (AA (AB s)) (Aa [] (AA (AB s)) p).snd 10).snd).snd).fst+7))],F.agg [F.int .i64 (Ak (-6) 0 (AA (AB s)) (AK (AA (AB s)) (Aa [] (AA (AB s)) p).snd 10).snd).fst,F.int .i64 (IntKind.i64.wrap ((Ak (-6) 0 (AA (AB s)) (AU [F.int .i64 (-6),F.int .i64 0] (AA (AB s)) (AK (AA (AB s)) (Aa [] (AA (AB s)) p).snd 10).snd).snd).fst+7))]])],F.agg [F.sl 4 (Aj [F.agg [F.int .i64 (IntKind.i64.wrap ((Ak (-6) 0 (AA (AB s)) (AK (AA (AB s)) (Aa [] (AA (AB s)) p).snd 10).snd).fst+1)),F.int .i64 (IntKind.i64.wrap ((Ak (-6) 0 (AA (AB s)) (AU [F.int .i64 (-6),F.int .i64 0] (AA (AB s)) (AK (AA (AB s)) (Aa [] (AA (AB s)) p).snd 10).snd).snd).fst+1))],F.agg [F.int .i64 (IntKind.i64.wrap ((Ak (-6) 0 (AA (AB s)) (AK (AA (AB s)) (Aa [] (AA (AB s)) p).snd 10).snd).fst+1)),F.int .i64 (IntKind.i64.wrap ((Ak (-6) 0 (AA (AB s)) (AU [F.int .i64 (-6),F.int .i64 0] (AA (AB s)) (AK (AA (AB s)) (Aa [] (AA (AB s)) p).snd 10).snd).snd).fst+5))],F.agg [F.int .i64 (IntKind.i64.wrap ((Ak (-6) 0 (AA (AB s)) (AK (AA (AB s)) (Aa [] (AA (AB s)) p).snd 10).snd).fst+5)),F.int .i64 (IntKind.i64.wrap ((Ak (-6) 0 (AA (AB s)) (AU [F.int .i64 (-6),F.int .i64 0] (AA (AB s)) (AK (AA (AB s)) (Aa [] (AA (AB s)) p).snd 10).snd).snd).fst+5))],F.agg [F.int .i64 (IntKind.i64.wrap (IntKind.i64.wrap ((Ak (-6) 0 (AA (AB s)) (AK (AA (AB s)) (Aa [] (AA (AB s)) p).snd 10).snd).fst+5)-(Ak 0 2 (AA (AB s)) (AU [F.int .i64 (-6),F.int .i64 0] (AA (AB s)) (AU [F.int .i64 (-6),F.int .i64 0] (AA (AB s)) (AK (AA (AB s)) (Aa [] (AA (AB s)) p).snd 10).snd).snd).snd).fst)),F.int .i64 (IntKind.i64.wrap ((Ak (-6) 0 (AA (AB s)) (AU [F.int .i64 (-6),F.int .i64 0] (AA (AB s)) (AK (AA (AB s)) (Aa [] (AA (AB s)) p).snd 10).snd).snd).fst+1))]])]])]]) ((Ar (AA (AB s)) (AU [F.int .i64 0,F.int .i64 2] (AA (AB s)) (AU [F.int .i64 (-6),F.int .i64 0] (AA (AB s)) (AU [F.int .i64 (-6),F.int .i64 0] (AA (AB s)) (AK (AA (AB s)) (Aa [] (AA (AB s)) p).snd 10).snd).snd).snd).snd 2).snd)))
 none)
 none)
 none)
 none)
 (AC ((AK (AA (AB s)) (Aa [] (AA (AB s)) p).snd 10).fst==3)
 (AC (Af (AB s)&&A9 (AA (AB s)) (AK (AA (AB s)) (Aa [] (AA (AB s)) p).snd 10).snd&&true)
 (AC (decide ((↑(1+1):Int)*(((24:Nat):Int)+1)≤(↑BC:Int)))
 (ret ([F.tup [F.int .i64 ((1:Nat):Int),F.sl (1+1) fun j ↦ if j<1 then Aj [F.agg [Am (rgV (AA (AB s)) p).fst]] j else F.agg [Am (rgV (AA (AB s)) (AK (AA (AB s)) (Aa [] (AA (AB s)) p).snd 10).snd).fst]]]) ((Aa [] (AA (AB s)) (AK (AA (AB s)) (Aa [] (AA (AB s)) p).snd 10).snd).snd))
 none)
 none)
 (AC ((AK (AA (AB s)) (Aa [] (AA (AB s)) p).snd 10).fst==4)
 (AC (Af (AB s)&&A9 (AA (AB s)) (AK (AA (AB s)) (Aa [] (AA (AB s)) p).snd 10).snd&&true)
 (AC (decide ((↑(1+1):Int)*(((24:Nat):Int)+1)≤(↑BC:Int)))
 (ret ([F.tup [F.int .i64 ((1:Nat):Int),F.sl (1+1) fun j ↦ if j<1 then Aj [F.agg [Am (rgV (AA (AB s)) p).fst]] j else F.agg [F.sl 3 (Aj [F.agg [F.int .i64 (Ak 12 14 (AA (AB s)) (AK (AA (AB s)) (Aa [] (AA (AB s)) p).snd 10).snd).fst,F.int .i64 0],F.agg [F.int .i64 (IntKind.i64.wrap ((Ak 12 14 (AA (AB s)) (AK (AA (AB s)) (Aa [] (AA (AB s)) p).snd 10).snd).fst+2)),F.int .i64 0],F.agg [F.int .i64 (Ak 12 14 (AA (AB s)) (AK (AA (AB s)) (Aa [] (AA (AB s)) p).snd 10).snd).fst,F.int .i64 3]])]]]) ((AU [F.int .i64 12,F.int .i64 14] (AA (AB s)) (AK (AA (AB s)) (Aa [] (AA (AB s)) p).snd 10).snd).snd))
 none)
 none)
 (ret ([F.tup [F.int .i64 ((1:Nat):Int),F.sl 1 (Aj [F.agg [Am (rgV (AA (AB s)) p).fst]])]]) ((AK (AA (AB s)) (Aa [] (AA (AB s)) p).snd 10).snd)))))))
 none)
 none)
def G14 (s:ByteArray) (p:Int):Option ((List F) × (Int)):=T14 (fun rt pq=>some (rt,pq)) s p
theorem t14 (s:ByteArray) (p:Int) (rt:List F) (pq:Int) (h:G14 s p=some (rt,pq)):CL Tryz.prog 1 (ResultVar.tmp 1000003 :: Go.Proofs.Tryz.f14.results.toList) [.code (AR Tryz.f14)] (CU Tryz.f14.ntmps [U.hp 0 0] [HO.box [U.f (AB s),U.f (F.int .i64 p)]]) (F.tup [F.tup rt,F.agg [AB s,F.int .i64 pq]]):=by
 refine AY.of_run Ap Xm (T:=[]) (n:=200) ?_
 refine gE (Y:=T14 (fun rt pq=>some (.ret (F.tup [F.tup rt,F.agg [AB s,F.int .i64 pq]]))) s p) (by kernel_rfl) ?_
 exact (gS h (fun _ h=>(gS h (fun _ h=>(gS h (fun _ h=>gR (by cases h;rfl)) (fun _ h=>(gS h (fun _ h=>(gS h (fun _ h=>(gS h (fun _ h=>(gS h (fun _ h=>(gS h (fun _ h=>(gS h (fun _ h=>(gS h (fun _ h=>(gS h (fun _ h=>gR (by cases h;rfl)) gN)) (fun _ h=>gR (by cases h;rfl)))) gN)) gN)) gN)) gN)) (fun _ h=>(gS h (fun _ h=>(gS h (fun _ h=>(gS h (fun _ h=>gR (by cases h;rfl)) gN)) gN)) (fun _ h=>(gS h (fun _ h=>(gS h (fun _ h=>(gS h (fun _ h=>gR (by cases h;rfl)) gN)) gN)) (fun _ h=>gR (by cases h;rfl)))))))) (fun _ h=>(gS h (fun _ h=>(gS h (fun _ h=>(gS h (fun _ h=>(gS h (fun _ h=>(gS h (fun _ h=>(gS h (fun _ h=>(gS h (fun _ h=>gR (by cases h;rfl)) gN)) (fun _ h=>gR (by cases h;rfl)))) gN)) gN)) gN)) gN)) (fun _ h=>(gS h (fun _ h=>(gS h (fun _ h=>(gS h (fun _ h=>gR (by cases h;rfl)) gN)) gN)) (fun _ h=>(gS h (fun _ h=>(gS h (fun _ h=>(gS h (fun _ h=>gR (by cases h;rfl)) gN)) gN)) (fun _ h=>gR (by cases h;rfl)))))))))))) gN)) gN)
def LyRes (s:ByteArray) (x:Option (List F × Int)):Prop:=∃ (n:Nat) (g:Nat→F) (p':Int),x=some ([.tup [.int .i64 ((1:Nat):Int),.sl n g]],p')∧B2 (.sl n g)=true∧A9 s p'=true∧n≤3
theorem HK {n:Nat} {g:Nat→F} (h:∀ j,j<n→B4 (g j)=true):B2 (.sl n g)=true:=by
 simp only [B2,Ci,List.all_eq_true,List.mem_range]
 exact h
theorem GB {s:ByteArray} {p:Int} (hr:A9 s p=true):LyRes s (G14 s p):=by
 have h1:-1099511627776≤(-6:Int)∧(-6:Int)≤0∧(0:Int)≤1099511627776:=by omega
 have h2:-1099511627776≤(0:Int)∧(0:Int)≤2∧(2:Int)≤1099511627776:=by omega
 have h3:-1099511627776≤(12:Int)∧(12:Int)≤14∧(14:Int)≤1099511627776:=by omega
 obtain ⟨_,_,_,r1⟩:=kP hr
 obtain ⟨_,_,_,b1⟩:=EI r1 10
 obtain ⟨_,n1⟩:=Cy b1 h1
 obtain ⟨_,n2⟩:=Cy n1 h1
 obtain ⟨_,n3⟩:=Cy n2 h2
 obtain ⟨_,o3⟩:=GP n3 2
 obtain ⟨_,f1⟩:=Cy b1 h3
 obtain ⟨_,_,_,r2⟩:=kP b1
 have l3:decide ((2+1:Int)*(((24:Nat):Int)+1)≤(BC:Int))=true:=by rw [DL];exact decide_eq_true (by omega)
 have l2:decide ((1+1:Int)*(((24:Nat):Int)+1)≤(BC:Int))=true:=by rw [DL];exact decide_eq_true (by omega)
 unfold G14 T14
 simp only [A3,A8,hr,r1,b1,n1,n2,n3,l2,l3,Aa,AU,Bool.and_self,Bool.and_true,AF]
 generalize hx:rgV s (AK s (rgV s p).2 10).2=x2 at r2
 obtain ⟨q2,p2⟩:=x2
 generalize (Ar s (Ak 0 2 s (Ak (-6) 0 s (Ak (-6) 0 s (AK s (rgV s p).2 10).2).2).2).2 2)=o at o3
 obtain ⟨ob,p3⟩:=o
 simp only at o3 r2 ⊢
 cases ((AK s (rgV s p).2 10).1==0) with
 | true =>
  rw [AF]
  exact ⟨0,_,_,rfl,rfl,b1,by omega⟩
 | false =>
 rw [AJ]
 cases ((AK s (rgV s p).2 10).1==1) with
 | true =>
  simp only [AF]
  cases ob with
  | true =>
   rw [AF]
   refine ⟨3,_,_,rfl,HK fun j hj=>?_,o3,by omega⟩
   match j,hj with
   | 0,_=>rfl
   | 1,_=>rfl
   | 2,_=>rfl
  | false =>
   rw [AJ]
   refine ⟨2,_,_,rfl,HK fun j hj=>?_,o3,by omega⟩
   match j,hj with
   | 0,_=>rfl
   | 1,_=>rfl
 | false =>
 simp only [AJ]
 cases ((AK s (rgV s p).2 10).1==2) with
 | true =>
  rw [AF]
  cases ob with
  | true =>
   rw [AF]
   refine ⟨3,_,_,rfl,HK fun j hj=>?_,o3,by omega⟩
   match j,hj with
   | 0,_=>rfl
   | 1,_=>rfl
   | 2,_=>rfl
  | false =>
   rw [AJ]
   refine ⟨2,_,_,rfl,HK fun j hj=>?_,o3,by omega⟩
   match j,hj with
   | 0,_=>rfl
   | 1,_=>rfl
 | false =>
 rw [AJ]
 cases ((AK s (rgV s p).2 10).1==3) with
 | true =>
  rw [AF]
  refine ⟨2,_,_,rfl,HK fun j hj=>?_,r2,by omega⟩
  match j,hj with
  | 0,_=>exact Br _
  | 1,_=>exact Br _
 | false =>
 rw [AJ]
 cases ((AK s (rgV s p).2 10).1==4) with
 | true =>
  rw [AF]
  refine ⟨2,_,_,rfl,HK fun j hj=>?_,f1,by omega⟩
  match j,hj with
  | 0,_=>exact Br _
  | 1,_=>rfl
 | false =>
  rw [AJ]
  refine ⟨1,_,_,rfl,HK fun j hj=>?_,b1,by omega⟩
  match j,hj with
  | 0,_=>exact Br _
def lyN (s:ByteArray) (p:Int):Nat:=@dite _ (A9 s p=true) (Classical.propDecidable _) (fun h=>Classical.choose (GB h)) fun _=>0
def lyG (s:ByteArray) (p:Int):Nat→F:=@dite _ (A9 s p=true) (Classical.propDecidable _) (fun h=>Classical.choose (Classical.choose_spec (GB h))) fun _ _=>.dflt
def lyP (s:ByteArray) (p:Int):Int:=@dite _ (A9 s p=true) (Classical.propDecidable _) (fun h=>Classical.choose (Classical.choose_spec (Classical.choose_spec (GB h)))) fun _=>0
theorem mW {s:ByteArray} {p:Int} (h:A9 s p=true):G14 s p=some ([.tup [.int .i64 ((1:Nat):Int),.sl (lyN s p) (lyG s p)]],lyP s p)∧B2 (.sl (lyN s p) (lyG s p))=true∧A9 s (lyP s p)=true∧lyN s p≤3:=by
 have e1:lyN s p=Classical.choose (GB h):=@dif_pos _ (Classical.propDecidable _) h _ _ _
 have e2:lyG s p=Classical.choose (Classical.choose_spec (GB h)):=@dif_pos _ (Classical.propDecidable _) h _ _ _
 have e3:lyP s p=Classical.choose (Classical.choose_spec (Classical.choose_spec (GB h))):=@dif_pos _ (Classical.propDecidable _) h _ _ _
 rw [e1,e2,e3]
 exact Classical.choose_spec (Classical.choose_spec (Classical.choose_spec (GB h)))
def lF (cs xs:List F):Bool:=Q9 cs&&isNone xs
def resLy:List F→List F→List F × List F
 | [b,.int .i64 p],_=>([.tup [.int .i64 ((1:Nat):Int),.sl (lyN (AA b) p) (lyG (AA b) p)]],[b,.int .i64 (lyP (AA b) p)])
 | _,_=>([],[])
theorem okLy:EJ Tryz.prog 14 (Ys lF resLy) :=
 fn_ptro (c:=AR Tryz.f14) Tryz.func14 (by kernel_rfl) (by kernel_rfl) fun cs xs hp=>by
  simp only [lF,Bool.and_eq_true] at hp
  obtain ⟨b,p,rfl,hb,hr⟩:=IP hp.1
  have hx:=hp.2
  match xs,hx with
  | [],_ =>
   exact ⟨[AB (AA b),.int .i64 p],[],_,_,⟨(CC hb).1,.refl _,trivial⟩,Ee.refl _,t14 (AA b) p _ _ (mW hr).1,⟨RJ.of (.obj _ _ _ _ _ fun _ _=>rfl),trivial⟩,⟨(CC hb).2,.refl _,trivial⟩⟩
def envA8:Env:=envA7.add 14 (Ys lF resLy)
theorem pQ:Ax Tryz.prog envA8:=(Env.add_ok Xm okLy)
end
noncomputable section
/-! ### function 27 -/
def rT (l:List (List Pt)) (n:Nat) (g:Nat→F) (m:Int) (i:Int):St:=⟨Ag 3 ((U.hs 0 n 0 n) :: Ag 3 ((U.f (A5 l)) :: (U.f (F.int .i64 m)) :: (U.f (F.int .i64 i)) :: Ag 11 [])),[HO.arr 4 n g]⟩
def dX {ρ:Type} (ret:(Nat)→(Nat→F)→Option ρ) (c3:(List (List Pt))→(Nat)→(Nat→F)→(Int)→(Int)→Option ρ) (l:List (List Pt)) (n:Nat) (g:Nat→F) (m:Int) (i:Int):Option ρ :=
 (AC (decide (i<m))
 (AC (decide (0≤i))
 (AC (decide (i<(↑l.length:Int)))
 (AC (B4 (F.agg [Am (l.getD i.toNat [])])&&D1 (Ac (F.agg [Am (l.getD i.toNat [])])))
 (AC (decide (n=n))
 (AC (decide (n=n))
 (AC (decide ((↑(n+(BZ (Ac (F.agg [Am (l.getD i.toNat [])]))).length):Int)*(((32:Nat):Int)+1)≤(↑BC:Int)))
 (c3 (l) (n+(BZ (Ac (F.agg [Am (l.getD i.toNat [])]))).length) (fun j ↦ if j<n then g j else one (BZ (Ac (F.agg [Am (l.getD i.toNat [])]))).length (fun i_1 ↦ sgF ((BZ (Ac (F.agg [Am (l.getD i.toNat [])]))).getD i_1 Sg.zero)) (j-n)) (m) (IntKind.i64.wrap (i+1)))
 none)
 none)
 none)
 none)
 none)
 none)
 (AC (decide (n=n)&&true&&decide (n=n)&&true&&(decide (n≤1000000)&&(List.range n).all fun j ↦ Na (g j)))
 (AC (decide (n=n))
 (ret (n) (Iw n g))
 none)
 none))
def Sz:Nat→(List (List Pt))→(Nat)→(Nat→F)→(Int)→(Int)→Option ((Nat) × (Nat→F))
 | 0,_,_,_,_,_=>none
 | k+1,l,n,g,m,i=>dX (fun rn rg=>some (rn,rg)) (Sz k) l n g m i
def T27 {ρ:Type} (ret:(Nat)→(Nat→F)→Option ρ) (c3:(List (List Pt))→(Nat)→(Nat→F)→(Int)→(Int)→Option ρ) (l:List (List Pt)):Option ρ :=
 (c3 (l) (0) (Aj []) ((↑l.length:Int)) (0))
def G27 (k:Nat) (l:List (List Pt)):Option ((Nat) × (Nat→F)):=T27 (fun rn rg=>some (rn,rg)) (Sz k) l
theorem t27_3:∀ (k:Nat) (l:List (List Pt)) (n:Nat) (g:Nat→F) (m:Int) (i:Int) (rn:Nat) (rg:Nat→F),Sz k l n g m i=some (rn,rg)→AY Tryz.prog Tryz.f27.results.toList (at_ Tryz.f27 3) (rT l n g m i) (F.sl rn rg)
 | 0,_,_,_,_,_,_,_,h=>nomatch h
 | k+1,l,n,g,m,i,rn,rg,h=>by
  refine AY.of_cut Ap QT (T:=[(3,[3,7,8,9],1000)]) (n:=200) ?_
  refine gE (Y:=dX (fun rn rg=>some (.ret (F.sl rn rg))) (fun l n g m i=>some (.cut (at_ Tryz.f27 3) (rT l n g m i))) l n g m i) (by kernel_rfl) ?_
  exact (gS h (fun _ h=>(gS h (fun _ h=>(gS h (fun _ h=>(gS h (fun _ h=>(gS h (fun _ h=>(gS h (fun _ h=>(gS h (fun _ h=>gC (t27_3 k _ _ _ _ _ rn rg h)) gN)) gN)) gN)) gN)) gN)) gN)) (fun _ h=>(gS h (fun _ h=>(gS h (fun _ h=>gR (by cases h;rfl)) gN)) gN)))
theorem t27 (k:Nat) (l:List (List Pt)) (rn:Nat) (rg:Nat→F) (h:G27 k l=some (rn,rg)):AY Tryz.prog Tryz.f27.results.toList [.code (AR Tryz.f27)] (start Tryz.f27.ntmps ([A5 l].map .f)) (F.sl rn rg):=by
 refine AY.of_run Ap QT (T:=[(3,[3,7,8,9],1000)]) (n:=200) ?_
 refine gE (Y:=T27 (fun rn rg=>some (.ret (F.sl rn rg))) (fun l n g m i=>some (.cut (at_ Tryz.f27 3) (rT l n g m i))) l) (by kernel_rfl) ?_
 exact gC (t27_3 k _ _ _ _ _ rn rg h)
theorem RY:∀ (l:List (List Pt)) (s:Int),(∀ r ∈ l,r.length≤12)→0≤s→s+12*l.length≤9000000000000000000→LA l s=s+((l.map List.length).sum:Nat)
 | [],s,_,_,_=>by simp [LA]
 | r :: l,s,hr,h0,hs=>by
  have h1:=hr r (by simp)
  rw [List.length_cons] at hs
  rw [LA,Av (by omega) (by omega),RY l _ (fun q hq=>hr q (List.mem_cons_of_mem _ hq)) (by omega) (by omega),List.map_cons,List.sum_cons]
  omega
theorem Kn {l:List (List Pt)} (h:DM l=true):(l.map List.length).sum≤20:=by
 obtain ⟨f1,f2,_⟩:=Dq h
 have h0:(Et l).1=0:=eq_of_beq h
 unfold Et at h0
 rw [decide_eq_false (show ¬ l.length > 6 by omega),cond_false] at h0
 by_cases h2:LV l > 20
 ·rw [decide_eq_true h2,cond_true] at h0;exact absurd h0 (by decide)
 ·unfold LV at h2
  rw [RY l 0 (fun r hr=>(DI (f2 r hr)).high) (by omega) (by omega)] at h2
  omega
def GK (l:List (List Pt)):List Sg:=l.flatMap BZ
theorem Qf (l:List (List Pt)):(GK l).length=(l.map List.length).sum:=by
 unfold GK
 rw [List.length_flatMap]
 congr 1
 exact List.map_congr_left fun r _=>Dm r
def E2 (c:List Sg):List Sg:=(Go.Sort.pdq (ltOf Ha) c.toArray 0 c.length (Go.Lib.bitLen c.length) true true).toList
theorem PT (c:List Sg):(E2 c).Perm c:=by
 have h:=(Go.Sort.pdq_sorts (ltOf Ha) swoSg c.toArray 0 c.length (Go.Lib.bitLen c.length) true true (Nat.zero_le _) (by simp) (Or.inl rfl)).1
 unfold E2
 generalize Go.Sort.pdq (ltOf Ha) c.toArray 0 c.length (Go.Lib.bitLen c.length) true true=d at h
 obtain ⟨h1,_,h3⟩:=h
 have e1:d.extract 0 c.length=d:=by
  have:d.size=c.length:=by simpa using h1
  rw [← this,Array.extract_size]
 have e2:(c.toArray).extract 0 c.length=c.toArray:=by
  have:(c.toArray).size=c.length:=by simp
  rw [← this,Array.extract_size]
 rw [e1,e2] at h3
 exact h3
theorem NG (c:List Sg):(E2 c).length=c.length:=(PT c).length_eq
theorem Yc {n:Nat} {g:Nat→F} {c:List Sg} (hn:n=c.length) (hg:∀ j,j<n→g j=sgF (c.getD j .zero)):FLe (.sl n (Iw n g)) (BL (E2 c))∧(List.range n).all (fun j=>Na (g j))=true:=by
 have e:(List.range n).map (fun j=>YW (g j))=c:=by
  apply List.ext_getElem
  ·simp [hn]
  ·intro j h1 h2
   simp only [List.getElem_map,List.getElem_range]
   rw [hg j (by omega)]
   show c.getD j .zero=_
   simp [List.getD,List.getElem?_eq_getElem h2]
 constructor
 ·have e2:(BL (E2 c))=.sl n (fun j=>sgF ((E2 c).getD j .zero)):=by
   show F.sl (E2 c).length _=_
   rw [NG,hn]
  rw [e2]
  refine FLe.slEl fun j hj=>?_
  rw [PS]
  unfold S6
  rw [e,hn]
  have hl:j<(E2 c).length:=by rw [NG];omega
  have:(Go.Sort.pdq (ltOf Ha) c.toArray 0 c.length (Go.Lib.bitLen c.length) true true)[j]! = (E2 c).getD j .zero:=by
   simp only [List.getD,List.getElem?_eq_getElem hl,Option.getD_some]
   unfold E2 at hl ⊢
   rw [Array.length_toList] at hl
   rw [getElem!_pos _ j hl,Array.getElem_toList]
  rw [this]
  exact .refl _
 ·rw [List.all_eq_true]
  intro j hj
  rw [hg j (List.mem_range.1 hj)]
  rfl
theorem cF {l:List (List Pt)} (hl:DM l=true):∀ (d i:Nat) (n:Nat) (g:Nat→F),i+d=l.length→n=(GK (l.take i)).length→(∀ j,j<n→g j=sgF ((GK (l.take i)).getD j .zero)) →
  ∃ rg,Sz (d+1) l n g l.length i=some ((GK l).length,rg)∧FLe (.sl (GK l).length rg) (BL (E2 (GK l)))
 | 0,i,n,g,h,hn,hg=>by
  obtain ⟨f1,f2,_⟩:=Dq hl
  have hs:=Kn hl
  have e:l.take i=l:=List.take_of_length_le (by omega)
  rw [e] at hn hg
  have hn20:n≤20:=by rw [hn,Qf];exact hs
  obtain ⟨s1,s2⟩:=Yc hn hg
  rw [Sz]
  unfold dX
  rw [decide_eq_false (show ¬ (i:Int)<l.length by omega),AJ,s2,decide_eq_true (show n≤1000000 by omega),decide_eq_true (show n=n from rfl)]
  exact ⟨Iw n g,by rw [hn];rfl,by rw [hn] at s1 ⊢;exact s1⟩
 | d+1,i,n,g,h,hn,hg=>by
  obtain ⟨f1,f2,_⟩:=Dq hl
  have hs:=Kn hl
  have hlt:i<l.length:=by omega
  have hge:l.getD i []=l[i]:=by simp [List.getD,List.getElem?_eq_getElem hlt]
  have hsh:D1 l[i]=true:=decide_eq_true (by have:=(DI (f2 _ (List.getElem_mem hlt))).high;omega)
  have hcat:GK (l.take (i+1))=GK (l.take i)++BZ l[i]:=by
   unfold GK
   rw [List.take_succ_eq_append_getElem hlt,List.flatMap_append]
   simp
  have hle:(GK (l.take (i+1))).length≤20:=by
   refine Nat.le_trans ?_ (by rw [← Qf] at hs;exact hs)
   have:GK l=GK (l.take (i+1))++GK (l.drop (i+1)):=by
    unfold GK
    rw [← List.flatMap_append,List.take_append_drop]
   rw [this,List.length_append]
   omega
  rw [hcat,List.length_append,← hn] at hle
  have hlim:decide (((n+(BZ l[i]).length:Nat):Int)*((32:Nat)+1)≤(BC:Int))=true:=by rw [DL];exact decide_eq_true (by omega)
  obtain ⟨rg,e1,e2⟩:=cF hl d (i+1) (n+(BZ l[i]).length) (fun j=>if j<n then g j else one (BZ l[i]).length (fun i_1=>sgF ((BZ l[i]).getD i_1 Sg.zero)) (j-n)) (by omega) (by rw [hcat,List.length_append,hn]) (fun j hj=>by
   rw [hcat]
   by_cases hjn:j<n
   ·simp only [if_pos hjn]
    rw [hg j hjn]
    congr 1
    simp only [List.getD]
    rw [List.getElem?_append_left (by omega)]
   ·simp only [if_neg hjn]
    rw [H4 _ (show j-n<(BZ l[i]).length by omega)]
    congr 1
    simp only [List.getD]
    rw [List.getElem?_append_right (by omega),hn])
  refine ⟨rg,?_,e2⟩
  rw [Sz]
  unfold dX
  rw [decide_eq_true (show (i:Int)<l.length by omega),decide_eq_true (show (0:Int)≤i by omega),Int.toNat_natCast,hge,CM,Br,hsh,Av (by omega) (by omega),show (i:Int)+1=((i+1:Nat):Int) by omega,hlim,decide_eq_true (show n=n from rfl)]
  exact e1
def NR:List F→Bool | [x]=>B2 x&&DM (Au x) | _=>false
def Rp:List F→F | [x]=>BL (E2 (GK (Au x))) | _=>.dflt
theorem fR:Ai Tryz.prog 27 NR Rp :=
 Ae (c:=AR Tryz.f27) Tryz.func27 (by kernel_rfl) (by kernel_rfl) fun xs hp=>match xs,hp with
 | [x],hp=>by
  simp only [NR,Bool.and_eq_true] at hp
  obtain ⟨rg,e1,e2⟩:=cF hp.2 (Au x).length 0 0 (Aj []) (by omega) rfl (fun j hj=>by omega)
  exact ⟨[A5 (Au x)],_,⟨(Cv hp.1).1,trivial⟩,t27 ((Au x).length+1) (Au x) (GK (Au x)).length rg (by unfold G27;exact e1),e2⟩
def oX:Env:=envI3.add 27 (.pure NR Rp)
theorem Nl:Ax Tryz.prog oX:=(Env.add_ok QT fR.sp)
end
noncomputable section
/-! ### function 10 -/
def T10 {ρ:Type} (ret:(F)→Option ρ) (l:List (List Pt)):Option ρ :=
 (AC (B2 (A5 l))
 (AC (!DM (Au (A5 l)))
 (ret (F.sl 0 fun x ↦ F.bool false))
 (AC (B2 (A5 l)&&DM (Au (A5 l)))
 (ret (BL (E2 (GK (Au (A5 l))))))
 none))
 none)
def G10 (l:List (List Pt)):Option (F):=T10 some l
theorem t10 (l:List (List Pt)) (r:F) (h:G10 l=some r):AY Tryz.prog Tryz.f10.results.toList [.code (AR Tryz.f10)] (start Tryz.f10.ntmps ([A5 l].map .f)) (r):=by
 refine AY.of_run Ap Nl (T:=[]) (n:=200) ?_
 refine gE (Y:=T10 (fun r=>some (.ret (r))) l) (by kernel_rfl) ?_
 exact (gS h (fun _ h=>(gS h (fun _ h=>gR (by cases h;rfl)) (fun _ h=>(gS h (fun _ h=>gR (by cases h;rfl)) gN)))) gN)
def Db (l:List (List Pt)):List Sg:=bif DM l then E2 (GK l) else []
def En:List F→F | [x]=>BL (Db (Au x)) | _=>.dflt
theorem mK {f:Nat→F}:FLe (.sl 0 f) (BL []):=FLe.slEl fun j hj=>by omega
theorem TT:Ai Tryz.prog 10 Df En :=
 Ae (c:=AR Tryz.f10) Tryz.func10 (by kernel_rfl) (by kernel_rfl) fun xs hp=>match xs,hp with
 | [x],hp=>by
  have hp:B2 x=true:=hp
  cases h:DM (Au x) with
  | false =>
   refine ⟨[A5 (Au x)],_,⟨(Cv hp).1,trivial⟩,t10 (Au x) _ (by
    unfold G10 T10
    rw [CV,B7,h]
    rfl),?_⟩
   show FLe _ (BL (Db (Au x)))
   unfold Db
   rw [h]
   exact mK
  | true =>
   refine ⟨[A5 (Au x)],_,⟨(Cv hp).1,trivial⟩,t10 (Au x) _ (by
    unfold G10 T10
    rw [CV,B7,h]
    rfl),?_⟩
   show FLe _ (BL (Db (Au x)))
   unfold Db
   rw [h]
   exact .refl _
/-! ### function 31 -/
def T31 {ρ:Type} (ret:(Bool)→Option ρ) (x0:Int) (y0:Int) (x1:Int) (y1:Int) (u0:Int) (v0:Int) (u1:Int) (v1:Int):Option ρ :=
 (AC (B1 x0 y0 u0 v0==false)
 (AC ((x0==u0&&(y0==v0&&true))==true)
 (ret (B1 x1 y1 u1 v1))
 (ret (false)))
 (ret (true)))
def G31 (x0:Int) (y0:Int) (x1:Int) (y1:Int) (u0:Int) (v0:Int) (u1:Int) (v1:Int):Option (Bool):=T31 some x0 y0 x1 y1 u0 v0 u1 v1
theorem t31 (x0:Int) (y0:Int) (x1:Int) (y1:Int) (u0:Int) (v0:Int) (u1:Int) (v1:Int) (r:Bool) (h:G31 x0 y0 x1 y1 u0 v0 u1 v1=some r):AY Tryz.prog Tryz.f31.results.toList [.code (AR Tryz.f31)] (start Tryz.f31.ntmps ([F.agg [F.int .i64 x0,F.int .i64 y0,F.int .i64 x1,F.int .i64 y1],F.agg [F.int .i64 u0,F.int .i64 v0,F.int .i64 u1,F.int .i64 v1]].map .f)) (F.bool r):=by
 refine AY.of_run Ap Nl (T:=[]) (n:=200) ?_
 refine gE (Y:=T31 (fun r=>some (.ret (F.bool r))) x0 y0 x1 y1 u0 v0 u1 v1) (by kernel_rfl) ?_
 exact (gS h (fun _ h=>(gS h (fun _ h=>gR (by cases h;rfl)) (fun _ h=>gR (by cases h;rfl)))) (fun _ h=>gR (by cases h;rfl)))
def TY (s t:Sg):Bool:=B1 s.x0 s.y0 t.x0 t.y0 || ((s.x0==t.x0&&s.y0==t.y0)&&B1 s.x1 s.y1 t.x1 t.y1)
def WC:List F→F | [.agg [.int .i64 x0,.int .i64 y0,.int .i64 x1,.int .i64 y1],.agg [.int .i64 u0,.int .i64 v0,.int .i64 u1,.int .i64 v1]]=>.bool (TY ⟨x0,y0,x1,y1⟩ ⟨u0,v0,u1,v1⟩) | _=>.dflt
theorem okLessS:Ai Tryz.prog 31 O3 WC :=
 Bm (c:=AR Tryz.f31) Tryz.func31 (by kernel_rfl) (by kernel_rfl) fun xs hp=>match xs,hp with
 | [.agg [.int .i64 x0,.int .i64 y0,.int .i64 x1,.int .i64 y1],.agg [.int .i64 u0,.int .i64 v0,.int .i64 u1,.int .i64 v1]],_=>t31 x0 y0 x1 y1 u0 v0 u1 v1 _ (by
  unfold G31 T31
  show _=some (B1 x0 y0 u0 v0 || ((x0==u0&&y0==v0)&&B1 x1 y1 u1 v1))
  rw [Bool.and_true]
  cases B1 x0 y0 u0 v0 <;> cases (x0==u0&&y0==v0) <;> rfl)
def oW:Env:=(oX.add 10 (.pure Df En)).add 31 (.pure O3 WC)
theorem Ik:Ax Tryz.prog oW:=(Env.add_ok (Env.add_ok Nl TT.sp) okLessS.sp)
end
def cT:Env:=(pM.add 53 (.pure J4 TC)).add 65 (.pure WW J1)
theorem Zf:Ax Tryz.prog cT:=(Env.add_ok (Env.add_ok Gf lY.sp) Wm.sp)
def Aq (x0 y0 x1 y1:Int):Sg × Bool:=(LL x0 y0 x1 y1,Wy x0 y0 x1 y1)
def V8:List F→F | [.agg [.int .i64 a,.int .i64 b],.agg [.int .i64 c,.int .i64 d]]=>.tup [.agg [.int .i64 (Aq a b c d).1.x0,.int .i64 (Aq a b c d).1.y0,.int .i64 (Aq a b c d).1.x1,.int .i64 (Aq a b c d).1.y1],.bool (Aq a b c d).2] | _=>.dflt
theorem okSegOf:Ai Tryz.prog 35 J4 V8 :=
 Bm (c:=AR Tryz.f35) Tryz.func35 (by kernel_rfl) (by kernel_rfl) fun xs hp=>match xs,hp with
 | [.agg [.int .i64 a,.int .i64 b],.agg [.int .i64 c,.int .i64 d]],hp=>t35 a b c d _ _ _ _ _ (Wz a b c d)
def pP:Env:=cT.add 35 (.pure J4 V8)
theorem SV:Ax Tryz.prog pP:=(Env.add_ok Zf okSegOf.sp)
/-! ### function 36 -/
def T36 {ρ:Type} (ret:(Int)→(Int)→(Int)→(Int)→(Int)→Option ρ) (s:ByteArray) (p:Int):Option ρ :=
 (AC (Af (AB s)&&A9 (AA (AB s)) p)
 (AC ((AK (AA (AB s)) p 20).fst==0)
 (AC (Af (AB s)&&A9 (AA (AB s)) (AK (AA (AB s)) p 20).snd&&true)
 (AC (Af (AB s)&&A9 (AA (AB s)) (C7 [F.int .i64 (-1000000),F.int .i64 1000000] (AA (AB s)) (AK (AA (AB s)) p 20).snd).snd&&true)
 (AC (Af (AB s)&&A9 (AA (AB s)) (C7 [F.int .i64 (-1000000),F.int .i64 1000000] (AA (AB s)) (C7 [F.int .i64 (-1000000),F.int .i64 1000000] (AA (AB s)) (AK (AA (AB s)) p 20).snd).snd).snd&&true)
 (AC (Af (AB s)&&A9 (AA (AB s)) (C7 [F.int .i64 (-1000000),F.int .i64 1000000] (AA (AB s)) (C7 [F.int .i64 (-1000000),F.int .i64 1000000] (AA (AB s)) (C7 [F.int .i64 (-1000000),F.int .i64 1000000] (AA (AB s)) (AK (AA (AB s)) p 20).snd).snd).snd).snd&&true)
 (ret ((RB (-1000000) 1000000 (AA (AB s)) (AK (AA (AB s)) p 20).snd).fst) ((RB (-1000000) 1000000 (AA (AB s)) (C7 [F.int .i64 (-1000000),F.int .i64 1000000] (AA (AB s)) (AK (AA (AB s)) p 20).snd).snd).fst) ((RB (-1000000) 1000000 (AA (AB s)) (C7 [F.int .i64 (-1000000),F.int .i64 1000000] (AA (AB s)) (C7 [F.int .i64 (-1000000),F.int .i64 1000000] (AA (AB s)) (AK (AA (AB s)) p 20).snd).snd).snd).fst) ((RB (-1000000) 1000000 (AA (AB s)) (C7 [F.int .i64 (-1000000),F.int .i64 1000000] (AA (AB s)) (C7 [F.int .i64 (-1000000),F.int .i64 1000000] (AA (AB s)) (C7 [F.int .i64 (-1000000),F.int .i64 1000000] (AA (AB s)) (AK (AA (AB s)) p 20).snd).snd).snd).snd).fst) ((C7 [F.int .i64 (-1000000),F.int .i64 1000000] (AA (AB s)) (C7 [F.int .i64 (-1000000),F.int .i64 1000000] (AA (AB s)) (C7 [F.int .i64 (-1000000),F.int .i64 1000000] (AA (AB s)) (C7 [F.int .i64 (-1000000),F.int .i64 1000000] (AA (AB s)) (AK (AA (AB s)) p 20).snd).snd).snd).snd).snd))
 none)
 none)
 none)
 none)
 (AC ((AK (AA (AB s)) p 20).fst==1)
 (AC (Af (AB s)&&A9 (AA (AB s)) (AK (AA (AB s)) p 20).snd&&true)
 (AC (Af (AB s)&&A9 (AA (AB s)) (AU [F.int .i64 (-1000000),F.int .i64 1000000] (AA (AB s)) (AK (AA (AB s)) p 20).snd).snd&&true)
 (AC (Af (AB s)&&A9 (AA (AB s)) (AU [F.int .i64 (-1000000),F.int .i64 1000000] (AA (AB s)) (AU [F.int .i64 (-1000000),F.int .i64 1000000] (AA (AB s)) (AK (AA (AB s)) p 20).snd).snd).snd&&true)
 (AC (Af (AB s)&&A9 (AA (AB s)) (AU [F.int .i64 (-1000000),F.int .i64 1000000] (AA (AB s)) (AU [F.int .i64 (-1000000),F.int .i64 1000000] (AA (AB s)) (AU [F.int .i64 (-1000000),F.int .i64 1000000] (AA (AB s)) (AK (AA (AB s)) p 20).snd).snd).snd).snd&&true)
 (ret ((Aq (Ak (-1000000) 1000000 (AA (AB s)) (AK (AA (AB s)) p 20).snd).fst (Ak (-1000000) 1000000 (AA (AB s)) (AU [F.int .i64 (-1000000),F.int .i64 1000000] (AA (AB s)) (AK (AA (AB s)) p 20).snd).snd).fst (Ak (-1000000) 1000000 (AA (AB s)) (AU [F.int .i64 (-1000000),F.int .i64 1000000] (AA (AB s)) (AU [F.int .i64 (-1000000),F.int .i64 1000000] (AA (AB s)) (AK (AA (AB s)) p 20).snd).snd).snd).fst (Ak (-1000000) 1000000 (AA (AB s)) (AU [F.int .i64 (-1000000),F.int .i64 1000000] (AA (AB s)) (AU [F.int .i64 (-1000000),F.int .i64 1000000] (AA (AB s)) (AU [F.int .i64 (-1000000),F.int .i64 1000000] (AA (AB s)) (AK (AA (AB s)) p 20).snd).snd).snd).snd).fst).fst.x0) ((Aq (Ak (-1000000) 1000000 (AA (AB s)) (AK (AA (AB s)) p 20).snd).fst (Ak (-1000000) 1000000 (AA (AB s)) (AU [F.int .i64 (-1000000),F.int .i64 1000000] (AA (AB s)) (AK (AA (AB s)) p 20).snd).snd).fst (Ak (-1000000) 1000000 (AA (AB s)) (AU [F.int .i64 (-1000000),F.int .i64 1000000] (AA (AB s)) (AU [F.int .i64 (-1000000),F.int .i64 1000000] (AA (AB s)) (AK (AA (AB s)) p 20).snd).snd).snd).fst (Ak (-1000000) 1000000 (AA (AB s)) (AU [F.int .i64 (-1000000),F.int .i64 1000000] (AA (AB s)) (AU [F.int .i64 (-1000000),F.int .i64 1000000] (AA (AB s)) (AU [F.int .i64 (-1000000),F.int .i64 1000000] (AA (AB s)) (AK (AA (AB s)) p 20).snd).snd).snd).snd).fst).fst.y0) ((Aq (Ak (-1000000) 1000000 (AA (AB s)) (AK (AA (AB s)) p 20).snd).fst (Ak (-1000000) 1000000 (AA (AB s)) (AU [F.int .i64 (-1000000),F.int .i64 1000000] (AA (AB s)) (AK (AA (AB s)) p 20).snd).snd).fst (Ak (-1000000) 1000000 (AA (AB s)) (AU [F.int .i64 (-1000000),F.int .i64 1000000] (AA (AB s)) (AU [F.int .i64 (-1000000),F.int .i64 1000000] (AA (AB s)) (AK (AA (AB s)) p 20).snd).snd).snd).fst (Ak (-1000000) 1000000 (AA (AB s)) (AU [F.int .i64 (-1000000),F.int .i64 1000000] (AA (AB s)) (AU [F.int .i64 (-1000000),F.int .i64 1000000] (AA (AB s)) (AU [F.int .i64 (-1000000),F.int .i64 1000000] (AA (AB s)) (AK (AA (AB s)) p 20).snd).snd).snd).snd).fst).fst.x1) ((Aq (Ak (-1000000) 1000000 (AA (AB s)) (AK (AA (AB s)) p 20).snd).fst (Ak (-1000000) 1000000 (AA (AB s)) (AU [F.int .i64 (-1000000),F.int .i64 1000000] (AA (AB s)) (AK (AA (AB s)) p 20).snd).snd).fst (Ak (-1000000) 1000000 (AA (AB s)) (AU [F.int .i64 (-1000000),F.int .i64 1000000] (AA (AB s)) (AU [F.int .i64 (-1000000),F.int .i64 1000000] (AA (AB s)) (AK (AA (AB s)) p 20).snd).snd).snd).fst (Ak (-1000000) 1000000 (AA (AB s)) (AU [F.int .i64 (-1000000),F.int .i64 1000000] (AA (AB s)) (AU [F.int .i64 (-1000000),F.int .i64 1000000] (AA (AB s)) (AU [F.int .i64 (-1000000),F.int .i64 1000000] (AA (AB s)) (AK (AA (AB s)) p 20).snd).snd).snd).snd).fst).fst.y1) ((AU [F.int .i64 (-1000000),F.int .i64 1000000] (AA (AB s)) (AU [F.int .i64 (-1000000),F.int .i64 1000000] (AA (AB s)) (AU [F.int .i64 (-1000000),F.int .i64 1000000] (AA (AB s)) (AU [F.int .i64 (-1000000),F.int .i64 1000000] (AA (AB s)) (AK (AA (AB s)) p 20).snd).snd).snd).snd).snd))
 none)
 none)
 none)
 none)
 (AC ((AK (AA (AB s)) p 20).fst==2)
 (AC (Af (AB s)&&A9 (AA (AB s)) (AK (AA (AB s)) p 20).snd&&true)
 (AC (Af (AB s)&&A9 (AA (AB s)) (AL [] (AA (AB s)) (AK (AA (AB s)) p 20).snd).snd&&true)
 (ret ((AV (AA (AB s)) (AK (AA (AB s)) p 20).snd).fst) ((AV (AA (AB s)) (AK (AA (AB s)) p 20).snd).snd.fst) ((AV (AA (AB s)) (AL [] (AA (AB s)) (AK (AA (AB s)) p 20).snd).snd).fst) ((AV (AA (AB s)) (AL [] (AA (AB s)) (AK (AA (AB s)) p 20).snd).snd).snd.fst) ((AL [] (AA (AB s)) (AL [] (AA (AB s)) (AK (AA (AB s)) p 20).snd).snd).snd))
 none)
 none)
 (AC (Af (AB s)&&A9 (AA (AB s)) (AK (AA (AB s)) p 20).snd&&true)
 (AC (Af (AB s)&&A9 (AA (AB s)) (AL [] (AA (AB s)) (AK (AA (AB s)) p 20).snd).snd&&true)
 (AC ((AV (AA (AB s)) (AK (AA (AB s)) p 20).snd).fst==(AV (AA (AB s)) (AL [] (AA (AB s)) (AK (AA (AB s)) p 20).snd).snd).fst&&((AV (AA (AB s)) (AK (AA (AB s)) p 20).snd).snd.fst==(AV (AA (AB s)) (AL [] (AA (AB s)) (AK (AA (AB s)) p 20).snd).snd).snd.fst&&true))
 (ret ((Aq (AV (AA (AB s)) (AK (AA (AB s)) p 20).snd).fst (AV (AA (AB s)) (AK (AA (AB s)) p 20).snd).snd.fst (IntKind.i64.wrap ((AV (AA (AB s)) (AL [] (AA (AB s)) (AK (AA (AB s)) p 20).snd).snd).fst+1)) (AV (AA (AB s)) (AL [] (AA (AB s)) (AK (AA (AB s)) p 20).snd).snd).snd.fst).fst.x0) ((Aq (AV (AA (AB s)) (AK (AA (AB s)) p 20).snd).fst (AV (AA (AB s)) (AK (AA (AB s)) p 20).snd).snd.fst (IntKind.i64.wrap ((AV (AA (AB s)) (AL [] (AA (AB s)) (AK (AA (AB s)) p 20).snd).snd).fst+1)) (AV (AA (AB s)) (AL [] (AA (AB s)) (AK (AA (AB s)) p 20).snd).snd).snd.fst).fst.y0) ((Aq (AV (AA (AB s)) (AK (AA (AB s)) p 20).snd).fst (AV (AA (AB s)) (AK (AA (AB s)) p 20).snd).snd.fst (IntKind.i64.wrap ((AV (AA (AB s)) (AL [] (AA (AB s)) (AK (AA (AB s)) p 20).snd).snd).fst+1)) (AV (AA (AB s)) (AL [] (AA (AB s)) (AK (AA (AB s)) p 20).snd).snd).snd.fst).fst.x1) ((Aq (AV (AA (AB s)) (AK (AA (AB s)) p 20).snd).fst (AV (AA (AB s)) (AK (AA (AB s)) p 20).snd).snd.fst (IntKind.i64.wrap ((AV (AA (AB s)) (AL [] (AA (AB s)) (AK (AA (AB s)) p 20).snd).snd).fst+1)) (AV (AA (AB s)) (AL [] (AA (AB s)) (AK (AA (AB s)) p 20).snd).snd).snd.fst).fst.y1) ((AL [] (AA (AB s)) (AL [] (AA (AB s)) (AK (AA (AB s)) p 20).snd).snd).snd))
 (ret ((Aq (AV (AA (AB s)) (AK (AA (AB s)) p 20).snd).fst (AV (AA (AB s)) (AK (AA (AB s)) p 20).snd).snd.fst (AV (AA (AB s)) (AL [] (AA (AB s)) (AK (AA (AB s)) p 20).snd).snd).fst (AV (AA (AB s)) (AL [] (AA (AB s)) (AK (AA (AB s)) p 20).snd).snd).snd.fst).fst.x0) ((Aq (AV (AA (AB s)) (AK (AA (AB s)) p 20).snd).fst (AV (AA (AB s)) (AK (AA (AB s)) p 20).snd).snd.fst (AV (AA (AB s)) (AL [] (AA (AB s)) (AK (AA (AB s)) p 20).snd).snd).fst (AV (AA (AB s)) (AL [] (AA (AB s)) (AK (AA (AB s)) p 20).snd).snd).snd.fst).fst.y0) ((Aq (AV (AA (AB s)) (AK (AA (AB s)) p 20).snd).fst (AV (AA (AB s)) (AK (AA (AB s)) p 20).snd).snd.fst (AV (AA (AB s)) (AL [] (AA (AB s)) (AK (AA (AB s)) p 20).snd).snd).fst (AV (AA (AB s)) (AL [] (AA (AB s)) (AK (AA (AB s)) p 20).snd).snd).snd.fst).fst.x1) ((Aq (AV (AA (AB s)) (AK (AA (AB s)) p 20).snd).fst (AV (AA (AB s)) (AK (AA (AB s)) p 20).snd).snd.fst (AV (AA (AB s)) (AL [] (AA (AB s)) (AK (AA (AB s)) p 20).snd).snd).fst (AV (AA (AB s)) (AL [] (AA (AB s)) (AK (AA (AB s)) p 20).snd).snd).snd.fst).fst.y1) ((AL [] (AA (AB s)) (AL [] (AA (AB s)) (AK (AA (AB s)) p 20).snd).snd).snd)))
 none)
 none))))
 none)
def G36 (s:ByteArray) (p:Int):Option ((Int) × (Int) × (Int) × (Int) × (Int)):=T36 (fun rx0 ry0 rx1 ry1 q=>some (rx0,ry0,rx1,ry1,q)) s p
theorem t36 (s:ByteArray) (p:Int) (rx0:Int) (ry0:Int) (rx1:Int) (ry1:Int) (q:Int) (h:G36 s p=some (rx0,ry0,rx1,ry1,q)):CL Tryz.prog 1 Tryz.f36.results.toList [.code (AR Tryz.f36)] (CU Tryz.f36.ntmps [U.hp 0 0] [HO.box [U.f (AB s),U.f (F.int .i64 p)]]) (F.tup [F.agg [F.int .i64 rx0,F.int .i64 ry0,F.int .i64 rx1,F.int .i64 ry1],F.agg [AB s,F.int .i64 q]]):=by
 refine AY.of_run Ap SV (T:=[]) (n:=200) ?_
 refine gE (Y:=T36 (fun rx0 ry0 rx1 ry1 q=>some (.ret (F.tup [F.agg [F.int .i64 rx0,F.int .i64 ry0,F.int .i64 rx1,F.int .i64 ry1],F.agg [AB s,F.int .i64 q]]))) s p) (by kernel_rfl) ?_
 exact (gS h (fun _ h=>(gS h (fun _ h=>(gS h (fun _ h=>(gS h (fun _ h=>(gS h (fun _ h=>(gS h (fun _ h=>gR (by cases h;rfl)) gN)) gN)) gN)) gN)) (fun _ h=>(gS h (fun _ h=>(gS h (fun _ h=>(gS h (fun _ h=>(gS h (fun _ h=>(gS h (fun _ h=>gR (by cases h;rfl)) gN)) gN)) gN)) gN)) (fun _ h=>(gS h (fun _ h=>(gS h (fun _ h=>(gS h (fun _ h=>gR (by cases h;rfl)) gN)) gN)) (fun _ h=>(gS h (fun _ h=>(gS h (fun _ h=>(gS h (fun _ h=>gR (by cases h;rfl)) (fun _ h=>gR (by cases h;rfl)))) gN)) gN)))))))) gN)
def Ol (s:ByteArray) (p:Int):Int × Int × Int × Int × Int:=(G36 s p).getD (0,0,0,0,0)
theorem kJ {s:ByteArray} {p:Int} (h:A9 s p=true):G36 s p=some (Ol s p)∧A9 s (Ol s p).2.2.2.2=true:=by
 obtain ⟨b1,b2,b3,b4⟩:=EI h 20
 have hab:-1099511627776≤(-1000000:Int)∧(-1000000:Int)≤1000000∧(1000000:Int)≤1099511627776:=by omega
 obtain ⟨_,o1⟩:=NV b4 hab
 obtain ⟨_,o2⟩:=NV o1 hab
 obtain ⟨_,o3⟩:=NV o2 hab
 obtain ⟨_,o4⟩:=NV o3 hab
 obtain ⟨_,n1⟩:=Cy b4 hab
 obtain ⟨_,n2⟩:=Cy n1 hab
 obtain ⟨_,n3⟩:=Cy n2 hab
 obtain ⟨_,n4⟩:=Cy n3 hab
 obtain ⟨_,s1⟩:=Gu b4
 obtain ⟨_,s2⟩:=Gu s1
 unfold Ol G36 T36
 simp only [AL,C7,AU,A3,A8,h,b4,o1,o2,o3,n1,n2,n3,s1,Bool.and_self,Bool.and_true,AF]
 generalize ((AK s p 20).1==0)=c1
 cases c1 with
 | true=>simp only [AF,Option.getD_some];exact ⟨trivial,o4⟩
 | false =>
  simp only [AJ]
  generalize ((AK s p 20).1==1)=c2
  cases c2 with
  | true=>simp only [AF,Option.getD_some];exact ⟨trivial,n4⟩
  | false =>
   simp only [AJ]
   generalize ((AK s p 20).1==2)=c3
   cases c3 with
   | true=>simp only [AF,Option.getD_some];exact ⟨trivial,s2⟩
   | false =>
    simp only [AJ]
    cases (AV s (AK s p 20).2).1==(AV s (AV s (AK s p 20).2).2.2).1 <;> cases (AV s (AK s p 20).2).2.1==(AV s (AV s (AK s p 20).2).2.2).2.1 <;>
     (simp only [Bool.and_self,Bool.and_true,Bool.and_false,Bool.false_and,Bool.true_and,AF,AJ,Option.getD_some];exact ⟨trivial,s2⟩)
def O2:List F→ByteArray→Int→F × Int:=fun _ s p=>(.agg [.int .i64 (Ol s p).1,.int .i64 (Ol s p).2.1,.int .i64 (Ol s p).2.2.1,.int .i64 (Ol s p).2.2.2.1],(Ol s p).2.2.2.2)
theorem okSegR:EJ Tryz.prog 36 (La isNone O2) :=
 Pr (c:=AR Tryz.f36) Tryz.func36 (by kernel_rfl) (by kernel_rfl) fun xs s p hx hr=>match xs,hx with
 | [],hx=>⟨_,.refl _,t36 s p _ _ _ _ _ (kJ hr).1⟩
def pO:Env:=pP.add 36 (La isNone O2)
theorem Nn:Ax Tryz.prog pO:=(Env.add_ok SV okSegR)
end Go.Proofs.YtlefbocihikaoaaGreat.R
