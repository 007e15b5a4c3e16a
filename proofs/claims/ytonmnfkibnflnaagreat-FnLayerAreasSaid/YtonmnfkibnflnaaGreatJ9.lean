/-
 The own walk and what it shows,part 9 of 10.
-/
import Derived.Test.YtonmnfkibnflnaaGreatJ1
import Derived.Test.YtonmnfkibnflnaaGreatJ2
import Derived.Test.YtonmnfkibnflnaaGreatJ3
import Derived.Test.YtonmnfkibnflnaaGreatJ4
import Derived.Test.YtonmnfkibnflnaaGreatJ5
import Derived.Test.YtonmnfkibnflnaaGreatJ6
import Derived.Test.YtonmnfkibnflnaaGreatJ7
import Derived.Test.YtonmnfkibnflnaaGreatJ8
set_option linter.unusedVariables false
set_option linter.unusedSimpArgs false
set_option maxRecDepth 100000
set_option exponentiation.threshold 30000
namespace Go.Proofs.YtonmnfkibnflnaaGreat.R
open Go
/-! ### function 28 -/
def T28 {ρ:Type} (ret:(Int)→(Int)→Option ρ) (s:ByteArray) (p:Int) (a:Int) (b:Int):Option ρ :=
 (AD (A1 (AB s)&&Bj (AA (AB s)) p)
 (AD ((AU (AA (AB s)) p 8).fst==0)
 (ret (a) ((AU (AA (AB s)) p 8).snd))
 (AD ((AU (AA (AB s)) p 8).fst==1)
 (ret (b) ((AU (AA (AB s)) p 8).snd))
 (AD (decide (b<a))
 (ret (a) ((AU (AA (AB s)) p 8).snd))
 (AD (A1 (AB s)&&Bj (AA (AB s)) (AU (AA (AB s)) p 8).snd&&true)
 (AD (IntKind.u64.wrap (IntKind.i64.wrap (IntKind.i64.wrap (b-a)+1)) != 0)
 (ret (IntKind.i64.wrap (a+IntKind.i64.wrap (((NS (AA (AB s)) (AU (AA (AB s)) p 8).snd).fst.fdiv (2 ^ min (Int.toNat 1) IntKind.u64.bits)).tmod (IntKind.u64.wrap (IntKind.i64.wrap (IntKind.i64.wrap (b-a)+1)))))) ((NS (AA (AB s)) (AU (AA (AB s)) p 8).snd).snd))
 none)
 none))))
 none)
def G28 (s:ByteArray) (p:Int) (a:Int) (b:Int):Option ((Int) × (Int)):=T28 (fun r q=>some (r,q)) s p a b
theorem t28 (s:ByteArray) (p:Int) (a:Int) (b:Int) (r:Int) (q:Int) (h:G28 s p a b=some (r,q)):Ct Tryz.prog 1 Tryz.f28.results.toList [.code (AT Tryz.f28)] (Cx Tryz.f28.ntmps [U.hp 0 0,U.f (F.int .i64 a),U.f (F.int .i64 b)] [HO.box [U.f (AB s),U.f (F.int .i64 p)]]) (F.tup [F.int .i64 r,F.agg [AB s,F.int .i64 q]]):=by
 refine AX.of_run Au Zy (T:=[]) (n:=200) ?_
 refine gE (Y:=T28 (fun r q=>some (.ret (F.tup [F.int .i64 r,F.agg [AB s,F.int .i64 q]]))) s p a b) (by kernel_rfl) ?_
 exact (gS h (fun _ h=>(gS h (fun _ h=>gR (by cases h;rfl)) (fun _ h=>(gS h (fun _ h=>gR (by cases h;rfl)) (fun _ h=>(gS h (fun _ h=>gR (by cases h;rfl)) (fun _ h=>(gS h (fun _ h=>(gS h (fun _ h=>gR (by cases h;rfl)) gN)) gN)))))))) gN)
theorem wrapU64 {x:Int} (h0:0≤x) (h1:x≤18446744073709551615):IntKind.u64.wrap x=x:=by
 unfold IntKind.wrap
 simp [IntKind.bits,IntKind.signed]
 omega
def O9:List F→Bool
 | [.int .i64 a,.int .i64 b]=>decide (-1099511627776≤a∧a≤b∧b≤1099511627776)
 | _=>false
def Ax (a b:Int) (s:ByteArray) (p:Int):Int × Int:=(G28 s p a b).getD (0,0)
theorem Ef {s:ByteArray} {p a b:Int} (h:Bj s p=true) (hab:-1099511627776≤a∧a≤b∧b≤1099511627776):G28 s p a b=some (Ax a b s p)∧Bj s (Ax a b s p).2=true:=by
 obtain ⟨b1,b2,b3,b4⟩:=If h 8
 obtain ⟨w1,w2⟩:=fQ b4
 unfold Ax G28 T28
 have e:IntKind.u64.wrap (IntKind.i64.wrap (IntKind.i64.wrap (b-a)+1))=b-a+1:=by
  rw [Il (x:=b-a) (by omega) (by omega),Il (by omega) (by omega),wrapU64 (by omega) (by omega)]
 have c1:(b-a+1 != 0)=true:=by simp;omega
 have c2:decide (b<a)=false:=decide_eq_false (by omega)
 simp only [BW,BY,h,b4,e,c1,c2,Bool.and_self,Bool.and_true,AH,AJ]
 cases (AU s p 8).1==0
 ·simp only [AJ]
  cases (AU s p 8).1==1
  ·simp only [AJ,Option.getD_some];exact ⟨trivial,w2⟩
  ·simp only [AH,Option.getD_some];exact ⟨trivial,b4⟩
 ·simp only [AH,Option.getD_some];exact ⟨trivial,b4⟩
def Ab:List F→ByteArray→Int→F × Int
 | [.int .i64 a,.int .i64 b],s,p=>(.int .i64 (Ax a b s p).1,(Ax a b s p).2)
 | _,_,p=>(.dflt,p)
theorem okNear:Gk Tryz.prog 28 (RA O9 Ab) :=
 Y6 (c:=AT Tryz.f28) Tryz.func28 (by kernel_rfl) (by kernel_rfl) fun xs s p hx hr=>match xs,hx with
 | [.int .i64 a,.int .i64 b],hx=>⟨_,.refl _,t28 s p a b _ _ (Ef hr (of_decide_eq_true hx)).1⟩
def envD8:Env:=envD7.add 28 (RA O9 Ab)
theorem SB:Az Tryz.prog envD8:=(Env.add_ok Zy okNear)
/-! ### function 38 -/
def T38 {ρ:Type} (ret:(Int)→(Int)→(Int)→Option ρ) (s:ByteArray) (p:Int):Option ρ :=
 (AD (A1 (AB s)&&Bj (AA (AB s)) p&&true)
 (AD (A1 (AB s)&&Bj (AA (AB s)) (Ab [F.int .i64 (-6),F.int .i64 6] (AA (AB s)) p).snd&&true)
 (ret ((Ax (-6) 6 (AA (AB s)) p).fst) ((Ax (-6) 6 (AA (AB s)) (Ab [F.int .i64 (-6),F.int .i64 6] (AA (AB s)) p).snd).fst) ((Ab [F.int .i64 (-6),F.int .i64 6] (AA (AB s)) (Ab [F.int .i64 (-6),F.int .i64 6] (AA (AB s)) p).snd).snd))
 none)
 none)
def G38 (s:ByteArray) (p:Int):Option ((Int) × (Int) × (Int)):=T38 (fun r r2 q=>some (r,r2,q)) s p
theorem t38 (s:ByteArray) (p:Int) (r:Int) (r2:Int) (q:Int) (h:G38 s p=some (r,r2,q)):Ct Tryz.prog 1 Tryz.f38.results.toList [.code (AT Tryz.f38)] (Cx Tryz.f38.ntmps [U.hp 0 0] [HO.box [U.f (AB s),U.f (F.int .i64 p)]]) (F.tup [F.agg [F.int .i64 r,F.int .i64 r2],F.agg [AB s,F.int .i64 q]]):=by
 refine AX.of_run Au SB (T:=[]) (n:=200) ?_
 refine gE (Y:=T38 (fun r r2 q=>some (.ret (F.tup [F.agg [F.int .i64 r,F.int .i64 r2],F.agg [AB s,F.int .i64 q]]))) s p) (by kernel_rfl) ?_
 exact (gS h (fun _ h=>(gS h (fun _ h=>gR (by cases h;rfl)) gN)) gN)
/-! ### function 39 -/
def T39 {ρ:Type} (ret:(Int)→(Int)→Option ρ) (s:ByteArray) (p:Int) (a:Int) (b:Int):Option ρ :=
 (AD (A1 (AB s)&&Bj (AA (AB s)) p)
 (AD ((Bm (AA (AB s)) p 24).fst)
 (AD (A1 (AB s)&&Bj (AA (AB s)) (Bm (AA (AB s)) p 24).snd)
 (AD (decide (0≤(AU (AA (AB s)) (Bm (AA (AB s)) p 24).snd 4).fst))
 (AD (decide ((AU (AA (AB s)) (Bm (AA (AB s)) p 24).snd 4).fst<((4:Nat):Int)))
 (AD (decide (0+(AU (AA (AB s)) (Bm (AA (AB s)) p 24).snd 4).fst.toNat<4))
 (AD (decide ((Ar [F.int .i64 (IntKind.i64.wrap (a-1)),F.int .i64 (IntKind.i64.wrap (b+1)),F.int .i64 (-9223372036854775808),F.int .i64 9223372036854775807] (0+(AU (AA (AB s)) (Bm (AA (AB s)) p 24).snd 4).fst.toNat)).cells.length=1))
 (AD (okV (Value.int IntKind.i64 0) ((List.drop 0 (Ar [F.int .i64 (IntKind.i64.wrap (a-1)),F.int .i64 (IntKind.i64.wrap (b+1)),F.int .i64 (-9223372036854775808),F.int .i64 9223372036854775807] (0+(AU (AA (AB s)) (Bm (AA (AB s)) p 24).snd 4).fst.toNat)).cells).headD F.dflt)&&true)
 (ret (Hl ((List.drop 0 (Ar [F.int .i64 (IntKind.i64.wrap (a-1)),F.int .i64 (IntKind.i64.wrap (b+1)),F.int .i64 (-9223372036854775808),F.int .i64 9223372036854775807] (0+(AU (AA (AB s)) (Bm (AA (AB s)) p 24).snd 4).fst.toNat)).cells).headD F.dflt)) ((AU (AA (AB s)) (Bm (AA (AB s)) p 24).snd 4).snd))
 none)
 none)
 none)
 none)
 none)
 none)
 (AD (A1 (AB s)&&Bj (AA (AB s)) (Bm (AA (AB s)) p 24).snd&&O9 [F.int .i64 a,F.int .i64 b])
 (ret ((Ax a b (AA (AB s)) (Bm (AA (AB s)) p 24).snd).fst) ((Ab [F.int .i64 a,F.int .i64 b] (AA (AB s)) (Bm (AA (AB s)) p 24).snd).snd))
 none))
 none)
def G39 (s:ByteArray) (p:Int) (a:Int) (b:Int):Option ((Int) × (Int)):=T39 (fun r q=>some (r,q)) s p a b
theorem t39 (s:ByteArray) (p:Int) (a:Int) (b:Int) (r:Int) (q:Int) (h:G39 s p a b=some (r,q)):Ct Tryz.prog 1 Tryz.f39.results.toList [.code (AT Tryz.f39)] (Cx Tryz.f39.ntmps [U.hp 0 0,U.f (F.int .i64 a),U.f (F.int .i64 b)] [HO.box [U.f (AB s),U.f (F.int .i64 p)]]) (F.tup [F.int .i64 r,F.agg [AB s,F.int .i64 q]]):=by
 refine AX.of_run Au SB (T:=[]) (n:=200) ?_
 refine gE (Y:=T39 (fun r q=>some (.ret (F.tup [F.int .i64 r,F.agg [AB s,F.int .i64 q]]))) s p a b) (by kernel_rfl) ?_
 exact (gS h (fun _ h=>(gS h (fun _ h=>(gS h (fun _ h=>(gS h (fun _ h=>(gS h (fun _ h=>(gS h (fun _ h=>(gS h (fun _ h=>(gS h (fun _ h=>gR (by cases h;rfl)) gN)) gN)) gN)) gN)) gN)) gN)) (fun _ h=>(gS h (fun _ h=>gR (by cases h;rfl)) gN)))) gN)
def GH (s:ByteArray) (p:Int):Int × Int × Int:=(G38 s p).getD (0,0,0)
theorem Nc {s:ByteArray} {p:Int} (h:Bj s p=true):G38 s p=some (GH s p)∧Bj s (GH s p).2.2=true:=by
 obtain ⟨a1,a2⟩:=Ef h (a:=-6) (b:=6) (by omega)
 obtain ⟨b1,b2⟩:=Ef a2 (a:=-6) (b:=6) (by omega)
 unfold GH G38 T38
 simp only [Ab,BW,BY,h,a2,Bool.and_self,Bool.and_true,AH,Option.getD_some]
 exact ⟨trivial,b2⟩
def BQ:List F→ByteArray→Int→F × Int:=fun _ s p=>(.agg [.int .i64 (GH s p).1,.int .i64 (GH s p).2.1],(GH s p).2.2)
theorem okSpot:Gk Tryz.prog 38 (RA isNone BQ) :=
 Y6 (c:=AT Tryz.f38) Tryz.func38 (by kernel_rfl) (by kernel_rfl) fun xs s p hx hr=>match xs,hx with
 | [],hx=>⟨_,.refl _,t38 s p _ _ _ (Nc hr).1⟩
def lX (a b:Int) (s:ByteArray) (p:Int):Int × Int:=(G39 s p a b).getD (0,0)
theorem sF {s:ByteArray} {p a b:Int} (h:Bj s p=true) (hab:-1099511627776≤a∧a≤b∧b≤1099511627776):G39 s p a b=some (lX a b s p)∧Bj s (lX a b s p).2=true:=by
 obtain ⟨o1,o2⟩:=MN h 24
 obtain ⟨b1,b2,b3,b4⟩:=If o2 4
 obtain ⟨n1,n2⟩:=Ef o2 hab
 have hn:O9 [F.int .i64 a,F.int .i64 b]=true:=decide_eq_true hab
 unfold lX G39 T39
 simp only [Ab,BW,BY,h,o2,hn,Bool.and_self,Bool.and_true,AH]
 cases (Bm s p 24).1 with
 | false=>simp only [AJ,Option.getD_some];exact ⟨trivial,n2⟩
 | true =>
  simp only [AH]
  have hk:(AU s (Bm s p 24).2 4).1=0 ∨ (AU s (Bm s p 24).2 4).1=1 ∨ (AU s (Bm s p 24).2 4).1=2 ∨ (AU s (Bm s p 24).2 4).1=3:=by omega
  generalize (AU s (Bm s p 24).2 4).1=k at hk b2
  rcases hk with rfl | rfl | rfl | rfl <;> exact ⟨rfl,b4⟩
def WT:List F→ByteArray→Int→F × Int
 | [.int .i64 a,.int .i64 b],s,p=>(.int .i64 (lX a b s p).1,(lX a b s p).2)
 | _,_,p=>(.dflt,p)
theorem okOff:Gk Tryz.prog 39 (RA O9 WT) :=
 Y6 (c:=AT Tryz.f39) Tryz.func39 (by kernel_rfl) (by kernel_rfl) fun xs s p hx hr=>match xs,hx with
 | [.int .i64 a,.int .i64 b],hx=>⟨_,.refl _,t39 s p a b _ _ (sF hr (of_decide_eq_true hx)).1⟩
def envD9:Env:=(envD8.add 38 (RA isNone BQ)).add 39 (RA O9 WT)
theorem IV:Az Tryz.prog envD9:=(Env.add_ok (Env.add_ok SB okSpot) okOff)
section
variable {P:Program} {w:World} {Z:Nat→Prop} {m:Nat→Nat} {H:List HO} {d:Bool}
/-! Pure functions. -/
/-! An answer with data beside a slice of the caller's own. -/
theorem lO {w':World} {Z':Nat→Prop} {m2:Nat→Nat} {fs:List F} {vs:List Value} {slot:Option Nat} (hlen:fs.length=vs.length)
  (hrep:∀ (j:Nat) (e:F) (v:Value),fs[j]?=some e→vs[j]?=some v→RepU w' Z' m2 (Do H slot (DV (Di fs))) (S5 (JX H slot) e) v)
  (h2:Ext w Z m H w' Z' m2 (Do H slot (DV (Di fs)))∧HOK w' Z' m2 (Do H slot (DV (Di fs)))) :
  Ext w Z m H w' Z' m2 (CB H slot (.tup fs)).2∧HOK w' Z' m2 (CB H slot (.tup fs)).2∧RepU w' Z' m2 (CB H slot (.tup fs)).2 (CB H slot (.tup fs)).1 (if h:vs.toArray.size=1 then vs.toArray[0] else .tuple vs.toArray):=by
 match fs,vs,hlen,hrep,h2 with
 | [e],[v],_,hrep,h2=>exact ⟨h2.1,h2.2,hrep 0 e v rfl rfl⟩
 | [],[],_,hrep,h2=>exact ⟨h2.1,h2.2,.tup [] [] rfl fun j u v hu=>by simp at hu⟩
 | e1 :: e2 :: fs,v1 :: v2 :: vs,hfl,hrep,h2 =>
  refine ⟨h2.1,h2.2,?_⟩
  have:RepU w' Z' m2 (Do H slot (DV (Di (e1 :: e2 :: fs)))) (.tup ((e1 :: e2 :: fs).map (S5 (JX H slot)))) (.tuple (v1 :: v2 :: vs).toArray):=.tup _ _ (by simpa using hfl) fun j u v hu hv=>by
   rw [List.getElem?_map] at hu
   cases he:(e1 :: e2 :: fs)[j]? with
   | none=>rw [he] at hu;cases hu
   | some e=>rw [he] at hu;cases hu;exact hrep j e v he hv
  simpa [CB] using this
 | [_],[],hl,_,_=>simp at hl
 | [_],_ :: _ :: _,hl,_,_=>simp at hl
 | [],_ :: _,hl,_,_=>simp at hl
 | _ :: _ :: _,[],hl,_,_=>simp at hl
 | _ :: _ :: _,[_],hl,_,_=>simp at hl
theorem FLe.cl {n:Nat} {g g':Nat→F} (h:∀ j,j<n→g j=g' j):FLe (.cl n g) (.cl n g'):=fun _ _ _ hv=>by
 cases hv with | cl _ _ _ hv h0=>exact .cl _ _ _ (FLe.sl h _ _ _ hv) h0
end
def WX (res:List F→List F→List F × List F):List U→List HO→U × List HO
 | .hp o 0 :: us,H=>match H[o]? with
  | some (.box cu)=>match Bf [] cu,Bf [] us with
   | some cs,some xs=>CB (H.set o (BE (res cs xs).2)) none (.tup (res cs xs).1)
   | _,_=>(.bad,H)
  | _=>(.bad,H)
 | _,H=>(.bad,H)
abbrev cJ (pre:List F→List F→Bool) (res:List F→List F→List F × List F):Sp:=.shared (Ow pre) (WX res)
section
variable {P:Program} {w:World} {Z:Nat→Prop} {m:Nat→Nat} {H:List HO}
theorem eR {f : FuncId} {fn : Func} {c : Code} (hf : P.funcs[f]? = some fn) (hb : fn.body = some c) (hname : (fn.name == "runtime.NumGoroutine") = false) {us : List U} {es : List F} {os : List F}
  (h:Ct P H.length (.tmp 1000003 :: fn.results.toList) [.code c] (Cx fn.ntmps us H) (.tup (.tup es :: os))) (h0:Nat.beq H.length 0=false) {args:Array Value} (hH:HOK w Z m H) (hL:Ck w Z m H us args.toList) :
  EI P f args w fun v w'=>∃ (st':St) (Z':Nat→Prop) (m':Nat→Nat) (us':List U) (vs:List Value),RQ true st'.heap us'=some es∧(Aw us').length≤1∧RS (st'.heap.take H.length)=some os ∧
   HOK w' Z' m' st'.heap∧Ext w Z m H w' Z' m' st'.heap∧Ck w' Z' m' st'.heap us' vs∧v=(if h:vs.toArray.size=1 then vs.toArray[0] else .tuple vs.toArray):=by
 refine .inl ⟨by
  have hp:(program).run P w=.ok P w:=rfl
  unfold callFunc
  simp only [Sem.run_bind,hp,Result.andThen,hf,hname,hb,Option.isNone_some,Bool.false_eq_true,if_false,Sem.run_pure],fun cs=>?_⟩
 have hlen:us.length=args.size:=by simpa using hL.1
 have hA:AOK w Z m (Cx fn.ntmps us H) { tmps:=args++Array.replicate (fn.ntmps-args.size) undef,defers:=[] }:=by
  refine ⟨by simp [Cx,hlen],fun i u v hu hv=>?_,hH⟩
  simp only [Cx] at hu
  rw [List.getElem?_append] at hu
  rw [Array.getElem?_append] at hv
  split at hu
  ·rename_i hi
   rw [if_pos (by omega)] at hv
   exact hL.2 i u v hu (by simpa using hv)
  ·rename_i hi
   rw [if_neg (by omega)] at hv
   rw [List.getElem?_replicate] at hu
   rw [Array.getElem?_replicate] at hv
   split at hu
   ·split at hv
    ·cases hu;cases hv;exact .undef
    ·cases hv
   ·cases hu
 let b:Frame:={ (default:Frame) with fn:=f,kind:=.normal }
 have henter:Frame.enter P f args .normal=b.at { tmps:=args++Array.replicate (fn.ntmps-args.size) undef,defers:=[] } [.code c]:=by
  simp [Frame.enter,Frame.at,hf,hb,b]
 obtain ⟨st',a',w',todo,hk,⟨hd,Z',m',hA',hE'⟩,hs⟩:=h w Z m H [] _ w Z m rfl hA rfl (Ext.refl _ _ _ _) b cs
 unfold S0 at hk
 rw [if_neg (by rw [h0,Bool.and_false];exact Bool.false_ne_true),if_pos (by rfl)] at hk
 simp only [List.tail_cons,WS] at hk
 split at hk
 case h_2=>cases hk
 rename_i us' hus
 split at hk
 case isFalse=>cases hk
 rename_i hl1
 split at hk
 case h_2=>cases hk
 rename_i es' os' hes' hos'
 simp only [Option.some.injEq,F.tup.injEq,List.cons.injEq] at hk
 obtain ⟨rfl,rfl⟩:=hk
 obtain ⟨vs,hvs,hR⟩:=JO (P:=P) hA' _ _ hus
 have hres:(results fn a'.tmps).run P w'=.ok (if h:vs.toArray.size=1 then vs.toArray[0] else .tuple vs.toArray) w':=by
  unfold results
  rw [← Array.toArray_toList (xs:=fn.results),List.mapM_toArray]
  simp only [Sem.run_bind,Sem.run_map]
  refine (congrArg (fun q=>Result.andThen (Result.andThen q fun x w=>Result.ok x.toArray w) fun vs w=>(pure (if h:vs.size=1 then vs[0] else .tuple vs):Sem Value).run P w) hvs).trans ?_
  simp [Result.andThen]
 refine ⟨.returned _,w',{ b.at a' todo with mode:=.returning },⟨st',Z',m',us',vs,hes',of_decide_eq_true hl1,hos',hA'.hok,hE',hR,rfl⟩,?_,rfl,rfl,hd,rfl,fn,hf,hres⟩
 rw [henter];exact hs
theorem Yi {w':World} {Z':Nat→Prop} {m':Nat→Nat} {Hc:List HO} {o b1:Nat} {cu us0:List U} {ds os cs2:List F} {L:List HO} (hH:HOK w Z m H) (ho:H[o]?=some (.box cu)) (hdl:ds.length=cu.length)
  (hc0:Hc[0]?=some (.box us0)) (hos:Bf [] us0=some os) (hle:E5 os cs2) (q3:HOK w' Z' m' Hc) (q4:Ext w Z (fun _=>m o) [BE ds] w' Z' m' Hc)
  (hL:L=[] ∨ ∃ sz n g,L=[.arr sz n g]∧w.heap.size≤b1∧¬ Z' b1∧∀ m3 G,Ij w' Z' m3 G (.arr sz n g) b1) {m2:Nat→Nat} (hmn:m2 H.length=b1) (hmk:∀ k,k<H.length→m2 k=m k) :
  Ext w Z m H w' Z' m2 (H.set o (BE cs2)++L)∧HOK w' Z' m2 (H.set o (BE cs2)++L):=by
 have hlo:A0 H o:=⟨_,ho,rfl⟩
 have hlt:o<H.length:=(List.getElem?_eq_some_iff.1 ho).1
 obtain ⟨hul,hm0⟩:us0.length=ds.length∧m' 0=m o:=by
  have:=q4.evol 0 (BE ds) _ rfl hc0
  simp only [BE,CA,List.length_map] at this
  exact this
 have hlive1:∀ k,A0 [BE ds] k→k=0:=fun k ⟨ob,hk,_⟩=>by
  have:=(List.getElem?_eq_some_iff.1 hk).1
  simp at this;exact this
 have hz0:¬ Z' (m o):=by
  have:=q3.apart 0 ⟨_,hc0,rfl⟩
  rwa [hm0] at this
 have hold:∀ b,b<w.heap.size→b ≠ m o→w'.heap[b]?=w.heap[b]?:=fun b hb hne=>q4.rest b hb fun k hk e=>hne e.symm
 have hback:∀ b,Z' b→Z b ∨ w.heap.size≤b:=fun b hb=>by
  rcases q4.back b hb with h | h | ⟨k,hk,e⟩
  ·exact .inl h
  ·exact .inr h
  ·rw [← e] at hb;exact absurd hb hz0
 have hap:∀ k,A0 H k→¬ Z' (m k):=fun k hk hz=>by
  rcases hback _ hz with h | h
  ·exact hH.apart k hk h
  ·have:=hH.blk_lt hk;omega
 have hkeep:∀ k,A0 H k→k ≠ o→w'.heap[m k]?=w.heap[m k]?:=fun k hk hne=>hold _ (hH.blk_lt hk) fun e=>hne (hH.inj k o hk hlo e)
 have hget:∀ k,k<H.length→(H.set o (BE cs2)++L)[k]?=(H.set o (BE cs2))[k]?:=fun k hk=>List.getElem?_append_left (by simpa using hk)
 have hgetL:∀ k ob,¬ k<H.length→(H.set o (BE cs2)++L)[k]?=some ob→k=H.length∧∃ sz n g,ob=.arr sz n g∧w.heap.size≤b1∧¬ Z' b1∧∀ m3 G,Ij w' Z' m3 G (.arr sz n g) b1:=fun k ob hk h=>by
  rw [List.getElem?_append_right (by simp;omega),List.length_set] at h
  rcases hL with rfl | ⟨sz,n,g,rfl,h1,h2,h3⟩
  ·simp at h
  ·have hk0:k-H.length=0:=by
    have:=(List.getElem?_eq_some_iff.1 h).1
    simp at this;omega
   rw [hk0] at h
   simp at h
   exact ⟨by omega,sz,n,g,h.symm,h1,h2,h3⟩
 have hsplit:∀ k,A0 (H.set o (BE cs2)++L) k→(k<H.length∧A0 H k) ∨ (k=H.length∧w.heap.size≤b1∧¬ Z' b1):=by
  rintro k ⟨ob,hk,hl⟩
  by_cases hkl:k<H.length
  ·rw [hget k hkl] at hk
   by_cases hko:o=k
   ·subst hko;exact .inl ⟨hkl,hlo⟩
   ·rw [List.getElem?_set_ne hko] at hk;exact .inl ⟨hkl,ob,hk,hl⟩
  ·obtain ⟨h1,sz,n,g,_,h2,h3,_⟩:=hgetL k ob hkl hk
   exact .inr ⟨h1,h2,h3⟩
 have hEE:Ext w Z m H w' Z' m2 (H.set o (BE cs2)++L):=by
  refine ⟨q4.os,q4.tape,q4.output,q4.size,q4.sub,fun b hb=>(hback b hb).elim .inl fun h=>.inr (.inl h),fun b hb=>q4.kept b hb,fun b hb hn=>hold b hb fun e=>hn o hlo e.symm,by simp,fun k ob ob' hk hk'=>?_,fun k hk=>?_⟩
  ·have hkl:=(List.getElem?_eq_some_iff.1 hk).1
   rw [hget k hkl] at hk'
   rw [hmk k hkl]
   by_cases hko:o=k
   ·subst hko
    rw [List.getElem?_set_self hlt] at hk'
    rw [ho] at hk
    cases hk;cases hk'
    have h1:=(Bk us0 os hos).1
    have h2:=hle.get.1
    exact ⟨by rw [List.length_map];omega,rfl⟩
   ·rw [List.getElem?_set_ne hko,hk] at hk'
    cases hk'
    cases ob with
    | arr sz n g=>exact ⟨rfl,Nat.le_refl _,fun _=>⟨rfl,by simp only [A4,hkeep k ⟨_,hk,rfl⟩ (fun e=>hko e.symm)]⟩⟩
    | _=>simp [CA]
  ·rcases hsplit k hk with ⟨h1,h2⟩ | ⟨h1,h2,_⟩
   ·exact .inl ⟨h2,hmk k h1⟩
   ·right;subst h1;rw [hmn];exact h2
 refine ⟨hEE,q3.zlt,fun k hk hz=>?_,fun k k' hk hk' e=>?_,fun k ob hk=>?_⟩
 ·rcases hsplit k hk with ⟨h1,h2⟩ | ⟨h1,_,h3⟩
  ·rw [hmk k h1] at hz;exact hap k h2 hz
  ·subst h1;rw [hmn] at hz;exact h3 hz
 ·rcases hsplit k hk with ⟨h1,h2⟩ | ⟨h1,h2,_⟩ <;> rcases hsplit k' hk' with ⟨g1,g2⟩ | ⟨g1,g2,_⟩
  ·rw [hmk k h1,hmk k' g1] at e;exact hH.inj k k' h2 g2 e
  ·rw [hmk k h1] at e;subst g1;rw [hmn] at e;have:=hH.blk_lt h2;omega
  ·rw [hmk k' g1] at e;subst h1;rw [hmn] at e;have:=hH.blk_lt g2;omega
  ·rw [h1,g1]
 ·by_cases hkl:k<H.length
  ·rw [hget k hkl] at hk
   rw [hmk k hkl]
   by_cases hko:o=k
   ·subst hko
    rw [List.getElem?_set_self hlt] at hk
    cases hk
    obtain ⟨c,el,fr,r1,r2,r3,r4⟩:=q3.ob 0 _ hc0
    rw [hm0] at r1 r2
    obtain ⟨h1,g1⟩:=Bk us0 os hos
    obtain ⟨h2,g2⟩:=hle.get
    refine ⟨c,el,fr,r1,r2,by rw [List.length_map];omega,fun j u hu=>?_⟩
    rw [List.getElem?_map] at hu
    cases hy:cs2[j]? with
    | none=>rw [hy] at hu;cases hu
    | some y =>
     rw [hy] at hu;cases hu
     obtain ⟨x,hx,hxy⟩:=g2 j y hy
     have hj:=(List.getElem?_eq_some_iff.1 hx).1
     have huj:us0[j]?=some us0[j]:=List.getElem?_eq_getElem (by omega)
     obtain ⟨v,hv,hr⟩:=r4 j _ huj
     exact ⟨v,hv,.f _ _ (hxy _ _ _ (C6 q3 hr (g1 j _ x huj hx)))⟩
   ·rw [List.getElem?_set_ne hko] at hk
    by_cases hd:ob.live=true
    ·exact (hH.ob k ob hk).mono hEE (hkeep k ⟨_,hk,hd⟩ (fun e=>hko e.symm))
    ·cases ob with
     | dead=>trivial
     | free=>trivial
     | _=>exact absurd rfl hd
  ·obtain ⟨h1,sz,n,g,rfl,_,_,h4⟩:=hgetL k ob hkl hk
   subst h1
   rw [hmn]
   exact h4 _ _
theorem qZ {w':World} {Z':Nat→Prop} {m':Nat→Nat} {Hc:List HO} {o:Nat} {cu us0 us:List U} {ds os cs2 es fs:List F} {vs:List Value} (hH:HOK w Z m H) (ho:H[o]?=some (.box cu)) (hdl:ds.length=cu.length)
  (hc0:Hc[0]?=some (.box us0)) (hos:Bf [] us0=some os) (hle:E5 os cs2) (q1:RQ true Hc us=some es) (q2:(Aw us).length≤1) (q3:HOK w' Z' m' Hc) (q4:Ext w Z (fun _=>m o) [BE ds] w' Z' m' Hc)
  (q5:Ck w' Z' m' Hc us vs) (hes:Vy es fs) :
  ∃ m2,Ext w Z m H w' Z' m2 (Do (H.set o (BE cs2)) none (DV (Di fs)))∧HOK w' Z' m2 (Do (H.set o (BE cs2)) none (DV (Di fs))) ∧
   ∀ (j:Nat) (e:F) (v:Value),fs[j]?=some e→vs[j]?=some v→RepU w' Z' m2 (Do (H.set o (BE cs2)) none (DV (Di fs))) (S5 (JX (H.set o (BE cs2)) none) e) v:=by
 obtain ⟨hflat,hol,hog⟩:=JV us es q1
 obtain ⟨hfl,hfg⟩:=JU hes
 have each:∀ (j:Nat) (e:F),fs[j]?=some e→∃ u a,us[j]?=some u∧Gj true Hc u.cells=some a∧TF (mkF (C4 u) a) e:=fun j e he=>by
  have hj:=(List.getElem?_eq_some_iff.1 he).1
  have huj:us[j]?=some us[j]:=List.getElem?_eq_getElem (by omega)
  obtain ⟨a,h1,h2⟩:=hog j _ huj
  obtain ⟨e1,h3,h4⟩:=hfg j _ h2
  rw [he] at h3;cases h3
  exact ⟨_,a,huj,h1,h4⟩
 rcases RP (Pv us) (Di es) (Di fs) (Nat.le_trans (KC us) q2) hflat (Mz hes) with ⟨h0,hno⟩ | ⟨o1,sz,n,g,g',ho1,hsc,hgg,hob,hone⟩
 ·rw [h0]
  obtain ⟨e1,e2⟩:=Yi (L:=[]) (b1:=0) hH ho hdl hc0 hos hle q3 q4 (.inl rfl) (m2:=fun k=>if k=H.length then 0 else m k) (by simp) (fun k hk=>if_neg (by omega))
  rw [List.append_nil] at e1 e2
  have eN:Do (H.set o (BE cs2)) none []=H.set o (BE cs2):=rfl
  rw [eN]
  refine ⟨_,e1,e2,fun j e v he hv=>?_⟩
  obtain ⟨u,e0,h1,h2,h3⟩:=each j e he
  exact Nt (q5.2 j u v h1 hv) h2 h3 (fun _ _ _ hr=>hr) fun x hx o gen off len e=>absurd e (hno x (MS (List.mem_of_getElem? h1) hx) o gen off len)
 ·rw [hob]
  have hlo1:A0 Hc o1:=⟨_,ho1,rfl⟩
  have hfresh:w.heap.size≤m' o1:=by
   rcases q4.new o1 hlo1 with ⟨⟨ob,hk,_⟩,_⟩ | h
   ·have:=(List.getElem?_eq_some_iff.1 hk).1
    simp at this
    subst this
    rw [hc0] at ho1;cases ho1
   ·exact h
  have hOb:∀ m3 G,Ij w' Z' m3 G (.arr sz n g') (m' o1):=fun m3 G=>by
   obtain ⟨r0,c1,el,fr,r1,r2,r3,r4,r5⟩:=q3.ob o1 _ ho1
   exact ⟨r0,c1,el,fr,r1,r2,r3,fun i hi=>by rw [← hgg i hi];exact r4 i hi,fun i j u hi hu=>r5 i j u hi (by rw [hgg i hi];exact hu)⟩
  obtain ⟨e1,e2⟩:=Yi (L:=[.arr sz n g']) (b1:=m' o1) hH ho hdl hc0 hos hle q3 q4 (.inr ⟨sz,n,g',rfl,hfresh,q3.apart o1 hlo1,hOb⟩) (m2:=fun k=>if k=H.length then m' o1 else m k) (by simp) (fun k hk=>if_neg (by omega))
  have eN:Do (H.set o (BE cs2)) none [.arr sz n g']=H.set o (BE cs2)++[.arr sz n g']:=rfl
  have eA:JX (H.set o (BE cs2)) none=H.length:=by
   show (H.set o (BE cs2)).length=H.length
   exact List.length_set
  rw [eN,eA]
  refine ⟨_,e1,e2,fun j e v he hv=>?_⟩
  obtain ⟨u,e0,h1,h2,h3⟩:=each j e he
  refine Nt (q5.2 j u v h1 hv) h2 h3 (fun _ _ _ hr=>hr) fun x hx o2 gen off len e=>?_
  obtain ⟨rfl,rfl,rfl,rfl⟩:=hone x (MS (List.mem_of_getElem? h1) hx) o2 gen off len e
  refine ⟨sz,g',rfl,rfl,?_,by simp,g,ho1⟩
  rw [List.getElem?_append_right (by simp),List.length_set,Nat.sub_self]
  rfl
theorem fn_ptro {f : FuncId} {fn : Func} {c : Code} (hf : P.funcs[f]? = some fn) (hb : fn.body = some c) (hname : (fn.name == "runtime.NumGoroutine") = false) {pre : List F → List F → Bool} {res : List F → List F → List F × List F}
  (h:∀ cs xs,pre cs xs=true→∃ ds ys es os,E5 cs ds∧E5 xs ys∧Ct P 1 (.tmp 1000003 :: fn.results.toList) [.code c] (Cx fn.ntmps (.hp 0 0 :: ys.map .f) [.box (ds.map .f)]) (.tup [.tup es,.agg os])∧Vy es (res cs xs).1∧E5 os (res cs xs).2):Gk P f (cJ pre res):=by
 intro us H hp w Z m args hH hL
 unfold Ow at hp
 split at hp
 ·rename_i o us'
  split at hp
  ·rename_i cu ho
   split at hp
   ·rename_i cs xs hcs hxs
    have hres:WX res (.hp o 0 :: us') H=CB (H.set o (BE (res cs xs).2)) none (.tup (res cs xs).1):=by simp only [WX,ho,hcs,hxs]
    rw [hres]
    obtain ⟨ds,ys,es,os,h1,h2,h3,h4,h5⟩:=h cs xs hp
    obtain ⟨hl1,hg1⟩:=Bk cu cs hcs
    obtain ⟨hl2,hg2⟩:=Bk us' xs hxs
    have hlo:A0 H o:=⟨_,ho,rfl⟩
    have hobk:=hH.ob o _ ho
    have hHsub:HOK w Z (fun _=>m o) [BE cs]:=by
     refine ⟨hH.zlt,fun _ _=>hH.apart o hlo,fun a b ha hb _=>?_,fun k ob hk=>?_⟩
     ·obtain ⟨_,ha,_⟩:=ha
      obtain ⟨_,hb,_⟩:=hb
      have:=(List.getElem?_eq_some_iff.1 ha).1
      have:=(List.getElem?_eq_some_iff.1 hb).1
      simp at *
      omega
     ·have hk0:=(List.getElem?_eq_some_iff.1 hk).1
      obtain rfl:k=0:=by simp at hk0;exact hk0
      simp at hk;subst hk
      obtain ⟨c,el,fr,q1,q2,q3,q4⟩:=hobk
      refine ⟨c,el,fr,q1,q2,by rw [List.length_map,← hl1];exact q3,fun j u hu=>?_⟩
      rw [List.getElem?_map] at hu
      cases hxj:cs[j]? with
      | none=>rw [hxj] at hu;cases hu
      | some y =>
       rw [hxj] at hu;cases hu
       have hj:=(List.getElem?_eq_some_iff.1 hxj).1
       have huj:cu[j]?=some cu[j]:=List.getElem?_eq_getElem (by omega)
       obtain ⟨v,hv,hr⟩:=q4 j _ huj
       exact ⟨v,hv,.f _ _ (C6 hH hr (hg1 j _ y huj hxj))⟩
    obtain ⟨hy1,hy2⟩:=h2.get
    have hLsub:Ck w Z (fun _=>m o) [BE ds] (.hp 0 0 :: ys.map .f) args.toList:=by
     refine ⟨by rw [← hL.1];simp [hl2,hy1],fun j u v hu hv=>?_⟩
     cases j with
     | zero =>
      simp at hu;subst hu
      have:=hL.2 0 _ v rfl hv
      cases this with
      | hp _ _ _ h1 hk hvv=>exact .hp 0 0 v h1 ⟨_,rfl,by simp [BE]⟩ fun cs' _=>hvv _ ho
     | succ j =>
      simp only [List.getElem?_cons_succ,List.getElem?_map] at hu
      cases hyj:ys[j]? with
      | none=>rw [hyj] at hu;cases hu
      | some y =>
       rw [hyj] at hu;cases hu
       obtain ⟨x,hx,hxy⟩:=hy2 j y hyj
       have hj:=(List.getElem?_eq_some_iff.1 hx).1
       have huj:us'[j]?=some us'[j]:=List.getElem?_eq_getElem (by omega)
       exact .f _ _ (hxy _ _ _ (C6 hH (hL.2 (j+1) _ v (by rw [List.getElem?_cons_succ];exact huj) hv) (hg2 j _ x huj hx)))
    refine (eR (H:=[BE ds]) hf hb hname (os:=[.agg os]) h3 rfl (hHsub.box_le h1) hLsub).mono fun v w' ⟨st',Z',m',us2,vs,q1,q2,qo,q3,q4,q5,q6⟩=>?_
    have hlen1:1≤st'.heap.length:=by have:=q4.len;simpa using this
    have hc:=List.getElem?_eq_getElem (show 0<st'.heap.length by omega)
    have htake:st'.heap.take 1=[st'.heap[0]]:=by
     apply List.ext_getElem
     ·simp;omega
     ·intro i h1 h2
      have h2:i=0:=by simp at h2;exact h2
      subst h2
      simp
    have hone:[BE ds].length=1:=rfl
    rw [hone,htake] at qo
    obtain ⟨us0,hb0,hos⟩:∃ us0,st'.heap[0]=.box us0∧Bf [] us0=some os:=by
     generalize st'.heap[0]=ob at qo
     cases ob with
     | box us0 =>
      simp only [RS] at qo
      split at qo
      ·rename_i xs os2 hx ho2
       simp only [Option.some.injEq,List.cons.injEq,F.agg.injEq] at qo
       exact ⟨us0,rfl,by rw [hx,qo.1]⟩
      ·cases qo
     | _=>simp [RS] at qo
    rw [hb0] at hc
    obtain ⟨m2,p1,p2,p3⟩:=qZ (cu:=cu) (ds:=ds) hH ho (by rw [← h1.get.1,hl1]) hc hos h5 q1 q2 q3 q4 q5 h4
    have hfl:(res cs xs).1.length=vs.length:=by
     have e1:=(JU h4).1
     have e2:=(JV us2 es q1).2.1
     have e3:=q5.1
     omega
    have:=lO (H:=H.set o (BE (res cs xs).2)) (slot:=none) (w:=w) (Z:=Z) (m:=m) hfl p3
    rw [q6]
    refine ⟨Z',m2,?_⟩
    match hr:(res cs xs).1,vs,hfl,p1,p2,p3 with
    | [e],[v],_,p1,p2,p3=>exact ⟨p1,p2,p3 0 e v rfl rfl⟩
    | [],[],_,p1,p2,p3=>exact ⟨p1,p2,.tup [] [] rfl fun j u v hu=>by simp at hu⟩
    | e1 :: e2 :: fs,v1 :: v2 :: vs,hfl,p1,p2,p3 =>
     refine ⟨p1,p2,?_⟩
     have:RepU w' Z' m2 (Do (H.set o (BE (res cs xs).2)) none (DV (Di (e1 :: e2 :: fs)))) (.tup ((e1 :: e2 :: fs).map (S5 (JX (H.set o (BE (res cs xs).2)) none)))) (.tuple (v1 :: v2 :: vs).toArray):=.tup _ _ (by simpa using hfl) fun j u v hu hv=>by
      rw [List.getElem?_map] at hu
      cases he:(e1 :: e2 :: fs)[j]? with
      | none=>rw [he] at hu;cases hu
      | some e=>rw [he] at hu;cases hu;exact p3 j e v he hv
     have e:(if h:(v1 :: v2 :: vs).toArray.size=1 then (v1 :: v2 :: vs).toArray[0] else Value.tuple (v1 :: v2 :: vs).toArray)=.tuple (v1 :: v2 :: vs).toArray:=dif_neg (by simp)
     rw [e]
     exact this
    | [_],[],hl,_,_,_=>simp at hl
    | [_],_ :: _ :: _,hl,_,_,_=>simp at hl
    | [],_ :: _,hl,_,_,_=>simp at hl
    | _ :: _ :: _,[],hl,_,_,_=>simp at hl
    | _ :: _ :: _,[_],hl,_,_,_=>simp at hl
   ·cases hp
  ·cases hp
 ·cases hp
end
theorem pt_at {α:Type} {is:F→Bool} {un:F→α} {enc:α→F} (d:α) (h1:∀ x,is x=true→x=enc (un x)) {n:Nat} {g:Nat→F} (h:Dq is (.sl n g)=true) {j:Nat} (hj:j<n):g j=enc ((Gi un (.sl n g)).getD j d):=by
 simp only [Dq,List.all_eq_true,List.mem_range] at h
 have e:(Gi un (.sl n g)).getD j d=un (g j):=by simp [Gi,List.getD,hj]
 rw [e]
 exact h1 _ (h j hj)
theorem aV {n:Nat} {g:Nat→F} (h:Da (.sl n g)=true) {j:Nat} (hj:j<n):g j=ptF ((BS (.sl n g)).getD j Pt.zero):=pt_at Pt.zero (fun _ h=>(pt_eq h).symm) h hj
noncomputable section
/-! ### function 26 -/
def Sk (s:ByteArray) (p:Int) (n:Nat) (g:Nat→F) (x:Int) (y:Int) (u:Int) (t:Int):St:=⟨(U.hp 0 0) :: Al 1 ((U.hp 1 0) :: (U.f (F.int .i64 x)) :: (U.f (F.int .i64 y)) :: (U.f (F.int .i64 u)) :: (U.f (F.int .i64 t)) :: (U.hs 2 n 0 n) :: Al 187 []),[HO.box [U.f (AB s),U.f (F.int .i64 p)],HO.box [U.nils],HO.arr 2 n g]⟩
def S26_6v (s:ByteArray) (p:Int) (n:Nat) (o:List Pt) (x:Int) (y:Int) (u:Int) (t:Int):St:=⟨(U.hp 0 0) :: Al 1 ((U.hp 1 0) :: (U.f (F.int .i64 x)) :: (U.f (F.int .i64 y)) :: (U.f (F.int .i64 u)) :: (U.f (F.int .i64 t)) :: (U.hs 2 n 0 n) :: Al 187 []),[HO.box [U.f (AB s),U.f (F.int .i64 p)],HO.box [U.nils],HO.arr 2 n (fun i=>ptF (o.getD i Pt.zero))]⟩
def NO (s:ByteArray) (p:Int) (n:Nat) (g:Nat→F):St:=⟨(U.hp 0 0) :: Al 1 ((U.hp 1 0) :: Al 4 ((U.hs 2 n 0 n) :: Al 187 [])),[HO.box [U.f (AB s),U.f (F.int .i64 p)],HO.box [U.nils],HO.arr 2 n g]⟩
def S26_17v (s:ByteArray) (p:Int) (n:Nat) (o:List Pt):St:=⟨(U.hp 0 0) :: Al 1 ((U.hp 1 0) :: Al 4 ((U.hs 2 n 0 n) :: Al 187 [])),[HO.box [U.f (AB s),U.f (F.int .i64 p)],HO.box [U.nils],HO.arr 2 n (fun i=>ptF (o.getD i Pt.zero))]⟩
def NN (s:ByteArray) (p:Int) (n:Nat) (g:Nat→F) (i:Int):St:=⟨(U.hp 0 0) :: Al 1 ((U.hp 1 0) :: Al 4 ((U.hs 2 n 0 n) :: (U.f (F.int .i64 i)) :: Al 186 [])),[HO.box [U.f (AB s),U.f (F.int .i64 p)],HO.box [U.nils],HO.arr 2 n g]⟩
def S26_19v (s:ByteArray) (p:Int) (n:Nat) (o:List Pt) (i:Int):St:=⟨(U.hp 0 0) :: Al 1 ((U.hp 1 0) :: Al 4 ((U.hs 2 n 0 n) :: (U.f (F.int .i64 i)) :: Al 186 [])),[HO.box [U.f (AB s),U.f (F.int .i64 p)],HO.box [U.nils],HO.arr 2 n (fun i=>ptF (o.getD i Pt.zero))]⟩
def NM (s:ByteArray) (p:Int) (n:Nat) (g:Nat→F):St:=⟨(U.hp 0 0) :: Al 1 ((U.hp 1 0) :: Al 4 ((U.hs 2 n 0 n) :: Al 187 [])),[HO.box [U.f (AB s),U.f (F.int .i64 p)],HO.box [U.nils],HO.arr 2 n g]⟩
def S26_24v (s:ByteArray) (p:Int) (n:Nat) (o:List Pt):St:=⟨(U.hp 0 0) :: Al 1 ((U.hp 1 0) :: Al 4 ((U.hs 2 n 0 n) :: Al 187 [])),[HO.box [U.f (AB s),U.f (F.int .i64 p)],HO.box [U.nils],HO.arr 2 n (fun i=>ptF (o.getD i Pt.zero))]⟩
def NL (s:ByteArray) (p:Int) (n:Nat) (g:Nat→F):St:=⟨(U.hp 0 0) :: Al 1 ((U.hp 1 0) :: Al 4 ((U.hs 2 n 0 n) :: Al 187 [])),[HO.box [U.f (AB s),U.f (F.int .i64 p)],HO.box [U.nils],HO.arr 2 n g]⟩
def S26_26v (s:ByteArray) (p:Int) (n:Nat) (o:List Pt):St:=⟨(U.hp 0 0) :: Al 1 ((U.hp 1 0) :: Al 4 ((U.hs 2 n 0 n) :: Al 187 [])),[HO.box [U.f (AB s),U.f (F.int .i64 p)],HO.box [U.nils],HO.arr 2 n (fun i=>ptF (o.getD i Pt.zero))]⟩
abbrev Kx (ρ:Type):=(ByteArray)→(Int)→(Nat)→(Nat→F)→Option ρ
abbrev oG (ρ:Type):=(ByteArray)→(Int)→(Nat)→(Nat→F)→(Int)→(Int)→(Int)→(Int)→Option ρ
abbrev oF (ρ:Type):=(ByteArray)→(Int)→(Nat)→(Nat→F)→(Int)→Option ρ
abbrev oE (ρ:Type):=(F)→(Int)→Option ρ
def wS {ρ:Type} (ret:oE ρ) (c6:oG ρ) (c17:Kx ρ) (c19:oF ρ) (c24:Kx ρ) (c26:Kx ρ) (s:ByteArray) (p:Int) (n:Nat) (o:List Pt) (x:Int) (y:Int) (u:Int) (t:Int):Option ρ :=
 (AD (A1 (AB s)&&Bj (AA (AB s)) p)
 (AD ((AU (AA (AB s)) p 8).fst==0)
 (AD (A1 (AB s)&&Bj (AA (AB s)) (AU (AA (AB s)) p 8).snd&&true)
 (AD (A1 (AB s)&&Bj (AA (AB s)) (BQ [] (AA (AB s)) (AU (AA (AB s)) p 8).snd).snd&&true)
 (AD (A1 (AB s)&&Bj (AA (AB s)) (BQ [] (AA (AB s)) (BQ [] (AA (AB s)) (AU (AA (AB s)) p 8).snd).snd).snd&&true)
 (c17 (s) ((BQ [] (AA (AB s)) (BQ [] (AA (AB s)) (BQ [] (AA (AB s)) (AU (AA (AB s)) p 8).snd).snd).snd).snd) (3) (Ar [F.agg [F.int .i64 (GH (AA (AB s)) (AU (AA (AB s)) p 8).snd).fst,F.int .i64 (GH (AA (AB s)) (AU (AA (AB s)) p 8).snd).snd.fst],F.agg [F.int .i64 (GH (AA (AB s)) (BQ [] (AA (AB s)) (AU (AA (AB s)) p 8).snd).snd).fst,F.int .i64 (GH (AA (AB s)) (BQ [] (AA (AB s)) (AU (AA (AB s)) p 8).snd).snd).snd.fst],F.agg [F.int .i64 (GH (AA (AB s)) (BQ [] (AA (AB s)) (BQ [] (AA (AB s)) (AU (AA (AB s)) p 8).snd).snd).snd).fst,F.int .i64 (GH (AA (AB s)) (BQ [] (AA (AB s)) (BQ [] (AA (AB s)) (AU (AA (AB s)) p 8).snd).snd).snd).snd.fst]]))
 none)
 none)
 none)
 (AD ((AU (AA (AB s)) p 8).fst==1)
 (c17 (s) ((AU (AA (AB s)) p 8).snd) (6) (Ar [F.agg [F.int .i64 x,F.int .i64 y],F.agg [F.int .i64 (IntKind.i64.wrap (IntKind.i64.wrap (x+u)+1)),F.int .i64 y],F.agg [F.int .i64 (IntKind.i64.wrap (IntKind.i64.wrap (x+u)+1)),F.int .i64 (IntKind.i64.wrap (y+1))],F.agg [F.int .i64 (IntKind.i64.wrap (x+1)),F.int .i64 (IntKind.i64.wrap (y+1))],F.agg [F.int .i64 (IntKind.i64.wrap (x+1)),F.int .i64 (IntKind.i64.wrap (IntKind.i64.wrap (y+t)+1))],F.agg [F.int .i64 x,F.int .i64 (IntKind.i64.wrap (IntKind.i64.wrap (y+t)+1))]]))
 (AD ((AU (AA (AB s)) p 8).fst==2)
 (AD (A1 (AB s)&&Bj (AA (AB s)) (AU (AA (AB s)) p 8).snd&&true)
 (AD (A1 (AB s)&&Bj (AA (AB s)) (BQ [] (AA (AB s)) (AU (AA (AB s)) p 8).snd).snd&&true)
 (AD (A1 (AB s)&&Bj (AA (AB s)) (BQ [] (AA (AB s)) (BQ [] (AA (AB s)) (AU (AA (AB s)) p 8).snd).snd).snd&&true)
 (AD (A1 (AB s)&&Bj (AA (AB s)) (BQ [] (AA (AB s)) (BQ [] (AA (AB s)) (BQ [] (AA (AB s)) (AU (AA (AB s)) p 8).snd).snd).snd).snd&&true)
 (c17 (s) ((BQ [] (AA (AB s)) (BQ [] (AA (AB s)) (BQ [] (AA (AB s)) (BQ [] (AA (AB s)) (AU (AA (AB s)) p 8).snd).snd).snd).snd).snd) (4) (Ar [F.agg [F.int .i64 (GH (AA (AB s)) (AU (AA (AB s)) p 8).snd).fst,F.int .i64 (GH (AA (AB s)) (AU (AA (AB s)) p 8).snd).snd.fst],F.agg [F.int .i64 (GH (AA (AB s)) (BQ [] (AA (AB s)) (AU (AA (AB s)) p 8).snd).snd).fst,F.int .i64 (GH (AA (AB s)) (BQ [] (AA (AB s)) (AU (AA (AB s)) p 8).snd).snd).snd.fst],F.agg [F.int .i64 (GH (AA (AB s)) (BQ [] (AA (AB s)) (BQ [] (AA (AB s)) (AU (AA (AB s)) p 8).snd).snd).snd).fst,F.int .i64 (GH (AA (AB s)) (BQ [] (AA (AB s)) (BQ [] (AA (AB s)) (AU (AA (AB s)) p 8).snd).snd).snd).snd.fst],F.agg [F.int .i64 (GH (AA (AB s)) (BQ [] (AA (AB s)) (BQ [] (AA (AB s)) (BQ [] (AA (AB s)) (AU (AA (AB s)) p 8).snd).snd).snd).snd).fst,F.int .i64 (GH (AA (AB s)) (BQ [] (AA (AB s)) (BQ [] (AA (AB s)) (BQ [] (AA (AB s)) (AU (AA (AB s)) p 8).snd).snd).snd).snd).snd.fst]]))
 none)
 none)
 none)
 none)
 (AD ((AU (AA (AB s)) p 8).fst==3)
 (AD (A1 (AB s)&&Bj (AA (AB s)) (AU (AA (AB s)) p 8).snd&&true)
 (c17 (s) ((Ab [F.int .i64 (-2),F.int .i64 8] (AA (AB s)) (AU (AA (AB s)) p 8).snd).snd) (3) (Ar [F.agg [F.int .i64 x,F.int .i64 y],F.agg [F.int .i64 (IntKind.i64.wrap (x+u)),F.int .i64 y],F.agg [F.int .i64 (IntKind.i64.wrap (x+(Ax (-2) 8 (AA (AB s)) (AU (AA (AB s)) p 8).snd).fst)),F.int .i64 (IntKind.i64.wrap (y+t))]]))
 none)
 (AD ((AU (AA (AB s)) p 8).fst==4)
 (c17 (s) ((AU (AA (AB s)) p 8).snd) (4) (Ar [F.agg [F.int .i64 (IntKind.i64.wrap (x+IntKind.i64.wrap (2*u))),F.int .i64 y],F.agg [F.int .i64 (IntKind.i64.wrap (x+u)),F.int .i64 (IntKind.i64.wrap (y+t))],F.agg [F.int .i64 x,F.int .i64 y],F.agg [F.int .i64 (IntKind.i64.wrap (x+u)),F.int .i64 (IntKind.i64.wrap (y-t))]]))
 (c17 (s) ((AU (AA (AB s)) p 8).snd) (n) (fun i ↦ F.agg [F.int .i64 (o.getD i Pt.zero).x,F.int .i64 (o.getD i Pt.zero).y])))))))
 none)
def fD {ρ:Type} (ret:oE ρ) (c6:oG ρ) (c17:Kx ρ) (c19:oF ρ) (c24:Kx ρ) (c26:Kx ρ) (s:ByteArray) (p:Int) (n:Nat) (o:List Pt):Option ρ :=
 (AD (A1 (AB s)&&Bj (AA (AB s)) p)
 (AD ((Bm (AA (AB s)) p 6).fst)
 (c19 (s) ((Bm (AA (AB s)) p 6).snd) (n) (fun i ↦ F.agg [F.int .i64 (o.getD i Pt.zero).x,F.int .i64 (o.getD i Pt.zero).y]) (0))
 (c24 (s) ((Bm (AA (AB s)) p 6).snd) (n) (fun i ↦ F.agg [F.int .i64 (o.getD i Pt.zero).x,F.int .i64 (o.getD i Pt.zero).y])))
 none)
def XR {ρ:Type} (ret:oE ρ) (c6:oG ρ) (c17:Kx ρ) (c19:oF ρ) (c24:Kx ρ) (c26:Kx ρ) (s:ByteArray) (p:Int) (n:Nat) (o:List Pt) (i:Int):Option ρ :=
 (AD (decide (n=n))
 (AD (decide (i<IntKind.i64.wrap ((↑n:Int).tdiv 2)))
 (AD (decide (n=n))
 (AD (decide (0≤i))
 (AD (decide (i<(↑n:Int)))
 (AD (decide (n=n))
 (AD (decide (0+i.toNat<n))
 (AD (decide (n=n))
 (AD (decide (n=n))
 (AD (decide (0≤IntKind.i64.wrap (IntKind.i64.wrap ((↑n:Int)-1)-i)))
 (AD (decide (IntKind.i64.wrap (IntKind.i64.wrap ((↑n:Int)-1)-i)<(↑n:Int)))
 (AD (decide (n=n))
 (AD (decide (0+(IntKind.i64.wrap (IntKind.i64.wrap ((↑n:Int)-1)-i)).toNat<n))
 (AD (decide (n=n))
 (AD (decide (0≤i))
 (AD (decide (i<(↑n:Int)))
 (AD (decide (n=n))
 (AD (decide (0+i.toNat<n))
 (AD (decide (n=n))
 (AD (decide (n=n))
 (AD (decide (0≤IntKind.i64.wrap (IntKind.i64.wrap ((↑n:Int)-1)-i)))
 (AD (decide (IntKind.i64.wrap (IntKind.i64.wrap ((↑n:Int)-1)-i)<(↑n:Int)))
 (AD (decide (n=n))
 (AD (decide (0+(IntKind.i64.wrap (IntKind.i64.wrap ((↑n:Int)-1)-i)).toNat<n))
 (AD (decide ((if 0+(IntKind.i64.wrap (IntKind.i64.wrap ((↑n:Int)-1)-i)).toNat=0+i.toNat then F.agg [F.int .i64 (o.getD (0+(IntKind.i64.wrap (IntKind.i64.wrap ((↑n:Int)-1)-i)).toNat) Pt.zero).x,F.int .i64 (o.getD (0+(IntKind.i64.wrap (IntKind.i64.wrap ((↑n:Int)-1)-i)).toNat) Pt.zero).y] else F.agg [F.int .i64 (o.getD (0+(IntKind.i64.wrap (IntKind.i64.wrap ((↑n:Int)-1)-i)).toNat) Pt.zero).x,F.int .i64 (o.getD (0+(IntKind.i64.wrap (IntKind.i64.wrap ((↑n:Int)-1)-i)).toNat) Pt.zero).y]).cells.length=2))
 (AD ((Cd (if 0+(IntKind.i64.wrap (IntKind.i64.wrap ((↑n:Int)-1)-i)).toNat=0+i.toNat then F.agg [F.int .i64 (o.getD (0+(IntKind.i64.wrap (IntKind.i64.wrap ((↑n:Int)-1)-i)).toNat) Pt.zero).x,F.int .i64 (o.getD (0+(IntKind.i64.wrap (IntKind.i64.wrap ((↑n:Int)-1)-i)).toNat) Pt.zero).y] else F.agg [F.int .i64 (o.getD (0+(IntKind.i64.wrap (IntKind.i64.wrap ((↑n:Int)-1)-i)).toNat) Pt.zero).x,F.int .i64 (o.getD (0+(IntKind.i64.wrap (IntKind.i64.wrap ((↑n:Int)-1)-i)).toNat) Pt.zero).y]) || false)&&true)
 (c19 (s) (p) (n) (fun j ↦ if j=0+(IntKind.i64.wrap (IntKind.i64.wrap ((↑n:Int)-1)-i)).toNat then F.agg [F.int .i64 (o.getD (0+i.toNat) Pt.zero).x,F.int .i64 (o.getD (0+i.toNat) Pt.zero).y] else if j=0+i.toNat then F.agg [F.int .i64 (o.getD (0+(IntKind.i64.wrap (IntKind.i64.wrap ((↑n:Int)-1)-i)).toNat) Pt.zero).x,F.int .i64 (o.getD (0+(IntKind.i64.wrap (IntKind.i64.wrap ((↑n:Int)-1)-i)).toNat) Pt.zero).y] else F.agg [F.int .i64 (o.getD j Pt.zero).x,F.int .i64 (o.getD j Pt.zero).y]) (IntKind.i64.wrap (i+1)))
 none)
 none)
 none)
 none)
 none)
 none)
 none)
 none)
 none)
 none)
 none)
 none)
 none)
 none)
 none)
 none)
 none)
 none)
 none)
 none)
 none)
 none)
 none)
 none)
 (c24 (s) (p) (n) (fun i ↦ F.agg [F.int .i64 (o.getD i Pt.zero).x,F.int .i64 (o.getD i Pt.zero).y])))
 none)
def fC {ρ:Type} (ret:oE ρ) (c6:oG ρ) (c17:Kx ρ) (c19:oF ρ) (c24:Kx ρ) (c26:Kx ρ) (s:ByteArray) (p:Int) (n:Nat) (o:List Pt):Option ρ :=
 (AD (A1 (AB s)&&Bj (AA (AB s)) p)
 (AD ((Bm (AA (AB s)) p 40).fst)
 (AD (decide (n=n))
 (AD (A1 (AB s)&&Bj (AA (AB s)) (Bm (AA (AB s)) p 40).snd)
 (AD (A1 (AB s)&&Bj (AA (AB s)) (AU (AA (AB s)) (Bm (AA (AB s)) p 40).snd (↑n:Int)).snd&&true)
 (AD (decide (n=n))
 (AD (decide (0≤(AU (AA (AB s)) (Bm (AA (AB s)) p 40).snd (↑n:Int)).fst))
 (AD (decide ((AU (AA (AB s)) (Bm (AA (AB s)) p 40).snd (↑n:Int)).fst<(↑n:Int)))
 (AD (decide (n=n))
 (AD (decide (n=n))
 (AD (decide (0+(AU (AA (AB s)) (Bm (AA (AB s)) p 40).snd (↑n:Int)).fst.toNat<n))
 (c26 (s) ((WT [F.int .i64 (-1000000),F.int .i64 1000000] (AA (AB s)) (AU (AA (AB s)) (Bm (AA (AB s)) p 40).snd (↑n:Int)).snd).snd) (n) (fun j ↦ if j=0+(AU (AA (AB s)) (Bm (AA (AB s)) p 40).snd (↑n:Int)).fst.toNat then F.agg [F.int .i64 (lX (-1000000) 1000000 (AA (AB s)) (AU (AA (AB s)) (Bm (AA (AB s)) p 40).snd (↑n:Int)).snd).fst,F.int .i64 (o.getD (0+(AU (AA (AB s)) (Bm (AA (AB s)) p 40).snd (↑n:Int)).fst.toNat) Pt.zero).y] else F.agg [F.int .i64 (o.getD j Pt.zero).x,F.int .i64 (o.getD j Pt.zero).y]))
 none)
 none)
 none)
 none)
 none)
 none)
 none)
 none)
 none)
 (c26 (s) ((Bm (AA (AB s)) p 40).snd) (n) (fun i ↦ F.agg [F.int .i64 (o.getD i Pt.zero).x,F.int .i64 (o.getD i Pt.zero).y])))
 none)
def fB {ρ:Type} (ret:oE ρ) (c6:oG ρ) (c17:Kx ρ) (c19:oF ρ) (c24:Kx ρ) (c26:Kx ρ) (s:ByteArray) (p:Int) (n:Nat) (o:List Pt):Option ρ :=
 (AD (A1 (AB s)&&Bj (AA (AB s)) p)
 (AD ((Bm (AA (AB s)) p 40).fst)
 (AD (decide (n=n))
 (AD (decide (n=n))
 (AD (decide (n=n))
 (AD (decide ((↑(n+n):Int)*(((16:Nat):Int)+1)≤(↑Bs:Int)))
 (AD (decide (n+n=n+n))
 (ret (F.agg [F.sl (n+n) fun j ↦ if j<n then F.agg [F.int .i64 (o.getD j Pt.zero).x,F.int .i64 (o.getD j Pt.zero).y] else one n (B9 0 fun i ↦ F.agg [F.int .i64 (o.getD i Pt.zero).x,F.int .i64 (o.getD i Pt.zero).y]) (j-n)]) ((Bm (AA (AB s)) p 40).snd))
 none)
 none)
 none)
 none)
 none)
 (AD (decide (n=n))
 (ret (F.agg [F.sl n fun i ↦ F.agg [F.int .i64 (o.getD i Pt.zero).x,F.int .i64 (o.getD i Pt.zero).y]]) ((Bm (AA (AB s)) p 40).snd))
 none))
 none)
mutual
def OV:Nat→(ByteArray)→(Int)→(Nat)→(Nat→F)→(Int)→(Int)→(Int)→(Int)→Option ((F) × (Int))
 | 0,_,_,_,_,_,_,_,_=>none
 | k+1,s,p,n,g,x,y,u,t=>AD (Da (F.sl n g)) (wS (fun rt pq=>some (rt,pq)) (OV k) (Kl k) (Kk k) (Kj k) (Ki k) s p n (BS (F.sl n g)) x y u t) none
 termination_by structural k=>k
def Kl:Nat→(ByteArray)→(Int)→(Nat)→(Nat→F)→Option ((F) × (Int))
 | 0,_,_,_,_=>none
 | k+1,s,p,n,g=>AD (Da (F.sl n g)) (fD (fun rt pq=>some (rt,pq)) (OV k) (Kl k) (Kk k) (Kj k) (Ki k) s p n (BS (F.sl n g))) none
 termination_by structural k=>k
def Kk:Nat→(ByteArray)→(Int)→(Nat)→(Nat→F)→(Int)→Option ((F) × (Int))
 | 0,_,_,_,_,_=>none
 | k+1,s,p,n,g,i=>AD (Da (F.sl n g)) (XR (fun rt pq=>some (rt,pq)) (OV k) (Kl k) (Kk k) (Kj k) (Ki k) s p n (BS (F.sl n g)) i) none
 termination_by structural k=>k
def Kj:Nat→(ByteArray)→(Int)→(Nat)→(Nat→F)→Option ((F) × (Int))
 | 0,_,_,_,_=>none
 | k+1,s,p,n,g=>AD (Da (F.sl n g)) (fC (fun rt pq=>some (rt,pq)) (OV k) (Kl k) (Kk k) (Kj k) (Ki k) s p n (BS (F.sl n g))) none
 termination_by structural k=>k
def Ki:Nat→(ByteArray)→(Int)→(Nat)→(Nat→F)→Option ((F) × (Int))
 | 0,_,_,_,_=>none
 | k+1,s,p,n,g=>AD (Da (F.sl n g)) (fB (fun rt pq=>some (rt,pq)) (OV k) (Kl k) (Kk k) (Kj k) (Ki k) s p n (BS (F.sl n g))) none
 termination_by structural k=>k
end
def T26 {ρ:Type} (ret:oE ρ) (c6:oG ρ) (c17:Kx ρ) (c19:oF ρ) (c24:Kx ρ) (c26:Kx ρ) (s:ByteArray) (p:Int):Option ρ :=
 (AD (A1 (AB s)&&Bj (AA (AB s)) p&&true)
 (AD (A1 (AB s)&&Bj (AA (AB s)) (Ab [F.int .i64 (-6),F.int .i64 4] (AA (AB s)) p).snd&&true)
 (AD (A1 (AB s)&&Bj (AA (AB s)) (Ab [F.int .i64 (-6),F.int .i64 4] (AA (AB s)) (Ab [F.int .i64 (-6),F.int .i64 4] (AA (AB s)) p).snd).snd&&true)
 (AD (A1 (AB s)&&Bj (AA (AB s)) (Ab [F.int .i64 0,F.int .i64 6] (AA (AB s)) (Ab [F.int .i64 (-6),F.int .i64 4] (AA (AB s)) (Ab [F.int .i64 (-6),F.int .i64 4] (AA (AB s)) p).snd).snd).snd&&true)
 (c6 (s) ((Ab [F.int .i64 0,F.int .i64 6] (AA (AB s)) (Ab [F.int .i64 0,F.int .i64 6] (AA (AB s)) (Ab [F.int .i64 (-6),F.int .i64 4] (AA (AB s)) (Ab [F.int .i64 (-6),F.int .i64 4] (AA (AB s)) p).snd).snd).snd).snd) (4) (Ar [F.agg [F.int .i64 (Ax (-6) 4 (AA (AB s)) p).fst,F.int .i64 (Ax (-6) 4 (AA (AB s)) (Ab [F.int .i64 (-6),F.int .i64 4] (AA (AB s)) p).snd).fst],F.agg [F.int .i64 (IntKind.i64.wrap ((Ax (-6) 4 (AA (AB s)) p).fst+IntKind.i64.wrap (1+(Ax 0 6 (AA (AB s)) (Ab [F.int .i64 (-6),F.int .i64 4] (AA (AB s)) (Ab [F.int .i64 (-6),F.int .i64 4] (AA (AB s)) p).snd).snd).fst))),F.int .i64 (Ax (-6) 4 (AA (AB s)) (Ab [F.int .i64 (-6),F.int .i64 4] (AA (AB s)) p).snd).fst],F.agg [F.int .i64 (IntKind.i64.wrap ((Ax (-6) 4 (AA (AB s)) p).fst+IntKind.i64.wrap (1+(Ax 0 6 (AA (AB s)) (Ab [F.int .i64 (-6),F.int .i64 4] (AA (AB s)) (Ab [F.int .i64 (-6),F.int .i64 4] (AA (AB s)) p).snd).snd).fst))),F.int .i64 (IntKind.i64.wrap ((Ax (-6) 4 (AA (AB s)) (Ab [F.int .i64 (-6),F.int .i64 4] (AA (AB s)) p).snd).fst+IntKind.i64.wrap (1+(Ax 0 6 (AA (AB s)) (Ab [F.int .i64 0,F.int .i64 6] (AA (AB s)) (Ab [F.int .i64 (-6),F.int .i64 4] (AA (AB s)) (Ab [F.int .i64 (-6),F.int .i64 4] (AA (AB s)) p).snd).snd).snd).fst)))],F.agg [F.int .i64 (Ax (-6) 4 (AA (AB s)) p).fst,F.int .i64 (IntKind.i64.wrap ((Ax (-6) 4 (AA (AB s)) (Ab [F.int .i64 (-6),F.int .i64 4] (AA (AB s)) p).snd).fst+IntKind.i64.wrap (1+(Ax 0 6 (AA (AB s)) (Ab [F.int .i64 0,F.int .i64 6] (AA (AB s)) (Ab [F.int .i64 (-6),F.int .i64 4] (AA (AB s)) (Ab [F.int .i64 (-6),F.int .i64 4] (AA (AB s)) p).snd).snd).snd).fst)))]]) ((Ax (-6) 4 (AA (AB s)) p).fst) ((Ax (-6) 4 (AA (AB s)) (Ab [F.int .i64 (-6),F.int .i64 4] (AA (AB s)) p).snd).fst) (IntKind.i64.wrap (1+(Ax 0 6 (AA (AB s)) (Ab [F.int .i64 (-6),F.int .i64 4] (AA (AB s)) (Ab [F.int .i64 (-6),F.int .i64 4] (AA (AB s)) p).snd).snd).fst)) (IntKind.i64.wrap (1+(Ax 0 6 (AA (AB s)) (Ab [F.int .i64 0,F.int .i64 6] (AA (AB s)) (Ab [F.int .i64 (-6),F.int .i64 4] (AA (AB s)) (Ab [F.int .i64 (-6),F.int .i64 4] (AA (AB s)) p).snd).snd).snd).fst)))
 none)
 none)
 none)
 none)
def G26 (k:Nat) (s:ByteArray) (p:Int):Option ((F) × (Int)):=T26 (fun rt pq=>some (rt,pq)) (OV k) (Kl k) (Kk k) (Kj k) (Ki k) s p
mutual
theorem t26_6:∀ (k:Nat) (s:ByteArray) (p:Int) (n:Nat) (g:Nat→F) (x:Int) (y:Int) (u:Int) (t:Int) (rt:F) (pq:Int),OV k s p n g x y u t=some (rt,pq)→Ct Tryz.prog 1 Tryz.f26.results.toList (at_ Tryz.f26 6) (Sk s p n g x y u t) (F.tup [rt,F.agg [AB s,F.int .i64 pq]])
 | 0,_,_,_,_,_,_,_,_,_,_,h=>nomatch h
 | k+1,s,p,n,g,x,y,u,t,rt,pq,h=>by
  obtain ⟨hv_g,h⟩:=AI h
  refine AX.weak (st':=S26_6v s p n (BS (F.sl n g)) x y u t) (QK.refl _) (HLe.cons (Ik.refl _) (HLe.cons (Ik.refl _) (HLe.cons (Ik.arr fun j hj=>aV hv_g hj) (HLe.nil)))) ?_
  generalize BS (F.sl n g)=o at h ⊢
  refine AX.of_cut Au IV (T:=[(6,[0,2,3,4,5,6,7],1000),(17,[0,2,7],1000),(19,[0,2,7,8],1000),(24,[0,2,7],1000),(26,[0,2,7],1000)]) (n:=200) ?_
  refine gE (Y:=wS (fun rt pq=>some (.ret (F.tup [rt,F.agg [AB s,F.int .i64 pq]]))) (fun s p n g x y u t=>some (.cut (at_ Tryz.f26 6) (Sk s p n g x y u t))) (fun s p n g=>some (.cut (at_ Tryz.f26 17) (NO s p n g))) (fun s p n g i=>some (.cut (at_ Tryz.f26 19) (NN s p n g i))) (fun s p n g=>some (.cut (at_ Tryz.f26 24) (NM s p n g))) (fun s p n g=>some (.cut (at_ Tryz.f26 26) (NL s p n g))) s p n o x y u t) (by kernel_rfl) ?_
  exact (gS h (fun _ h=>(gS h (fun _ h=>(gS h (fun _ h=>(gS h (fun _ h=>(gS h (fun _ h=>gC (Of k _ _ _ _ rt pq h)) gN)) gN)) gN)) (fun _ h=>(gS h (fun _ h=>gC (Of k _ _ _ _ rt pq h)) (fun _ h=>(gS h (fun _ h=>(gS h (fun _ h=>(gS h (fun _ h=>(gS h (fun _ h=>(gS h (fun _ h=>gC (Of k _ _ _ _ rt pq h)) gN)) gN)) gN)) gN)) (fun _ h=>(gS h (fun _ h=>(gS h (fun _ h=>gC (Of k _ _ _ _ rt pq h)) gN)) (fun _ h=>(gS h (fun _ h=>gC (Of k _ _ _ _ rt pq h)) (fun _ h=>gC (Of k _ _ _ _ rt pq h)))))))))))) gN)
theorem Of:∀ (k:Nat) (s:ByteArray) (p:Int) (n:Nat) (g:Nat→F) (rt:F) (pq:Int),Kl k s p n g=some (rt,pq)→Ct Tryz.prog 1 Tryz.f26.results.toList (at_ Tryz.f26 17) (NO s p n g) (F.tup [rt,F.agg [AB s,F.int .i64 pq]])
 | 0,_,_,_,_,_,_,h=>nomatch h
 | k+1,s,p,n,g,rt,pq,h=>by
  obtain ⟨hv_g,h⟩:=AI h
  refine AX.weak (st':=S26_17v s p n (BS (F.sl n g))) (QK.refl _) (HLe.cons (Ik.refl _) (HLe.cons (Ik.refl _) (HLe.cons (Ik.arr fun j hj=>aV hv_g hj) (HLe.nil)))) ?_
  generalize BS (F.sl n g)=o at h ⊢
  refine AX.of_cut Au IV (T:=[(6,[0,2,3,4,5,6,7],1000),(17,[0,2,7],1000),(19,[0,2,7,8],1000),(24,[0,2,7],1000),(26,[0,2,7],1000)]) (n:=200) ?_
  refine gE (Y:=fD (fun rt pq=>some (.ret (F.tup [rt,F.agg [AB s,F.int .i64 pq]]))) (fun s p n g x y u t=>some (.cut (at_ Tryz.f26 6) (Sk s p n g x y u t))) (fun s p n g=>some (.cut (at_ Tryz.f26 17) (NO s p n g))) (fun s p n g i=>some (.cut (at_ Tryz.f26 19) (NN s p n g i))) (fun s p n g=>some (.cut (at_ Tryz.f26 24) (NM s p n g))) (fun s p n g=>some (.cut (at_ Tryz.f26 26) (NL s p n g))) s p n o) (by kernel_rfl) ?_
  exact (gS h (fun _ h=>(gS h (fun _ h=>gC (pL k _ _ _ _ _ rt pq h)) (fun _ h=>gC (pK k _ _ _ _ rt pq h)))) gN)
theorem pL:∀ (k:Nat) (s:ByteArray) (p:Int) (n:Nat) (g:Nat→F) (i:Int) (rt:F) (pq:Int),Kk k s p n g i=some (rt,pq)→Ct Tryz.prog 1 Tryz.f26.results.toList (at_ Tryz.f26 19) (NN s p n g i) (F.tup [rt,F.agg [AB s,F.int .i64 pq]])
 | 0,_,_,_,_,_,_,_,h=>nomatch h
 | k+1,s,p,n,g,i,rt,pq,h=>by
  obtain ⟨hv_g,h⟩:=AI h
  refine AX.weak (st':=S26_19v s p n (BS (F.sl n g)) i) (QK.refl _) (HLe.cons (Ik.refl _) (HLe.cons (Ik.refl _) (HLe.cons (Ik.arr fun j hj=>aV hv_g hj) (HLe.nil)))) ?_
  generalize BS (F.sl n g)=o at h ⊢
  refine AX.of_cut Au IV (T:=[(6,[0,2,3,4,5,6,7],1000),(17,[0,2,7],1000),(19,[0,2,7,8],1000),(24,[0,2,7],1000),(26,[0,2,7],1000)]) (n:=200) ?_
  refine gE (Y:=XR (fun rt pq=>some (.ret (F.tup [rt,F.agg [AB s,F.int .i64 pq]]))) (fun s p n g x y u t=>some (.cut (at_ Tryz.f26 6) (Sk s p n g x y u t))) (fun s p n g=>some (.cut (at_ Tryz.f26 17) (NO s p n g))) (fun s p n g i=>some (.cut (at_ Tryz.f26 19) (NN s p n g i))) (fun s p n g=>some (.cut (at_ Tryz.f26 24) (NM s p n g))) (fun s p n g=>some (.cut (at_ Tryz.f26 26) (NL s p n g))) s p n o i) (by kernel_rfl) ?_
  exact (gS h (fun _ h=>(gS h (fun _ h=>(gS h (fun _ h=>(gS h (fun _ h=>(gS h (fun _ h=>(gS h (fun _ h=>(gS h (fun _ h=>(gS h (fun _ h=>(gS h (fun _ h=>(gS h (fun _ h=>(gS h (fun _ h=>(gS h (fun _ h=>(gS h (fun _ h=>(gS h (fun _ h=>(gS h (fun _ h=>(gS h (fun _ h=>(gS h (fun _ h=>(gS h (fun _ h=>(gS h (fun _ h=>(gS h (fun _ h=>(gS h (fun _ h=>(gS h (fun _ h=>(gS h (fun _ h=>(gS h (fun _ h=>(gS h (fun _ h=>(gS h (fun _ h=>gC (pL k _ _ _ _ _ rt pq h)) gN)) gN)) gN)) gN)) gN)) gN)) gN)) gN)) gN)) gN)) gN)) gN)) gN)) gN)) gN)) gN)) gN)) gN)) gN)) gN)) gN)) gN)) gN)) gN)) (fun _ h=>gC (pK k _ _ _ _ rt pq h)))) gN)
theorem pK:∀ (k:Nat) (s:ByteArray) (p:Int) (n:Nat) (g:Nat→F) (rt:F) (pq:Int),Kj k s p n g=some (rt,pq)→Ct Tryz.prog 1 Tryz.f26.results.toList (at_ Tryz.f26 24) (NM s p n g) (F.tup [rt,F.agg [AB s,F.int .i64 pq]])
 | 0,_,_,_,_,_,_,h=>nomatch h
 | k+1,s,p,n,g,rt,pq,h=>by
  obtain ⟨hv_g,h⟩:=AI h
  refine AX.weak (st':=S26_24v s p n (BS (F.sl n g))) (QK.refl _) (HLe.cons (Ik.refl _) (HLe.cons (Ik.refl _) (HLe.cons (Ik.arr fun j hj=>aV hv_g hj) (HLe.nil)))) ?_
  generalize BS (F.sl n g)=o at h ⊢
  refine AX.of_cut Au IV (T:=[(6,[0,2,3,4,5,6,7],1000),(17,[0,2,7],1000),(19,[0,2,7,8],1000),(24,[0,2,7],1000),(26,[0,2,7],1000)]) (n:=200) ?_
  refine gE (Y:=fC (fun rt pq=>some (.ret (F.tup [rt,F.agg [AB s,F.int .i64 pq]]))) (fun s p n g x y u t=>some (.cut (at_ Tryz.f26 6) (Sk s p n g x y u t))) (fun s p n g=>some (.cut (at_ Tryz.f26 17) (NO s p n g))) (fun s p n g i=>some (.cut (at_ Tryz.f26 19) (NN s p n g i))) (fun s p n g=>some (.cut (at_ Tryz.f26 24) (NM s p n g))) (fun s p n g=>some (.cut (at_ Tryz.f26 26) (NL s p n g))) s p n o) (by kernel_rfl) ?_
  exact (gS h (fun _ h=>(gS h (fun _ h=>(gS h (fun _ h=>(gS h (fun _ h=>(gS h (fun _ h=>(gS h (fun _ h=>(gS h (fun _ h=>(gS h (fun _ h=>(gS h (fun _ h=>(gS h (fun _ h=>(gS h (fun _ h=>gC (pJ k _ _ _ _ rt pq h)) gN)) gN)) gN)) gN)) gN)) gN)) gN)) gN)) gN)) (fun _ h=>gC (pJ k _ _ _ _ rt pq h)))) gN)
theorem pJ:∀ (k:Nat) (s:ByteArray) (p:Int) (n:Nat) (g:Nat→F) (rt:F) (pq:Int),Ki k s p n g=some (rt,pq)→Ct Tryz.prog 1 Tryz.f26.results.toList (at_ Tryz.f26 26) (NL s p n g) (F.tup [rt,F.agg [AB s,F.int .i64 pq]])
 | 0,_,_,_,_,_,_,h=>nomatch h
 | k+1,s,p,n,g,rt,pq,h=>by
  obtain ⟨hv_g,h⟩:=AI h
  refine AX.weak (st':=S26_26v s p n (BS (F.sl n g))) (QK.refl _) (HLe.cons (Ik.refl _) (HLe.cons (Ik.refl _) (HLe.cons (Ik.arr fun j hj=>aV hv_g hj) (HLe.nil)))) ?_
  generalize BS (F.sl n g)=o at h ⊢
  refine AX.of_cut Au IV (T:=[(6,[0,2,3,4,5,6,7],1000),(17,[0,2,7],1000),(19,[0,2,7,8],1000),(24,[0,2,7],1000),(26,[0,2,7],1000)]) (n:=200) ?_
  refine gE (Y:=fB (fun rt pq=>some (.ret (F.tup [rt,F.agg [AB s,F.int .i64 pq]]))) (fun s p n g x y u t=>some (.cut (at_ Tryz.f26 6) (Sk s p n g x y u t))) (fun s p n g=>some (.cut (at_ Tryz.f26 17) (NO s p n g))) (fun s p n g i=>some (.cut (at_ Tryz.f26 19) (NN s p n g i))) (fun s p n g=>some (.cut (at_ Tryz.f26 24) (NM s p n g))) (fun s p n g=>some (.cut (at_ Tryz.f26 26) (NL s p n g))) s p n o) (by kernel_rfl) ?_
  exact (gS h (fun _ h=>(gS h (fun _ h=>(gS h (fun _ h=>(gS h (fun _ h=>(gS h (fun _ h=>(gS h (fun _ h=>(gS h (fun _ h=>gR (by cases h;rfl)) gN)) gN)) gN)) gN)) gN)) (fun _ h=>(gS h (fun _ h=>gR (by cases h;rfl)) gN)))) gN)
end
theorem t26 (k:Nat) (s:ByteArray) (p:Int) (rt:F) (pq:Int) (h:G26 k s p=some (rt,pq)):Ct Tryz.prog 1 Tryz.f26.results.toList [.code (AT Tryz.f26)] (Cx Tryz.f26.ntmps [U.hp 0 0] [HO.box [U.f (AB s),U.f (F.int .i64 p)]]) (F.tup [rt,F.agg [AB s,F.int .i64 pq]]):=by
 refine AX.of_run Au IV (T:=[(6,[0,2,3,4,5,6,7],1000),(17,[0,2,7],1000),(19,[0,2,7,8],1000),(24,[0,2,7],1000),(26,[0,2,7],1000)]) (n:=200) ?_
 refine gE (Y:=T26 (fun rt pq=>some (.ret (F.tup [rt,F.agg [AB s,F.int .i64 pq]]))) (fun s p n g x y u t=>some (.cut (at_ Tryz.f26 6) (Sk s p n g x y u t))) (fun s p n g=>some (.cut (at_ Tryz.f26 17) (NO s p n g))) (fun s p n g i=>some (.cut (at_ Tryz.f26 19) (NN s p n g i))) (fun s p n g=>some (.cut (at_ Tryz.f26 24) (NM s p n g))) (fun s p n g=>some (.cut (at_ Tryz.f26 26) (NL s p n g))) s p) (by kernel_rfl) ?_
 exact (gS h (fun _ h=>(gS h (fun _ h=>(gS h (fun _ h=>(gS h (fun _ h=>gC (t26_6 k _ _ _ _ _ _ _ _ rt pq h)) gN)) gN)) gN)) gN)
def Vx (s:ByteArray) (x:Option (F × Int)):Prop:=∃ rt q p',x=some (rt,p')∧FLe rt (CN q)∧Bj s p'=true
theorem LF {n:Nat} {g:Nat→F} (h:∀ j,j<n→isPt (g j)=true):Da (.sl n g)=true:=by
 simp only [Da,Dq,List.all_eq_true,List.mem_range]
 exact h
theorem rg_leaf {n:Nat} {g:Nat→F} (h:Da (.sl n g)=true):FLe (.agg [.sl n g]) (CN (BS (.sl n g))):=FLe.agg ⟨(Ee h).1,trivial⟩
theorem L6 (n:Nat) (g:Nat→F):(BS (.sl n g)).length=n:=by rw [BS,NW]
theorem qH {s:ByteArray} (k:Nat) {p:Int} {n:Nat} {g:Nat→F} (hr:Bj s p=true) (hg:Da (.sl n g)=true) (hn:n≤1000):Vx s (Ki (k+1) s p n g):=by
 rw [Ki,hg,AH]
 have hl:n=(BS (.sl n g)).length:=(L6 n g).symm
 generalize BS (.sl n g)=o at hl
 subst hl
 obtain ⟨_,o1⟩:=MN hr 40
 have c1:decide (((o.length+o.length:Nat):Int)*(((16:Nat):Int)+1)≤(Bs:Int))=true:=by rw [Ev];exact decide_eq_true (by omega)
 simp only [fB,BW,BY,hr,c1,Bool.and_self,decide_true,AH]
 cases (Bm s p 40).1 with
 | false=>exact ⟨_,o,_,rfl,.refl _,o1⟩
 | true =>
  refine ⟨_,_,_,rfl,rg_leaf (LF fun j hj=>?_),o1⟩
  by_cases h:j<o.length
  ·rw [if_pos h];rfl
  ·rw [if_neg h,M2 _ (show j-o.length<o.length by omega)];rfl
theorem qJ {s:ByteArray} (k:Nat) {p:Int} {n:Nat} {g:Nat→F} (hr:Bj s p=true) (hg:Da (.sl n g)=true) (h0:0<n) (hn:n≤1000):Vx s (Kj (k+2) s p n g):=by
 rw [Kj,hg,AH]
 have hl:n=(BS (.sl n g)).length:=(L6 n g).symm
 generalize BS (.sl n g)=o at hl
 subst hl
 obtain ⟨_,o1⟩:=MN hr 40
 obtain ⟨_,b1,b2,b3⟩:=If o1 (o.length:Int)
 have hab:-1099511627776≤(-1000000:Int)∧(-1000000:Int)≤1000000∧(1000000:Int)≤1099511627776:=by omega
 obtain ⟨_,o2⟩:=sF b3 hab
 have c1:decide (0≤(AU s (Bm s p 40).2 (o.length:Int)).1)=true:=decide_eq_true b1
 have c2:decide ((AU s (Bm s p 40).2 (o.length:Int)).1<(o.length:Int))=true:=decide_eq_true (by omega)
 have c3:decide (0+(AU s (Bm s p 40).2 (o.length:Int)).1.toNat<o.length)=true:=decide_eq_true (by omega)
 simp only [fC,BW,BY,hr,o1,b3,c1,c2,c3,WT,Bool.and_self,Bool.and_true,decide_true,AH]
 cases (Bm s p 40).1 with
 | false=>exact qH k o1 (LF fun j hj=>rfl) hn
 | true =>
  refine qH k o2 (LF fun j hj=>?_) hn
  split <;> rfl
theorem qK {s:ByteArray} {p:Int} (hr:Bj s p=true):∀ (d i k n:Nat) (g:Nat→F),i+d=n / 2→Da (.sl n g)=true→0<n→n≤1000→Vx s (Kk (k+d+3) s p n g i)
 | d,i,k,n,g,h,hg,h0,hn=>by
  have e:k+d+3=k+d+2+1:=rfl
  rw [e,Kk,hg,AH]
  have hl:n=(BS (.sl n g)).length:=(L6 n g).symm
  generalize BS (.sl n g)=o at hl
  subst hl
  have w0:IntKind.i64.wrap ((o.length:Int).tdiv 2)=((o.length / 2:Nat):Int):=by
   have:(o.length:Int).tdiv 2=((o.length / 2:Nat):Int):=rfl
   rw [this,Il (by omega) (by omega)]
  match d,h with
  | 0,h =>
   have c1:decide ((i:Int)<((o.length / 2:Nat):Int))=false:=decide_eq_false (by omega)
   simp only [XR,w0,c1,AJ,decide_true,AH]
   exact qJ k hr (LF fun j hj=>rfl) h0 hn
  | d+1,h =>
   have c1:decide ((i:Int)<((o.length / 2:Nat):Int))=true:=decide_eq_true (by omega)
   have c2:decide (0≤(i:Int))=true:=decide_eq_true (by omega)
   have c3:decide ((i:Int)<(o.length:Int))=true:=decide_eq_true (by omega)
   have c4:decide (0+i<o.length)=true:=decide_eq_true (by omega)
   have w1:IntKind.i64.wrap (IntKind.i64.wrap ((o.length:Int)-1)-(i:Int))=((o.length-1-i:Nat):Int):=by
    rw [Il (x:=(o.length:Int)-1) (by omega) (by omega),Il (by omega) (by omega)];omega
   have c5:decide (0≤((o.length-1-i:Nat):Int))=true:=decide_eq_true (by omega)
   have c6:decide (((o.length-1-i:Nat):Int)<(o.length:Int))=true:=decide_eq_true (by omega)
   have c7:decide (0+(o.length-1-i)<o.length)=true:=decide_eq_true (by omega)
   have w2:IntKind.i64.wrap ((i:Int)+1)=((i+1:Nat):Int):=by rw [Il (by omega) (by omega)];omega
   have z1:∀ (c:Prop) [Decidable c] (a b a' b':F),decide ((if c then F.agg [a,b] else F.agg [a',b']).cells.length=2)=true:=fun c _ a b a' b'=>by split <;> rfl
   have z2:∀ (c:Prop) [Decidable c] (a b a' b':F),Cd (if c then F.agg [a,b] else F.agg [a',b'])=true:=fun c _ a b a' b'=>by split <;> rfl
   simp only [XR,w0,w1,w2,c1,c2,c3,c4,c5,c6,c7,z1,z2,Int.toNat_natCast,decide_true,Bool.true_or,Bool.and_self,AH]
   have e2:k+(d+1)+2=k+d+3:=by omega
   rw [e2]
   refine qK hr d (i+1) k _ _ (by omega) (LF fun j hj=>?_) h0 hn
   split
   ·rfl
   ·split <;> rfl
theorem On {s:ByteArray} (k:Nat) {p:Int} {n:Nat} {g:Nat→F} (hr:Bj s p=true) (hg:Da (.sl n g)=true) (h0:0<n) (hn:n≤1000):Vx s (Kl (k+n / 2+4) s p n g):=by
 have e:k+n / 2+4=k+n / 2+3+1:=rfl
 rw [e,Kl,hg,AH]
 have hl:n=(BS (.sl n g)).length:=(L6 n g).symm
 generalize BS (.sl n g)=o at hl
 subst hl
 obtain ⟨_,o1⟩:=MN hr 6
 simp only [fD,BW,BY,hr,Bool.and_self,AH]
 cases (Bm s p 6).1 with
 | false=>exact qJ (k+o.length / 2+1) o1 (LF fun j hj=>rfl) h0 hn
 | true=>exact qK o1 (o.length / 2) 0 k _ _ (by omega) (LF fun j hj=>rfl) h0 hn
theorem ring6 {s:ByteArray} (k:Nat) {p:Int} {g:Nat→F} {x y u t:Int} (hr:Bj s p=true) (hg:Da (.sl 4 g)=true):Vx s (OV (k+8) s p 4 g x y u t):=by
 have e:k+8=k+7+1:=rfl
 rw [e,OV,hg,AH]
 generalize BS (.sl 4 g)=o
 obtain ⟨_,_,_,b1⟩:=If hr 8
 obtain ⟨_,s1⟩:=Nc b1
 obtain ⟨_,s2⟩:=Nc s1
 obtain ⟨_,s3⟩:=Nc s2
 obtain ⟨_,s4⟩:=Nc s3
 have hab:-1099511627776≤(-2:Int)∧(-2:Int)≤8∧(8:Int)≤1099511627776:=by omega
 obtain ⟨_,n1⟩:=Ef b1 hab
 simp only [wS,BW,BY,hr,b1,s1,s2,s3,BQ,Ab,Bool.and_self,Bool.and_true,AH]
 have e3:k+7=k+2+3 / 2+4:=by omega
 have e4:k+7=k+1+4 / 2+4:=by omega
 have e6:k+7=k+6 / 2+4:=by omega
 cases ((AU s p 8).1==0) with
 | true =>
  rw [AH,e3]
  refine On (k+2) s3 ?_ (by omega) (by omega)
  rfl
 | false =>
 rw [AJ]
 cases ((AU s p 8).1==1) with
 | true =>
  rw [AH,e6]
  refine On k b1 ?_ (by omega) (by omega)
  rfl
 | false =>
 rw [AJ]
 cases ((AU s p 8).1==2) with
 | true =>
  rw [AH,e4]
  refine On (k+1) s4 ?_ (by omega) (by omega)
  rfl
 | false =>
 rw [AJ]
 cases ((AU s p 8).1==3) with
 | true =>
  rw [AH,e3]
  refine On (k+2) n1 ?_ (by omega) (by omega)
  rfl
 | false =>
 rw [AJ]
 cases ((AU s p 8).1==4) with
 | true =>
  rw [AH,e4]
  refine On (k+1) b1 ?_ (by omega) (by omega)
  rfl
 | false =>
  rw [AJ,e4]
  refine On (k+1) b1 (LF fun j hj=>?_) (by omega) (by omega)
  rfl
theorem LD {s:ByteArray} {p:Int} (hr:Bj s p=true):Vx s (G26 20 s p):=by
 have h1:-1099511627776≤(-6:Int)∧(-6:Int)≤4∧(4:Int)≤1099511627776:=by omega
 have h2:-1099511627776≤(0:Int)∧(0:Int)≤6∧(6:Int)≤1099511627776:=by omega
 obtain ⟨_,n1⟩:=Ef hr h1
 obtain ⟨_,n2⟩:=Ef n1 h1
 obtain ⟨_,n3⟩:=Ef n2 h2
 obtain ⟨_,n4⟩:=Ef n3 h2
 unfold G26 T26
 simp only [BW,BY,hr,n1,n2,n3,Ab,Bool.and_self,Bool.and_true,AH]
 exact ring6 12 n4 rfl
def rgV (s:ByteArray) (p:Int):List Pt × Int:=@dite _ (Bj s p=true) (Classical.propDecidable _) (fun h=>(Classical.choose (Classical.choose_spec (LD h)),Classical.choose (Classical.choose_spec (Classical.choose_spec (LD h))))) fun _=>([],0)
theorem qL {s:ByteArray} {p:Int} (h:Bj s p=true):∃ rt,G26 20 s p=some (rt,(rgV s p).2)∧FLe rt (CN (rgV s p).1)∧Bj s (rgV s p).2=true:=by
 have e:rgV s p=(Classical.choose (Classical.choose_spec (LD h)),Classical.choose (Classical.choose_spec (Classical.choose_spec (LD h)))):=@dif_pos _ (Classical.propDecidable _) h _ _ _
 rw [e]
 exact ⟨_,Classical.choose_spec (Classical.choose_spec (Classical.choose_spec (LD h)))⟩
def Aa:List F→ByteArray→Int→F × Int:=fun _ s p=>(CN (rgV s p).1,(rgV s p).2)
theorem okRing:Gk Tryz.prog 26 (RA isNone Aa) :=
 Y6 (c:=AT Tryz.f26) Tryz.func26 (by kernel_rfl) (by kernel_rfl) fun xs s p hx hr=>match xs,hx with
 | [],hx=>by
  obtain ⟨rt,e,hle,_⟩:=qL hr
  exact ⟨rt,hle,t26 20 s p rt _ e⟩
def envA7:Env:=envD9.add 26 (RA isNone Aa)
theorem Z7:Az Tryz.prog envA7:=(Env.add_ok IV okRing)
end
noncomputable section
/-! ### function 12 -/
def T12 {ρ:Type} (ret:(List F)→(Int)→Option ρ) (s:ByteArray) (p:Int):Option ρ :=
 (AD (A1 (AB s)&&Bj (AA (AB s)) p&&true)
 (AD (A1 (AB s)&&Bj (AA (AB s)) (Aa [] (AA (AB s)) p).snd)
 (AD ((AU (AA (AB s)) (Aa [] (AA (AB s)) p).snd 10).fst==0)
 (ret ([F.tup [F.int .i64 ((1:Nat):Int),F.sl 0 (Ar [])]]) ((AU (AA (AB s)) (Aa [] (AA (AB s)) p).snd 10).snd))
 (AD ((AU (AA (AB s)) (Aa [] (AA (AB s)) p).snd 10).fst==1)
 (AD ((AU (AA (AB s)) (Aa [] (AA (AB s)) p).snd 10).fst==1)
 (AD (A1 (AB s)&&Bj (AA (AB s)) (AU (AA (AB s)) (Aa [] (AA (AB s)) p).snd 10).snd&&true)
 (AD (A1 (AB s)&&Bj (AA (AB s)) (Ab [F.int .i64 (-6),F.int .i64 0] (AA (AB s)) (AU (AA (AB s)) (Aa [] (AA (AB s)) p).snd 10).snd).snd&&true)
 (AD (A1 (AB s)&&Bj (AA (AB s)) (Ab [F.int .i64 (-6),F.int .i64 0] (AA (AB s)) (Ab [F.int .i64 (-6),F.int .i64 0] (AA (AB s)) (AU (AA (AB s)) (Aa [] (AA (AB s)) p).snd 10).snd).snd).snd&&true)
 (AD (A1 (AB s)&&Bj (AA (AB s)) (Ab [F.int .i64 0,F.int .i64 2] (AA (AB s)) (Ab [F.int .i64 (-6),F.int .i64 0] (AA (AB s)) (Ab [F.int .i64 (-6),F.int .i64 0] (AA (AB s)) (AU (AA (AB s)) (Aa [] (AA (AB s)) p).snd 10).snd).snd).snd).snd)
 (AD ((Bm (AA (AB s)) (Ab [F.int .i64 0,F.int .i64 2] (AA (AB s)) (Ab [F.int .i64 (-6),F.int .i64 0] (AA (AB s)) (Ab [F.int .i64 (-6),F.int .i64 0] (AA (AB s)) (AU (AA (AB s)) (Aa [] (AA (AB s)) p).snd 10).snd).snd).snd).snd 2).fst)
 (AD (decide ((↑(2+1):Int)*(((24:Nat):Int)+1)≤(↑Bs:Int)))
 (ret ([F.tup [F.int .i64 ((1:Nat):Int),F.sl (2+1) fun j ↦ if j<2 then Ar [F.agg [F.sl 4 (Ar [F.agg [F.int .i64 (Ax (-6) 0 (AA (AB s)) (AU (AA (AB s)) (Aa [] (AA (AB s)) p).snd 10).snd).fst,F.int .i64 (Ax (-6) 0 (AA (AB s)) (Ab [F.int .i64 (-6),F.int .i64 0] (AA (AB s)) (AU (AA (AB s)) (Aa [] (AA (AB s)) p).snd 10).snd).snd).fst],F.agg [F.int .i64 (IntKind.i64.wrap ((Ax (-6) 0 (AA (AB s)) (AU (AA (AB s)) (Aa [] (AA (AB s)) p).snd 10).snd).fst+7)),F.int .i64 (Ax (-6) 0 (AA (AB s)) (Ab [F.int .i64 (-6),F.int .i64 0] (AA (AB s)) (AU (AA (AB s)) (Aa [] (AA (AB s)) p).snd 10).snd).snd).fst],F.agg [F.int .i64 (IntKind.i64.wrap ((Ax (-6) 0 (AA (AB s)) (AU (AA (AB s)) (Aa [] (AA (AB s)) p).snd 10).snd).fst+7)),F.int .i64 (IntKind.i64.wrap ((Ax (-6) 0 (AA (AB s)) (Ab [F.int .i64 (-6),F.int .i64 0] (AA (AB s)) (AU (AA (AB s)) (Aa [] (AA (AB s)) p).snd 10).snd).snd).fst+7))],F.agg [F.int .i64 (Ax (-6) 0 (AA (AB s)) (AU (AA (AB s)) (Aa [] (AA (AB s)) p).snd 10).snd).fst,F.int .i64 (IntKind.i64.wrap ((Ax (-6) 0 (AA (AB s)) (Ab [F.int .i64 (-6),F.int .i64 0] (AA (AB s)) (AU (AA (AB s)) (Aa [] (AA (AB s)) p).snd 10).snd).snd).fst+7))]])],F.agg [F.sl 4 (Ar [F.agg [F.int .i64 (IntKind.i64.wrap ((Ax (-6) 0 (AA (AB s)) (AU (AA (AB s)) (Aa [] (AA (AB s)) p).snd 10).snd).fst+1)),F.int .i64 (IntKind.i64.wrap ((Ax (-6) 0 (AA (AB s)) (Ab [F.int .i64 (-6),F.int .i64 0] (AA (AB s)) (AU (AA (AB s)) (Aa [] (AA (AB s)) p).snd 10).snd).snd).fst+1))],F.agg [F.int .i64 (IntKind.i64.wrap ((Ax (-6) 0 (AA (AB s)) (AU (AA (AB s)) (Aa [] (AA (AB s)) p).snd 10).snd).fst+1)),F.int .i64 (IntKind.i64.wrap ((Ax (-6) 0 (AA (AB s)) (Ab [F.int .i64 (-6),F.int .i64 0] (AA (AB s)) (AU (AA (AB s)) (Aa [] (AA (AB s)) p).snd 10).snd).snd).fst+5))],F.agg [F.int .i64 (IntKind.i64.wrap ((Ax (-6) 0 (AA (AB s)) (AU (AA (AB s)) (Aa [] (AA (AB s)) p).snd 10).snd).fst+5)),F.int .i64 (IntKind.i64.wrap ((Ax (-6) 0 (AA (AB s)) (Ab [F.int .i64 (-6),F.int .i64 0] (AA (AB s)) (AU (AA (AB s)) (Aa [] (AA (AB s)) p).snd 10).snd).snd).fst+5))],F.agg [F.int .i64 (IntKind.i64.wrap (IntKind.i64.wrap ((Ax (-6) 0 (AA (AB s)) (AU (AA (AB s)) (Aa [] (AA (AB s)) p).snd 10).snd).fst+5)-(Ax 0 2 (AA (AB s)) (Ab [F.int .i64 (-6),F.int .i64 0] (AA (AB s)) (Ab [F.int .i64 (-6),F.int .i64 0] (AA (AB s)) (AU (AA (AB s)) (Aa [] (AA (AB s)) p).snd 10).snd).snd).snd).fst)),F.int .i64 (IntKind.i64.wrap ((Ax (-6) 0 (AA (AB s)) (Ab [F.int .i64 (-6),F.int .i64 0] (AA (AB s)) (AU (AA (AB s)) (Aa [] (AA (AB s)) p).snd 10).snd).snd).fst+1))]])]] j else F.agg [F.sl 3 (Ar [F.agg [F.int .i64 (IntKind.i64.wrap ((Ax (-6) 0 (AA (AB s)) (AU (AA (AB s)) (Aa [] (AA (AB s)) p).snd 10).snd).fst+2)),F.int .i64 (IntKind.i64.wrap ((Ax (-6) 0 (AA (AB s)) (Ab [F.int .i64 (-6),F.int .i64 0] (AA (AB s)) (AU (AA (AB s)) (Aa [] (AA (AB s)) p).snd 10).snd).snd).fst+2))],F.agg [F.int .i64 (IntKind.i64.wrap ((Ax (-6) 0 (AA (AB s)) (AU (AA (AB s)) (Aa [] (AA (AB s)) p).snd 10).snd).fst+3)),F.int .i64 (IntKind.i64.wrap ((Ax (-6) 0 (AA (AB s)) (Ab [F.int .i64 (-6),F.int .i64 0] (AA (AB s)) (AU (AA (AB s)) (Aa [] (AA (AB s)) p).snd 10).snd).snd).fst+2))],F.agg [F.int .i64 (IntKind.i64.wrap ((Ax (-6) 0 (AA (AB s)) (AU (AA (AB s)) (Aa [] (AA (AB s)) p).snd 10).snd).fst+2)),F.int .i64 (IntKind.i64.wrap ((Ax (-6) 0 (AA (AB s)) (Ab [F.int .i64 (-6),F.int .i64 0] (AA (AB s)) (AU (AA (AB s)) (Aa [] (AA (AB s)) p).snd 10).snd).snd).fst+3))]])]]]) ((Bm (AA (AB s)) (Ab [F.int .i64 0,F.int .i64 2] (AA (AB s)) (Ab [F.int .i64 (-6),F.int .i64 0] (AA (AB s)) (Ab [F.int .i64 (-6),F.int .i64 0] (AA (AB s)) (AU (AA (AB s)) (Aa [] (AA (AB s)) p).snd 10).snd).snd).snd).snd 2).snd))
 none)
 (ret ([F.tup [F.int .i64 ((1:Nat):Int),F.sl 2 (Ar [F.agg [F.sl 4 (Ar [F.agg [F.int .i64 (Ax (-6) 0 (AA (AB s)) (AU (AA (AB s)) (Aa [] (AA (AB s)) p).snd 10).snd).fst,F.int .i64 (Ax (-6) 0 (AA (AB s)) (Ab [F.int .i64 (-6),F.int .i64 0] (AA (AB s)) (AU (AA (AB s)) (Aa [] (AA (AB s)) p).snd 10).snd).snd).fst],F.agg [F.int .i64 (IntKind.i64.wrap ((Ax (-6) 0 (AA (AB s)) (AU (AA (AB s)) (Aa [] (AA (AB s)) p).snd 10).snd).fst+7)),F.int .i64 (Ax (-6) 0 (AA (AB s)) (Ab [F.int .i64 (-6),F.int .i64 0] (AA (AB s)) (AU (AA (AB s)) (Aa [] (AA (AB s)) p).snd 10).snd).snd).fst],F.agg [F.int .i64 (IntKind.i64.wrap ((Ax (-6) 0 (AA (AB s)) (AU (AA (AB s)) (Aa [] (AA (AB s)) p).snd 10).snd).fst+7)),F.int .i64 (IntKind.i64.wrap ((Ax (-6) 0 (AA (AB s)) (Ab [F.int .i64 (-6),F.int .i64 0] (AA (AB s)) (AU (AA (AB s)) (Aa [] (AA (AB s)) p).snd 10).snd).snd).fst+7))],F.agg [F.int .i64 (Ax (-6) 0 (AA (AB s)) (AU (AA (AB s)) (Aa [] (AA (AB s)) p).snd 10).snd).fst,F.int .i64 (IntKind.i64.wrap ((Ax (-6) 0 (AA (AB s)) (Ab [F.int .i64 (-6),F.int .i64 0] (AA (AB s)) (AU (AA (AB s)) (Aa [] (AA (AB s)) p).snd 10).snd).snd).fst+7))]])],F.agg [F.sl 4 (Ar [F.agg [F.int .i64 (IntKind.i64.wrap ((Ax (-6) 0 (AA (AB s)) (AU (AA (AB s)) (Aa [] (AA (AB s)) p).snd 10).snd).fst+1)),F.int .i64 (IntKind.i64.wrap ((Ax (-6) 0 (AA (AB s)) (Ab [F.int .i64 (-6),F.int .i64 0] (AA (AB s)) (AU (AA (AB s)) (Aa [] (AA (AB s)) p).snd 10).snd).snd).fst+1))],F.agg [F.int .i64 (IntKind.i64.wrap ((Ax (-6) 0 (AA (AB s)) (AU (AA (AB s)) (Aa [] (AA (AB s)) p).snd 10).snd).fst+1)),F.int .i64 (IntKind.i64.wrap ((Ax (-6) 0 (AA (AB s)) (Ab [F.int .i64 (-6),F.int .i64 0] (AA (AB s)) (AU (AA (AB s)) (Aa [] (AA (AB s)) p).snd 10).snd).snd).fst+5))],F.agg [F.int .i64 (IntKind.i64.wrap ((Ax (-6) 0 (AA (AB s)) (AU (AA (AB s)) (Aa [] (AA (AB s)) p).snd 10).snd).fst+5)),F.int .i64 (IntKind.i64.wrap ((Ax (-6) 0 (AA (AB s)) (Ab [F.int .i64 (-6),F.int .i64 0] (AA (AB s)) (AU (AA (AB s)) (Aa [] (AA (AB s)) p).snd 10).snd).snd).fst+5))],F.agg [F.int .i64 (IntKind.i64.wrap (IntKind.i64.wrap ((Ax (-6) 0 (AA (AB s)) (AU (AA (AB s)) (Aa [] (AA (AB s)) p).snd 10).snd).fst+5)-(Ax 0 2 (AA (AB s)) (Ab [F.int .i64 (-6),F.int .i64 0] (AA (AB s)) (Ab [F.int .i64 (-6),F.int .i64 0] (AA (AB s)) (AU (AA (AB s)) (Aa [] (AA (AB s)) p).snd 10).snd).snd).snd).fst)),F.int .i64 (IntKind.i64.wrap ((Ax (-6) 0 (AA (AB s)) (Ab [F.int .i64 (-6),F.int .i64 0] (AA (AB s)) (AU (AA (AB s)) (Aa [] (AA (AB s)) p).snd 10).snd).snd).fst+1))]])]])]]) ((Bm (AA (AB s)) (Ab [F.int .i64 0,F.int .i64 2] (AA (AB s)) (Ab [F.int .i64 (-6),F.int .i64 0] (AA (AB s)) (Ab [F.int .i64 (-6),F.int .i64 0] (AA (AB s)) (AU (AA (AB s)) (Aa [] (AA (AB s)) p).snd 10).snd).snd).snd).snd 2).snd)))
 none)
 none)
 none)
 none)
 (AD ((AU (AA (AB s)) (Aa [] (AA (AB s)) p).snd 10).fst==3)
 (AD (A1 (AB s)&&Bj (AA (AB s)) (AU (AA (AB s)) (Aa [] (AA (AB s)) p).snd 10).snd&&true)
 (AD (decide ((↑(1+1):Int)*(((24:Nat):Int)+1)≤(↑Bs:Int)))
 (ret ([F.tup [F.int .i64 ((1:Nat):Int),F.sl (1+1) fun j ↦ if j<1 then Ar [F.agg [Ac (rgV (AA (AB s)) p).fst]] j else F.agg [Ac (rgV (AA (AB s)) (AU (AA (AB s)) (Aa [] (AA (AB s)) p).snd 10).snd).fst]]]) ((Aa [] (AA (AB s)) (AU (AA (AB s)) (Aa [] (AA (AB s)) p).snd 10).snd).snd))
 none)
 none)
 (AD ((AU (AA (AB s)) (Aa [] (AA (AB s)) p).snd 10).fst==4)
 (AD (A1 (AB s)&&Bj (AA (AB s)) (AU (AA (AB s)) (Aa [] (AA (AB s)) p).snd 10).snd&&true)
 (AD (decide ((↑(1+1):Int)*(((24:Nat):Int)+1)≤(↑Bs:Int)))
 (ret ([F.tup [F.int .i64 ((1:Nat):Int),F.sl (1+1) fun j ↦ if j<1 then Ar [F.agg [Ac (rgV (AA (AB s)) p).fst]] j else F.agg [F.sl 3 (Ar [F.agg [F.int .i64 (Ax 12 14 (AA (AB s)) (AU (AA (AB s)) (Aa [] (AA (AB s)) p).snd 10).snd).fst,F.int .i64 0],F.agg [F.int .i64 (IntKind.i64.wrap ((Ax 12 14 (AA (AB s)) (AU (AA (AB s)) (Aa [] (AA (AB s)) p).snd 10).snd).fst+2)),F.int .i64 0],F.agg [F.int .i64 (Ax 12 14 (AA (AB s)) (AU (AA (AB s)) (Aa [] (AA (AB s)) p).snd 10).snd).fst,F.int .i64 3]])]]]) ((Ab [F.int .i64 12,F.int .i64 14] (AA (AB s)) (AU (AA (AB s)) (Aa [] (AA (AB s)) p).snd 10).snd).snd))
 none)
 none)
 (ret ([F.tup [F.int .i64 ((1:Nat):Int),F.sl 1 (Ar [F.agg [Ac (rgV (AA (AB s)) p).fst]])]]) ((AU (AA (AB s)) (Aa [] (AA (AB s)) p).snd 10).snd)))))
 (AD ((AU (AA (AB s)) (Aa [] (AA (AB s)) p).snd 10).fst==2)
 (AD (A1 (AB s)&&Bj (AA (AB s)) (AU (AA (AB s)) (Aa [] (AA (AB s)) p).snd 10).snd&&true)
 (AD (A1 (AB s)&&Bj (AA (AB s)) (Ab [F.int .i64 (-6),F.int .i64 0] (AA (AB s)) (AU (AA (AB s)) (Aa [] (AA (AB s)) p).snd 10).snd).snd&&true)
 (AD (A1 (AB s)&&Bj (AA (AB s)) (Ab [F.int .i64 (-6),F.int .i64 0] (AA (AB s)) (Ab [F.int .i64 (-6),F.int .i64 0] (AA (AB s)) (AU (AA (AB s)) (Aa [] (AA (AB s)) p).snd 10).snd).snd).snd&&true)
 (AD (A1 (AB s)&&Bj (AA (AB s)) (Ab [F.int .i64 0,F.int .i64 2] (AA (AB s)) (Ab [F.int .i64 (-6),F.int .i64 0] (AA (AB s)) (Ab [F.int .i64 (-6),F.int .i64 0] (AA (AB s)) (AU (AA (AB s)) (Aa [] (AA (AB s)) p).snd 10).snd).snd).snd).snd)
 (AD ((Bm (AA (AB s)) (Ab [F.int .i64 0,F.int .i64 2] (AA (AB s)) (Ab [F.int .i64 (-6),F.int .i64 0] (AA (AB s)) (Ab [F.int .i64 (-6),F.int .i64 0] (AA (AB s)) (AU (AA (AB s)) (Aa [] (AA (AB s)) p).snd 10).snd).snd).snd).snd 2).fst)
 (AD (decide ((↑(2+1):Int)*(((24:Nat):Int)+1)≤(↑Bs:Int)))
 (ret ([F.tup [F.int .i64 ((1:Nat):Int),F.sl (2+1) fun j ↦ if j<2 then Ar [F.agg [F.sl 4 (Ar [F.agg [F.int .i64 (Ax (-6) 0 (AA (AB s)) (AU (AA (AB s)) (Aa [] (AA (AB s)) p).snd 10).snd).fst,F.int .i64 (Ax (-6) 0 (AA (AB s)) (Ab [F.int .i64 (-6),F.int .i64 0] (AA (AB s)) (AU (AA (AB s)) (Aa [] (AA (AB s)) p).snd 10).snd).snd).fst],F.agg [F.int .i64 (IntKind.i64.wrap ((Ax (-6) 0 (AA (AB s)) (AU (AA (AB s)) (Aa [] (AA (AB s)) p).snd 10).snd).fst+7)),F.int .i64 (Ax (-6) 0 (AA (AB s)) (Ab [F.int .i64 (-6),F.int .i64 0] (AA (AB s)) (AU (AA (AB s)) (Aa [] (AA (AB s)) p).snd 10).snd).snd).fst],F.agg [F.int .i64 (IntKind.i64.wrap ((Ax (-6) 0 (AA (AB s)) (AU (AA (AB s)) (Aa [] (AA (AB s)) p).snd 10).snd).fst+7)),F.int .i64 (IntKind.i64.wrap ((Ax (-6) 0 (AA (AB s)) (Ab [F.int .i64 (-6),F.int .i64 0] (AA (AB s)) (AU (AA (AB s)) (Aa [] (AA (AB s)) p).snd 10).snd).snd).fst+7))],F.agg [F.int .i64 (Ax (-6) 0 (AA (AB s)) (AU (AA (AB s)) (Aa [] (AA (AB s)) p).snd 10).snd).fst,F.int .i64 (IntKind.i64.wrap ((Ax (-6) 0 (AA (AB s)) (Ab [F.int .i64 (-6),F.int .i64 0] (AA (AB s)) (AU (AA (AB s)) (Aa [] (AA (AB s)) p).snd 10).snd).snd).fst+7))]])],F.agg [F.sl 4 (Ar [F.agg [F.int .i64 (IntKind.i64.wrap ((Ax (-6) 0 (AA (AB s)) (AU (AA (AB s)) (Aa [] (AA (AB s)) p).snd 10).snd).fst+1)),F.int .i64 (IntKind.i64.wrap ((Ax (-6) 0 (AA (AB s)) (Ab [F.int .i64 (-6),F.int .i64 0] (AA (AB s)) (AU (AA (AB s)) (Aa [] (AA (AB s)) p).snd 10).snd).snd).fst+1))],F.agg [F.int .i64 (IntKind.i64.wrap ((Ax (-6) 0 (AA (AB s)) (AU (AA (AB s)) (Aa [] (AA (AB s)) p).snd 10).snd).fst+1)),F.int .i64 (IntKind.i64.wrap ((Ax (-6) 0 (AA (AB s)) (Ab [F.int .i64 (-6),F.int .i64 0] (AA (AB s)) (AU (AA (AB s)) (Aa [] (AA (AB s)) p).snd 10).snd).snd).fst+5))],F.agg [F.int .i64 (IntKind.i64.wrap ((Ax (-6) 0 (AA (AB s)) (AU (AA (AB s)) (Aa [] (AA (AB s)) p).snd 10).snd).fst+5)),F.int .i64 (IntKind.i64.wrap ((Ax (-6) 0 (AA (AB s)) (Ab [F.int .i64 (-6),F.int .i64 0] (AA (AB s)) (AU (AA (AB s)) (Aa [] (AA (AB s)) p).snd 10).snd).snd).fst+5))],F.agg [F.int .i64 (IntKind.i64.wrap (IntKind.i64.wrap ((Ax (-6) 0 (AA (AB s)) (AU (AA (AB s)) (Aa [] (AA (AB s)) p).snd 10).snd).fst+5)-(Ax 0 2 (AA (AB s)) (Ab [F.int .i64 (-6),F.int .i64 0] (AA (AB s)) (Ab [F.int .i64 (-6),F.int .i64 0] (AA (AB s)) (AU (AA (AB s)) (Aa [] (AA (AB s)) p).snd 10).snd).snd).snd).fst)),F.int .i64 (IntKind.i64.wrap ((Ax (-6) 0 (AA (AB s)) (Ab [F.int .i64 (-6),F.int .i64 0] (AA (AB s)) (AU (AA (AB s)) (Aa [] (AA (AB s)) p).snd 10).snd).snd).fst+1))]])]] j else F.agg [F.sl 3 (Ar [F.agg [F.int .i64 (IntKind.i64.wrap ((Ax (-6) 0 (AA (AB s)) (AU (AA (AB s)) (Aa [] (AA (AB s)) p).snd 10).snd).fst+2)),F.int .i64 (IntKind.i64.wrap ((Ax (-6) 0 (AA (AB s)) (Ab [F.int .i64 (-6),F.int .i64 0] (AA (AB s)) (AU (AA (AB s)) (Aa [] (AA (AB s)) p).snd 10).snd).snd).fst+2))],F.agg [F.int .i64 (IntKind.i64.wrap ((Ax (-6) 0 (AA (AB s)) (AU (AA (AB s)) (Aa [] (AA (AB s)) p).snd 10).snd).fst+3)),F.int .i64 (IntKind.i64.wrap ((Ax (-6) 0 (AA (AB s)) (Ab [F.int .i64 (-6),F.int .i64 0] (AA (AB s)) (AU (AA (AB s)) (Aa [] (AA (AB s)) p).snd 10).snd).snd).fst+2))],F.agg [F.int .i64 (IntKind.i64.wrap ((Ax (-6) 0 (AA (AB s)) (AU (AA (AB s)) (Aa [] (AA (AB s)) p).snd 10).snd).fst+2)),F.int .i64 (IntKind.i64.wrap ((Ax (-6) 0 (AA (AB s)) (Ab [F.int .i64 (-6),F.int .i64 0] (AA (AB s)) (AU (AA (AB s)) (Aa [] (AA (AB s)) p).snd 10).snd).snd).fst+3))]])]]]) ((Bm (AA (AB s)) (Ab [F.int .i64 0,F.int .i64 2] (AA (AB s)) (Ab [F.int .i64 (-6),F.int .i64 0] (AA (AB s)) (Ab [F.int .i64 (-6),F.int .i64 0] (AA (AB s)) (AU (AA (AB s)) (Aa [] (AA (AB s)) p).snd 10).snd).snd).snd).snd 2).snd))
 none)
 (ret ([F.tup [F.int .i64 ((1:Nat):Int),F.sl 2 (Ar [F.agg [F.sl 4 (Ar [F.agg [F.int .i64 (Ax (-6) 0 (AA (AB s)) (AU (AA (AB s)) (Aa [] (AA (AB s)) p).snd 10).snd).fst,F.int .i64 (Ax (-6) 0 (AA (AB s)) (Ab [F.int .i64 (-6),F.int .i64 0] (AA (AB s)) (AU (AA (AB s)) (Aa [] (AA (AB s)) p).snd 10).snd).snd).fst],F.agg [F.int .i64 (IntKind.i64.wrap ((Ax (-6) 0 (AA (AB s)) (AU (AA (AB s)) (Aa [] (AA (AB s)) p).snd 10).snd).fst+7)),F.int .i64 (Ax (-6) 0 (AA (AB s)) (Ab [F.int .i64 (-6),F.int .i64 0] (AA (AB s)) (AU (AA (AB s)) (Aa [] (AA (AB s)) p).snd 10).snd).snd).fst],F.agg [F.int .i64 (IntKind.i64.wrap ((Ax (-6) 0 (AA (AB s)) (AU (AA (AB s)) (Aa [] (AA (AB s)) p).snd 10).snd).fst+7)),F.int .i64 (IntKind.i64.wrap ((Ax (-6) 0 (AA (AB s)) (Ab [F.int .i64 (-6),F.int .i64 0] (AA (AB s)) (AU (AA (AB s)) (Aa [] (AA (AB s)) p).snd 10).snd).snd).fst+7))],F.agg [F.int .i64 (Ax (-6) 0 (AA (AB s)) (AU (AA (AB s)) (Aa [] (AA (AB s)) p).snd 10).snd).fst,F.int .i64 (IntKind.i64.wrap ((Ax (-6) 0 (AA (AB s)) (Ab [F.int .i64 (-6),F.int .i64 0] (AA (AB s)) (AU (AA (AB s)) (Aa [] (AA (AB s)) p).snd 10).snd).snd).fst+7))]])],F.agg [F.sl 4 (Ar [F.agg [F.int .i64 (IntKind.i64.wrap ((Ax (-6) 0 (AA (AB s)) (AU (AA (AB s)) (Aa [] (AA (AB s)) p).snd 10).snd).fst+1)),F.int .i64 (IntKind.i64.wrap ((Ax (-6) 0 (AA (AB s)) (Ab [F.int .i64 (-6),F.int .i64 0] (AA (AB s)) (AU (AA (AB s)) (Aa [] (AA (AB s)) p).snd 10).snd).snd).fst+1))],F.agg [F.int .i64 (IntKind.i64.wrap ((Ax (-6) 0 (AA (AB s)) (AU (AA (AB s)) (Aa [] (AA (AB s)) p).snd 10).snd).fst+1)),F.int .i64 (IntKind.i64.wrap ((Ax (-6) 0 (AA (AB s)) (Ab [F.int .i64 (-6),F.int .i64 0] (AA (AB s)) (AU (AA (AB s)) (Aa [] (AA (AB s)) p).snd 10).snd).snd).fst+5))],F.agg [F.int .i64 (IntKind.i64.wrap ((Ax (-6) 0 (AA (AB s)) (AU (AA (AB s)) (Aa [] (AA (AB s)) p).snd 10).snd).fst+5)),F.int .i64 (IntKind.i64.wrap ((Ax (-6) 0 (AA (AB s)) (Ab [F.int .i64 (-6),F.int .i64 0] (AA (AB s)) (AU (AA (AB s)) (Aa [] (AA (AB s)) p).snd 10).snd).snd).fst+5))],F.agg [F.int .i64 (IntKind.i64.wrap (IntKind.i64.wrap ((Ax (-6) 0 (AA (AB s)) (AU (AA (AB s)) (Aa [] (AA (AB s)) p).snd 10).snd).fst+5)-(Ax 0 2 (AA (AB s)) (Ab [F.int .i64 (-6),F.int .i64 0] (AA (AB s)) (Ab [F.int .i64 (-6),F.int .i64 0] (AA (AB s)) (AU (AA (AB s)) (Aa [] (AA (AB s)) p).snd 10).snd).snd).snd).fst)),F.int .i64 (IntKind.i64.wrap ((Ax (-6) 0 (AA (AB s)) (Ab [F.int .i64 (-6),F.int .i64 0] (AA (AB s)) (AU (AA (AB s)) (Aa [] (AA (AB s)) p).snd 10).snd).snd).fst+1))]])]])]]) ((Bm (AA (AB s)) (Ab [F.int .i64 0,F.int .i64 2] (AA (AB s)) (Ab [F.int .i64 (-6),F.int .i64 0] (AA (AB s)) (Ab [F.int .i64 (-6),F.int .i64 0] (AA (AB s)) (AU (AA (AB s)) (Aa [] (AA (AB s)) p).snd 10).snd).snd).snd).snd 2).snd)))
 none)
 none)
 none)
 none)
 (AD ((AU (AA (AB s)) (Aa [] (AA (AB s)) p).snd 10).fst==3)
 (AD (A1 (AB s)&&Bj (AA (AB s)) (AU (AA (AB s)) (Aa [] (AA (AB s)) p).snd 10).snd&&true)
 (AD (decide ((↑(1+1):Int)*(((24:Nat):Int)+1)≤(↑Bs:Int)))
 (ret ([F.tup [F.int .i64 ((1:Nat):Int),F.sl (1+1) fun j ↦ if j<1 then Ar [F.agg [Ac (rgV (AA (AB s)) p).fst]] j else F.agg [Ac (rgV (AA (AB s)) (AU (AA (AB s)) (Aa [] (AA (AB s)) p).snd 10).snd).fst]]]) ((Aa [] (AA (AB s)) (AU (AA (AB s)) (Aa [] (AA (AB s)) p).snd 10).snd).snd))
 none)
 none)
 (AD ((AU (AA (AB s)) (Aa [] (AA (AB s)) p).snd 10).fst==4)
 (AD (A1 (AB s)&&Bj (AA (AB s)) (AU (AA (AB s)) (Aa [] (AA (AB s)) p).snd 10).snd&&true)
 (AD (decide ((↑(1+1):Int)*(((24:Nat):Int)+1)≤(↑Bs:Int)))
 (ret ([F.tup [F.int .i64 ((1:Nat):Int),F.sl (1+1) fun j ↦ if j<1 then Ar [F.agg [Ac (rgV (AA (AB s)) p).fst]] j else F.agg [F.sl 3 (Ar [F.agg [F.int .i64 (Ax 12 14 (AA (AB s)) (AU (AA (AB s)) (Aa [] (AA (AB s)) p).snd 10).snd).fst,F.int .i64 0],F.agg [F.int .i64 (IntKind.i64.wrap ((Ax 12 14 (AA (AB s)) (AU (AA (AB s)) (Aa [] (AA (AB s)) p).snd 10).snd).fst+2)),F.int .i64 0],F.agg [F.int .i64 (Ax 12 14 (AA (AB s)) (AU (AA (AB s)) (Aa [] (AA (AB s)) p).snd 10).snd).fst,F.int .i64 3]])]]]) ((Ab [F.int .i64 12,F.int .i64 14] (AA (AB s)) (AU (AA (AB s)) (Aa [] (AA (AB s)) p).snd 10).snd).snd))
 none)
 none)
 (ret ([F.tup [F.int .i64 ((1:Nat):Int),F.sl 1 (Ar [F.agg [Ac (rgV (AA (AB s)) p).fst]])]]) ((AU (AA (AB s)) (Aa [] (AA (AB s)) p).snd 10).snd)))))))
 none)
 none)
def G12 (s:ByteArray) (p:Int):Option ((List F) × (Int)):=T12 (fun rt pq=>some (rt,pq)) s p
theorem t12 (s:ByteArray) (p:Int) (rt:List F) (pq:Int) (h:G12 s p=some (rt,pq)):Ct Tryz.prog 1 (ResultVar.tmp 1000003 :: Go.Proofs.Tryz.f12.results.toList) [.code (AT Tryz.f12)] (Cx Tryz.f12.ntmps [U.hp 0 0] [HO.box [U.f (AB s),U.f (F.int .i64 p)]]) (F.tup [F.tup rt,F.agg [AB s,F.int .i64 pq]]):=by
 refine AX.of_run Au Z7 (T:=[]) (n:=200) ?_
 refine gE (Y:=T12 (fun rt pq=>some (.ret (F.tup [F.tup rt,F.agg [AB s,F.int .i64 pq]]))) s p) (by kernel_rfl) ?_
 exact (gS h (fun _ h=>(gS h (fun _ h=>(gS h (fun _ h=>gR (by cases h;rfl)) (fun _ h=>(gS h (fun _ h=>(gS h (fun _ h=>(gS h (fun _ h=>(gS h (fun _ h=>(gS h (fun _ h=>(gS h (fun _ h=>(gS h (fun _ h=>(gS h (fun _ h=>gR (by cases h;rfl)) gN)) (fun _ h=>gR (by cases h;rfl)))) gN)) gN)) gN)) gN)) (fun _ h=>(gS h (fun _ h=>(gS h (fun _ h=>(gS h (fun _ h=>gR (by cases h;rfl)) gN)) gN)) (fun _ h=>(gS h (fun _ h=>(gS h (fun _ h=>(gS h (fun _ h=>gR (by cases h;rfl)) gN)) gN)) (fun _ h=>gR (by cases h;rfl)))))))) (fun _ h=>(gS h (fun _ h=>(gS h (fun _ h=>(gS h (fun _ h=>(gS h (fun _ h=>(gS h (fun _ h=>(gS h (fun _ h=>(gS h (fun _ h=>gR (by cases h;rfl)) gN)) (fun _ h=>gR (by cases h;rfl)))) gN)) gN)) gN)) gN)) (fun _ h=>(gS h (fun _ h=>(gS h (fun _ h=>(gS h (fun _ h=>gR (by cases h;rfl)) gN)) gN)) (fun _ h=>(gS h (fun _ h=>(gS h (fun _ h=>(gS h (fun _ h=>gR (by cases h;rfl)) gN)) gN)) (fun _ h=>gR (by cases h;rfl)))))))))))) gN)) gN)
def LyRes (s:ByteArray) (x:Option (List F × Int)):Prop:=∃ (n:Nat) (g:Nat→F) (p':Int),x=some ([.tup [.int .i64 ((1:Nat):Int),.sl n g]],p')∧BR (.sl n g)=true∧Bj s p'=true∧n≤3
theorem IH {n:Nat} {g:Nat→F} (h:∀ j,j<n→BJ (g j)=true):BR (.sl n g)=true:=by
 simp only [BR,Dq,List.all_eq_true,List.mem_range]
 exact h
theorem Gz {s:ByteArray} {p:Int} (hr:Bj s p=true):LyRes s (G12 s p):=by
 have h1:-1099511627776≤(-6:Int)∧(-6:Int)≤0∧(0:Int)≤1099511627776:=by omega
 have h2:-1099511627776≤(0:Int)∧(0:Int)≤2∧(2:Int)≤1099511627776:=by omega
 have h3:-1099511627776≤(12:Int)∧(12:Int)≤14∧(14:Int)≤1099511627776:=by omega
 obtain ⟨_,_,_,r1⟩:=qL hr
 obtain ⟨_,_,_,b1⟩:=If r1 10
 obtain ⟨_,n1⟩:=Ef b1 h1
 obtain ⟨_,n2⟩:=Ef n1 h1
 obtain ⟨_,n3⟩:=Ef n2 h2
 obtain ⟨_,o3⟩:=MN n3 2
 obtain ⟨_,f1⟩:=Ef b1 h3
 obtain ⟨_,_,_,r2⟩:=qL b1
 have l3:decide ((2+1:Int)*(((24:Nat):Int)+1)≤(Bs:Int))=true:=by rw [Ev];exact decide_eq_true (by omega)
 have l2:decide ((1+1:Int)*(((24:Nat):Int)+1)≤(Bs:Int))=true:=by rw [Ev];exact decide_eq_true (by omega)
 unfold G12 T12
 simp only [BW,BY,hr,r1,b1,n1,n2,n3,l2,l3,Aa,Ab,Bool.and_self,Bool.and_true,AH]
 generalize hx:rgV s (AU s (rgV s p).2 10).2=x2 at r2
 obtain ⟨q2,p2⟩:=x2
 generalize (Bm s (Ax 0 2 s (Ax (-6) 0 s (Ax (-6) 0 s (AU s (rgV s p).2 10).2).2).2).2 2)=o at o3
 obtain ⟨ob,p3⟩:=o
 simp only at o3 r2 ⊢
 cases ((AU s (rgV s p).2 10).1==0) with
 | true =>
  rw [AH]
  exact ⟨0,_,_,rfl,rfl,b1,by omega⟩
 | false =>
 rw [AJ]
 cases ((AU s (rgV s p).2 10).1==1) with
 | true =>
  simp only [AH]
  cases ob with
  | true =>
   rw [AH]
   refine ⟨3,_,_,rfl,IH fun j hj=>?_,o3,by omega⟩
   match j,hj with
   | 0,_=>rfl
   | 1,_=>rfl
   | 2,_=>rfl
  | false =>
   rw [AJ]
   refine ⟨2,_,_,rfl,IH fun j hj=>?_,o3,by omega⟩
   match j,hj with
   | 0,_=>rfl
   | 1,_=>rfl
 | false =>
 simp only [AJ]
 cases ((AU s (rgV s p).2 10).1==2) with
 | true =>
  rw [AH]
  cases ob with
  | true =>
   rw [AH]
   refine ⟨3,_,_,rfl,IH fun j hj=>?_,o3,by omega⟩
   match j,hj with
   | 0,_=>rfl
   | 1,_=>rfl
   | 2,_=>rfl
  | false =>
   rw [AJ]
   refine ⟨2,_,_,rfl,IH fun j hj=>?_,o3,by omega⟩
   match j,hj with
   | 0,_=>rfl
   | 1,_=>rfl
 | false =>
 rw [AJ]
 cases ((AU s (rgV s p).2 10).1==3) with
 | true =>
  rw [AH]
  refine ⟨2,_,_,rfl,IH fun j hj=>?_,r2,by omega⟩
  match j,hj with
  | 0,_=>exact BH _
  | 1,_=>exact BH _
 | false =>
 rw [AJ]
 cases ((AU s (rgV s p).2 10).1==4) with
 | true =>
  rw [AH]
  refine ⟨2,_,_,rfl,IH fun j hj=>?_,f1,by omega⟩
  match j,hj with
  | 0,_=>exact BH _
  | 1,_=>rfl
 | false =>
  rw [AJ]
  refine ⟨1,_,_,rfl,IH fun j hj=>?_,b1,by omega⟩
  match j,hj with
  | 0,_=>exact BH _
def lyN (s:ByteArray) (p:Int):Nat:=@dite _ (Bj s p=true) (Classical.propDecidable _) (fun h=>Classical.choose (Gz h)) fun _=>0
def lyG (s:ByteArray) (p:Int):Nat→F:=@dite _ (Bj s p=true) (Classical.propDecidable _) (fun h=>Classical.choose (Classical.choose_spec (Gz h))) fun _ _=>.dflt
def lyP (s:ByteArray) (p:Int):Int:=@dite _ (Bj s p=true) (Classical.propDecidable _) (fun h=>Classical.choose (Classical.choose_spec (Classical.choose_spec (Gz h)))) fun _=>0
theorem ly_ok {s:ByteArray} {p:Int} (h:Bj s p=true):G12 s p=some ([.tup [.int .i64 ((1:Nat):Int),.sl (lyN s p) (lyG s p)]],lyP s p)∧BR (.sl (lyN s p) (lyG s p))=true∧Bj s (lyP s p)=true∧lyN s p≤3:=by
 have e1:lyN s p=Classical.choose (Gz h):=@dif_pos _ (Classical.propDecidable _) h _ _ _
 have e2:lyG s p=Classical.choose (Classical.choose_spec (Gz h)):=@dif_pos _ (Classical.propDecidable _) h _ _ _
 have e3:lyP s p=Classical.choose (Classical.choose_spec (Classical.choose_spec (Gz h))):=@dif_pos _ (Classical.propDecidable _) h _ _ _
 rw [e1,e2,e3]
 exact Classical.choose_spec (Classical.choose_spec (Classical.choose_spec (Gz h)))
def rE (cs xs:List F):Bool:=S4 cs&&isNone xs
def resLy:List F→List F→List F × List F
 | [b,.int .i64 p],_=>([.tup [.int .i64 ((1:Nat):Int),.sl (lyN (AA b) p) (lyG (AA b) p)]],[b,.int .i64 (lyP (AA b) p)])
 | _,_=>([],[])
theorem okLy:Gk Tryz.prog 12 (cJ rE resLy) :=
 fn_ptro (c:=AT Tryz.f12) Tryz.func12 (by kernel_rfl) (by kernel_rfl) fun cs xs hp=>by
  simp only [rE,Bool.and_eq_true] at hp
  obtain ⟨b,p,rfl,hb,hr⟩:=JR hp.1
  have hx:=hp.2
  match xs,hx with
  | [],_ =>
   exact ⟨[AB (AA b),.int .i64 p],[],_,_,⟨(Ci hb).1,.refl _,trivial⟩,E5.refl _,t12 (AA b) p _ _ (ly_ok hr).1,⟨TF.of (.obj _ _ _ _ _ fun _ _=>rfl),trivial⟩,⟨(Ci hb).2,.refl _,trivial⟩⟩
def envA8:Env:=envA7.add 12 (cJ rE resLy)
theorem Z6:Az Tryz.prog envA8:=(Env.add_ok Z7 okLy)
end
def bI (b:Bool):Int:=bif b then 1 else 0
def sgS (uy vy:Int):Int:=bif decide (uy<vy) then 1 else -1
def sgC (ux uy vx vy px py:Int):Int:=bif Cn ux uy vx vy px py then sgS uy vy else 0
def tB (px py qx qy wx wy:Int):Int:=bif decide (py≤qy) then bI (DU px py qx qy wx wy) else 0-bI (DU qx qy px py wx wy)
def upK (ax ay bx bY:Int):Bool:=decide (bY<ay) || (decide (bY=ay)&&decide (ax<bx))
def XB (ax ay bx bY cx cy:Int):Bool:=bif decide (0<AK ax ay bx bY cx cy) then upK ax ay bx bY&&upK bx bY cx cy else upK ax ay bx bY || upK bx bY cx cy
theorem W8 {ux uy vx vy px py:Int} (h:Cn ux uy vx vy px py=true):(uy≤py∧py<vy) ∨ (vy≤py∧py<uy):=by
 unfold Cn at h
 by_cases h1:uy > py <;> by_cases h2:vy > py <;> simp [h1,h2] at h <;> omega
theorem X4 {px py qx qy wx wy:Int} (h:DU px py qx qy wx wy=true):py<wy∧wy≤qy:=by
 unfold DU at h
 simp only [Bool.and_eq_true,decide_eq_true_eq] at h
 exact h.1
theorem Vd {ux uy vx vy px py qx qy:Int} (hpq:py≤qy) (h:Cj px py qx qy ux uy vx vy) :
  sgC ux uy vx vy qx qy-sgC ux uy vx vy px py=bI (DU px py qx qy ux uy)-bI (DU px py qx qy vx vy):=by
 have e:=aC hpq h
 have c1:=@W8 ux uy vx vy px py
 have c2:=@W8 ux uy vx vy qx qy
 have s1:=@X4 px py qx qy ux uy
 have s2:=@X4 px py qx qy vx vy
 unfold sgC sgS bI
 generalize Cn ux uy vx vy px py=b1 at *
 generalize Cn ux uy vx vy qx qy=b2 at *
 generalize DU px py qx qy ux uy=b3 at *
 generalize DU px py qx qy vx vy=b4 at *
 by_cases hu:uy<vy
 ·rw [decide_eq_true hu]
  cases b1 <;> cases b2 <;> cases b3 <;> cases b4 <;> simp at * <;> omega
 ·rw [decide_eq_false hu]
  cases b1 <;> cases b2 <;> cases b3 <;> cases b4 <;> simp at * <;> omega
theorem SK {ux uy vx vy px py qx qy:Int} (h:Cj px py qx qy ux uy vx vy) :
  sgC ux uy vx vy qx qy-sgC ux uy vx vy px py=tB px py qx qy ux uy-tB px py qx qy vx vy:=by
 unfold tB
 by_cases hpq:py≤qy
 ·rw [decide_eq_true hpq]
  exact Vd hpq h
 ·rw [decide_eq_false hpq]
  have:=Vd (show qy≤py by omega) (Ek h)
  simp only [cond_false]
  omega
theorem LG {x y:Int} (h:0<x*y):(0<x∧0<y) ∨ (x<0∧y<0):=by
 rcases Int.lt_trichotomy x 0 with h1 | h1 | h1
 ·rcases Int.lt_or_le y 0 with h2 | h2
  ·exact .inr ⟨h1,h2⟩
  ·have:=Int.mul_nonpos_of_nonpos_of_nonneg (Int.le_of_lt h1) h2;omega
 ·subst h1;simp at h
 ·rcases Int.lt_or_le 0 y with h2 | h2
  ·exact .inl ⟨h1,h2⟩
  ·have:=Int.mul_nonpos_of_nonneg_of_nonpos (Int.le_of_lt h1) h2;omega
theorem Nz {x y:Int} (h:x*y<0):(0<x∧y<0) ∨ (x<0∧0<y):=by
 have:0<x*(-y):=by rw [Int.mul_neg];omega
 rcases LG this with ⟨a,b⟩ | ⟨a,b⟩ <;> omega
theorem tP {ax ay bx bY cx cy:Int} (hs:AK ax ay bx bY cx cy=0→upK ax ay bx bY=upK bx bY cx cy) (hbc:bx ≠ cx ∨ bY ≠ cy) :
  sgC ax ay bx bY cx cy-tB bx bY cx cy ax ay=bI (upK bx bY cx cy)-bI (XB ax ay bx bY cx cy):=by
 have r1:AK bx bY cx cy ax ay=AK ax ay bx bY cx cy:=by unfold AK;grind
 have r2:AK cx cy bx bY ax ay =-AK ax ay bx bY cx cy:=by unfold AK;grind
 have r3:AK bx bY ax ay cx cy =-AK ax ay bx bY cx cy:=by unfold AK;grind
 have f1:ay=bY→AK ax ay bx bY cx cy=(bx-ax)*(cy-bY):=fun e=>by subst e;unfold AK;grind
 have f2:cy=bY→AK ax ay bx bY cx cy=(bY-ay)*(bx-cx):=fun e=>by subst e;unfold AK;grind
 unfold XB sgC sgS tB DU Cn
 rw [r1,r2,r3]
 generalize AK ax ay bx bY cx cy=s at *
 rcases Int.lt_trichotomy s 0 with h0 | h0 | h0
 ·have g1:ay=bY→(0<bx-ax∧cy-bY<0) ∨ (bx-ax<0∧0<cy-bY):=fun e=>Nz (by rw [← f1 e];exact h0)
  have g2:cy=bY→(0<bY-ay∧bx-cx<0) ∨ (bY-ay<0∧0<bx-cx):=fun e=>Nz (by rw [← f2 e];exact h0)
  have h1:¬ 0<s:=by omega
  have h2:0 < -s:=by omega
  have h3:¬ -s<0:=by omega
  clear f1 f2 r1 r2 r3 hs
  simp only [upK,bI,h0,h1,h2,h3,decide_true,decide_false,Bool.and_true,Bool.and_false]
  grind
 ·have hs':=hs h0
  have h1:¬ 0<s:=by omega
  have h2:¬ s<0:=by omega
  have h3:¬ 0 < -s:=by omega
  have h4:¬ -s<0:=by omega
  simp [hs',h1,h2,h3,h4,bI]
 ·have g1:ay=bY→(0<bx-ax∧0<cy-bY) ∨ (bx-ax<0∧cy-bY<0):=fun e=>LG (by rw [← f1 e];exact h0)
  have g2:cy=bY→(0<bY-ay∧0<bx-cx) ∨ (bY-ay<0∧bx-cx<0):=fun e=>LG (by rw [← f2 e];exact h0)
  have h1:¬ s<0:=by omega
  have h2:-s<0:=by omega
  have h3:¬ 0 < -s:=by omega
  clear f1 f2 r1 r2 r3 hs
  simp only [upK,bI,h0,h1,h2,h3,decide_true,decide_false,Bool.and_true,Bool.and_false]
  grind
theorem tO {ax ay bx bY cx cy:Int} (hs:AK ax ay bx bY cx cy=0→upK ax ay bx bY=upK bx bY cx cy) (hab:ax ≠ bx ∨ ay ≠ bY) (hbc:bx ≠ cx ∨ bY ≠ cy) :
  tB ax ay bx bY cx cy-sgC bx bY cx cy ax ay=bI (XB ax ay bx bY cx cy)-bI (upK ax ay bx bY):=by
 have r1:AK bx bY cx cy ax ay=AK ax ay bx bY cx cy:=by unfold AK;grind
 have r2:AK cx cy bx bY ax ay =-AK ax ay bx bY cx cy:=by unfold AK;grind
 have r3:AK bx bY ax ay cx cy =-AK ax ay bx bY cx cy:=by unfold AK;grind
 have f1:ay=bY→AK ax ay bx bY cx cy=(bx-ax)*(cy-bY):=fun e=>by subst e;unfold AK;grind
 have f2:cy=bY→AK ax ay bx bY cx cy=(bY-ay)*(bx-cx):=fun e=>by subst e;unfold AK;grind
 unfold XB sgC sgS tB DU Cn
 rw [r1,r2,r3]
 generalize AK ax ay bx bY cx cy=s at *
 rcases Int.lt_trichotomy s 0 with h0 | h0 | h0
 ·have g1:ay=bY→(0<bx-ax∧cy-bY<0) ∨ (bx-ax<0∧0<cy-bY):=fun e=>Nz (by rw [← f1 e];exact h0)
  have g2:cy=bY→(0<bY-ay∧bx-cx<0) ∨ (bY-ay<0∧0<bx-cx):=fun e=>Nz (by rw [← f2 e];exact h0)
  have h1:¬ 0<s:=by omega
  have h2:0 < -s:=by omega
  have h3:¬ -s<0:=by omega
  clear f1 f2 r1 r2 r3 hs
  simp only [upK,bI,h0,h1,h2,h3,decide_true,decide_false,Bool.and_true,Bool.and_false]
  grind
 ·have hs':=hs h0
  have h1:¬ 0<s:=by omega
  have h2:¬ s<0:=by omega
  have h3:¬ 0 < -s:=by omega
  have h4:¬ -s<0:=by omega
  simp [hs',h1,h2,h3,h4,bI]
 ·have g1:ay=bY→(0<bx-ax∧0<cy-bY) ∨ (bx-ax<0∧cy-bY<0):=fun e=>LG (by rw [← f1 e];exact h0)
  have g2:cy=bY→(0<bY-ay∧0<bx-cx) ∨ (bY-ay<0∧bx-cx<0):=fun e=>LG (by rw [← f2 e];exact h0)
  have h1:¬ s<0:=by omega
  have h2:-s<0:=by omega
  have h3:¬ 0 < -s:=by omega
  clear f1 f2 r1 r2 r3 hs
  simp only [upK,bI,h0,h1,h2,h3,decide_true,decide_false,Bool.and_true,Bool.and_false]
  grind
/-! Sums. -/
def Aj (f:Nat→Int):Nat→Int
 | 0=>0
 | n+1=>Aj f n+f n
theorem A9 {f g:Nat→Int}:∀ n,(∀ i,i<n→f i=g i)→Aj f n=Aj g n
 | 0,_=>rfl
 | n+1,h=>by rw [Aj,Aj,A9 n fun i hi=>h i (by omega),h n (by omega)]
theorem Gu (f g:Nat→Int):∀ n,Aj (fun i=>f i+g i) n=Aj f n+Aj g n
 | 0=>rfl
 | n+1=>by rw [Aj,Aj,Aj,Gu f g n];omega
theorem Hy (f g:Nat→Int):∀ n,Aj (fun i=>f i-g i) n=Aj f n-Aj g n
 | 0=>rfl
 | n+1=>by rw [Aj,Aj,Aj,Hy f g n];omega
theorem DP (c:Int) (f:Nat→Int):∀ n,Aj (fun i=>c*f i) n=c*Aj f n
 | 0=>by simp [Aj]
 | n+1=>by rw [Aj,Aj,DP c f n,Int.mul_add]
theorem DG {f:Nat→Int}:∀ n,(∀ i,i<n→f i=0)→Aj f n=0
 | 0,_=>rfl
 | n+1,h=>by rw [Aj,DG n fun i hi=>h i (by omega),h n (by omega)];rfl
theorem Gs (f:Nat→Int):∀ n,Aj f (n+1)=f 0+Aj (fun i=>f (i+1)) n
 | 0=>by simp [Aj]
 | n+1=>by rw [Aj,Gs f n,Aj];omega
theorem L8 {f:Nat→Int} {n:Nat} (h:f n=f 0):Aj (fun i=>f (i+1)) n=Aj f n:=by
 have:=Gs f n
 rw [Aj] at this
 omega
theorem ID (f:Nat→Nat→Int) (m:Nat):∀ n,Aj (fun i=>Aj (fun j=>f i j) m) n=Aj (fun j=>Aj (fun i=>f i j) n) m
 | 0=>(DG m fun j _=>rfl).symm
 | n+1=>by rw [Aj,ID f m n,← Gu];rfl
theorem D4 {f:Nat→Int}:∀ n,(∀ i,i<n→0≤f i)→0≤Aj f n
 | 0,_=>Int.le_refl _
 | n+1,h=>by
  have:=D4 n fun i hi=>h i (by omega)
  have:=h n (by omega)
  rw [Aj];omega
theorem Oi {f:Nat→Int}:∀ n,(∀ i,i<n→0≤f i)→(∃ i,i<n∧0<f i)→0<Aj f n
 | 0,_,h=>by obtain ⟨i,hi,_⟩:=h;omega
 | n+1,h,⟨i,hi,h1⟩=>by
  rw [Aj]
  have h2:=h n (by omega)
  by_cases e:i=n
  ·subst e
   have:=D4 i fun j hj=>h j (by omega)
   omega
  ·have:=Oi n (fun j hj=>h j (by omega)) ⟨i,by omega,h1⟩
   omega
theorem JM {f:Nat→Int} {j:Nat}:∀ n,j<n→(∀ i,i<n→i ≠ j→f i=0)→Aj f n=f j
 | 0,hj,_=>by omega
 | n+1,hj,h=>by
  rw [Aj]
  by_cases e:j=n
  ·subst e
   rw [DG j fun i hi=>h i (by omega) (by omega)];omega
  ·rw [JM n (by omega) fun i hi=>h i (by omega),h n (by omega) (by omega)];omega
/-! Loops: rows of points that come back after n steps; sides meet next ones alone, at their common end. -/
structure Loop (X Y:Nat→Int) (n:Nat):Prop where
 n3:3≤n
 px:∀ i,X (i+n)=X i
 py:∀ i,Y (i+n)=Y i
 far:∀ i t,2≤t→t+2≤n→DM (X i) (Y i) (X (i+1)) (Y (i+1)) (X (i+t)) (Y (i+t)) (X (i+t+1)) (Y (i+t+1))
 ne:∀ i,X i ≠ X (i+1) ∨ Y i ≠ Y (i+1)
 turn:∀ i,AK (X i) (Y i) (X (i+1)) (Y (i+1)) (X (i+2)) (Y (i+2))=0→upK (X i) (Y i) (X (i+1)) (Y (i+1))=upK (X (i+1)) (Y (i+1)) (X (i+2)) (Y (i+2))
def GB (X Y:Nat→Int) (n:Nat) (px py:Int):Int:=Aj (fun i=>sgC (X i) (Y i) (X (i+1)) (Y (i+1)) px py) n
def Eo (X Y:Nat→Int) (i:Nat):Bool:=XB (X i) (Y i) (X (i+1)) (Y (i+1)) (X (i+2)) (Y (i+2))
theorem Loop.shift {X Y:Nat→Int} {n:Nat} (h:Loop X Y n) (s:Nat):Loop (fun i=>X (s+i)) (fun i=>Y (s+i)) n:=by
 refine ⟨h.n3,fun i=>?_,fun i=>?_,fun i t h1 h2=>?_,fun i=>h.ne (s+i),fun i=>h.turn (s+i)⟩
 ·rw [← Nat.add_assoc];exact h.px _
 ·rw [← Nat.add_assoc];exact h.py _
 ·have:=h.far (s+i) t h1 h2
  rw [Nat.add_assoc s i t] at this
  exact this
theorem H8 {X Y:Nat→Int} {n:Nat} (h:Loop X Y n) (px py:Int):∀ s,GB (fun i=>X (s+i)) (fun i=>Y (s+i)) n px py=GB X Y n px py
 | 0=>by unfold GB;simp only [Nat.zero_add]
 | s+1=>by
  rw [← H8 h px py s]
  unfold GB
  have e:∀ i,s+1+i=s+(i+1):=fun i=>by omega
  have e2:∀ i,s+1+(i+1)=s+(i+1+1):=fun i=>by omega
  simp only [e,e2]
  refine L8 (f:=fun i=>sgC (X (s+i)) (Y (s+i)) (X (s+(i+1))) (Y (s+(i+1))) px py) ?_
  have e3:s+(n+1)=s+(0+1)+n:=by omega
  have e4:s+n=s+0+n:=by omega
  simp only [e3]
  rw [e4,h.px,h.py,h.px,h.py]
theorem K9 {ux uy vx vy px py:Int} (h:AK ux uy vx vy px py=0):sgC ux uy vx vy px py=0:=by
 have h2:AK vx vy ux uy px py=0:=by rw [Cw,h];rfl
 unfold sgC Cn
 simp [h,h2]
theorem Pj {px py qx qy wx wy:Int} (h:AK px py qx qy wx wy=0):tB px py qx qy wx wy=0:=by
 have h2:AK qx qy px py wx wy=0:=by rw [Cw,h];rfl
 unfold tB DU
 simp [h,h2,bI]
theorem DA (px py qx qy:Int):AK px py qx qy px py=0:=by unfold AK;grind
theorem CY (px py qx qy:Int):AK px py qx qy qx qy=0:=by unfold AK;grind
def Mj (X Y:Nat→Int) (px py qx qy:Int) (t:Nat):Int:=sgC (X t) (Y t) (X (t+1)) (Y (t+1)) qx qy-sgC (X t) (Y t) (X (t+1)) (Y (t+1)) px py-(tB px py qx qy (X t) (Y t)-tB px py qx qy (X (t+1)) (Y (t+1)))
theorem Oa {X Y:Nat→Int} {n:Nat} (h:Loop X Y n) {px py qx qy:Int} (hf:∀ t,3≤t→t<n→Cj px py qx qy (X t) (Y t) (X (t+1)) (Y (t+1))) :
  GB X Y n qx qy-GB X Y n px py=Mj X Y px py qx qy 0+Mj X Y px py qx qy 1+Mj X Y px py qx qy 2:=by
 have e:Aj (Mj X Y px py qx qy) n=GB X Y n qx qy-GB X Y n px py:=by
  have e1:Aj (fun t=>tB px py qx qy (X (t+1)) (Y (t+1))) n=Aj (fun t=>tB px py qx qy (X t) (Y t)) n :=
   L8 (f:=fun t=>tB px py qx qy (X t) (Y t)) (by have:=h.px 0;have:=h.py 0;simp only [Nat.zero_add] at *;simp only [*])
  have e2:=Hy (fun t=>sgC (X t) (Y t) (X (t+1)) (Y (t+1)) qx qy) (fun t=>sgC (X t) (Y t) (X (t+1)) (Y (t+1)) px py) n
  have e3:=Hy (fun t=>tB px py qx qy (X t) (Y t)) (fun t=>tB px py qx qy (X (t+1)) (Y (t+1))) n
  have e4:=Hy (fun t=>sgC (X t) (Y t) (X (t+1)) (Y (t+1)) qx qy-sgC (X t) (Y t) (X (t+1)) (Y (t+1)) px py) (fun t=>tB px py qx qy (X t) (Y t)-tB px py qx qy (X (t+1)) (Y (t+1))) n
  unfold GB
  show Aj (fun t=>_) n=_
  rw [e1] at e3
  unfold Mj
  omega
 obtain ⟨m,rfl⟩:∃ m,n=m+3:=⟨n-3,by have:=h.n3;omega⟩
 rw [← e,Gs,Gs,Gs,DG m fun i hi=>?_]
 ·simp only [Nat.zero_add,Nat.reduceAdd]
  omega
 ·have:=SK (hf (i+3) (by omega) (by omega))
  show Mj X Y px py qx qy (i+3)=0
  unfold Mj
  omega
theorem vert0 {X Y:Nat→Int} {n:Nat} (h:Loop X Y n):GB X Y n (X 2) (Y 2)-GB X Y n (X 1) (Y 1)=bI (Eo X Y 1)-bI (Eo X Y 0):=by
 rw [Oa h fun t h1 h2=>?_]
 ·have i1:=tP (h.turn 0) (h.ne 1)
  have i2:=tO (h.turn 1) (h.ne 1) (h.ne 2)
  simp only [Mj,K9 (DA _ _ _ _),K9 (CY _ _ _ _),Pj (DA _ _ _ _),Pj (CY _ _ _ _)]
  unfold Eo
  simp only [Nat.zero_add,Nat.reduceAdd] at *
  omega
 ·have:=(h.far 1 (t-1) (by omega) (by omega)).1
  have e:1+(t-1)=t:=by omega
  rw [e] at this
  exact this
theorem vert {X Y:Nat→Int} {n:Nat} (h:Loop X Y n):∀ i,GB X Y n (X (i+1)) (Y (i+1))-bI (Eo X Y i)=GB X Y n (X 1) (Y 1)-bI (Eo X Y 0)
 | 0=>rfl
 | i+1=>by
  have e:=vert0 (h.shift i)
  rw [H8 h,H8 h] at e
  have e2:Eo (fun j=>X (i+j)) (fun j=>Y (i+j)) 1=Eo X Y (i+1):=rfl
  have e3:Eo (fun j=>X (i+j)) (fun j=>Y (i+j)) 0=Eo X Y i:=rfl
  rw [e2,e3] at e
  have:=vert h i
  have e4:i+1+1=i+2:=rfl
  rw [e4]
  omega
/-! Points on a side. -/
theorem Gv {bx bY cx cy hx hy:Int} (hc:AK bx bY cx cy hx hy=0) (hh:(bY<hy∧hy<cy) ∨ (cy<hy∧hy<bY)) :
  ∃ m k j:Int,0<m∧0<k∧0<j∧(∀ wx wy,m*AK bx bY hx hy wx wy=k*AK bx bY cx cy wx wy)∧(∀ wx wy,m*AK hx hy cx cy wx wy=j*AK bx bY cx cy wx wy)∧∀ ux uy vx vy,m*AK ux uy vx vy hx hy=j*AK ux uy vx vy bx bY+k*AK ux uy vx vy cx cy:=by
 rcases hh with h | h
 ·refine ⟨cy-bY,hy-bY,cy-hy,by omega,by omega,by omega,fun wx wy=>?_,fun wx wy=>?_,fun ux uy vx vy=>?_⟩ <;> (unfold AK at *;grind)
 ·refine ⟨bY-cy,bY-hy,hy-cy,by omega,by omega,by omega,fun wx wy=>?_,fun wx wy=>?_,fun ux uy vx vy=>?_⟩ <;> (unfold AK at *;grind)
theorem EN {m k x y:Int} (hm:0<m) (hk:0<k) (e:m*x=k*y):(0<x ↔ 0<y)∧(x<0 ↔ y<0)∧(x=0 ↔ y=0):=by
 have a:=Bh hm e
 have b:=Bh hk e.symm
 have p1:0<y→0<k*y:=fun h=>Int.mul_pos hk h
 have p2:y<0→k*y<0:=fun h=>Int.mul_neg_of_pos_of_neg hk h
 have p3:y=0→k*y=0:=fun h=>by rw [h,Int.mul_zero]
 refine ⟨⟨fun h=>?_,fun h=>a.1 (p1 h)⟩,⟨fun h=>?_,fun h=>a.2.1 (p2 h)⟩,⟨fun h=>?_,fun h=>a.2.2 (p3 h)⟩⟩ <;> (rcases Int.lt_trichotomy y 0 with h1 | h1 | h1 <;> first | assumption | (have:=a.2.1 (p2 h1);omega) | (have:=a.2.2 (p3 h1);omega) | (have:=a.1 (p1 h1);omega))
theorem TW {bx bY cx cy hx hy ux uy vx vy:Int} (hc:AK bx bY cx cy hx hy=0) (hh:(bY<hy∧hy<cy) ∨ (cy<hy∧hy<bY)) (h:Cj bx bY cx cy ux uy vx vy):Cj bx bY hx hy ux uy vx vy:=by
 obtain ⟨m,k,j,hm,hk,hj,i1,_,i2⟩:=Gv hc hh
 have a1:=EN hm hk (i1 ux uy)
 have a2:=EN hm hk (i1 vx vy)
 have i2:=i2 ux uy vx vy
 have a3:=Bh hm i2
 unfold Cj at *
 rcases h with ⟨a,b⟩ | ⟨a,b⟩ | ⟨a,b⟩ | ⟨a,b⟩ | ⟨a,b,c,d⟩
 ·exact .inl ⟨a1.1.2 a,a2.1.2 b⟩
 ·exact .inr (.inl ⟨a1.2.1.2 a,a2.2.1.2 b⟩)
 ·have p1:=Int.mul_pos hj a
  have p2:=Int.mul_pos hk b
  exact .inr (.inr (.inl ⟨a,a3.1 (by omega)⟩))
 ·have p1:=Int.mul_neg_of_pos_of_neg hj a
  have p2:=Int.mul_neg_of_pos_of_neg hk b
  exact .inr (.inr (.inr (.inl ⟨a,a3.2.1 (by omega)⟩)))
 ·exact .inr (.inr (.inr (.inr ⟨a1.2.2.2 a,a2.2.2.2 b,c,a3.2.2 (by rw [c,d,Int.mul_zero,Int.mul_zero];rfl)⟩)))
theorem RY {bx bY cx cy hx hy dx dy:Int} (hc:AK bx bY cx cy hx hy=0) (hh:(bY<hy∧hy<cy) ∨ (cy<hy∧hy<bY)):Cj bx bY hx hy cx cy dx dy:=by
 obtain ⟨m,k,j,hm,hk,hj,i1,_,i2⟩:=Gv hc hh
 have a1:=EN hm hk (i1 cx cy)
 have a2:=EN hm hk (i1 dx dy)
 have z:=CY bx bY cx cy
 have i2:=i2 cx cy dx dy
 have e:AK cx cy dx dy bx bY=AK bx bY cx cy dx dy:=by unfold AK;grind
 have z2:=DA cx cy dx dy
 rw [z2,Int.mul_zero,Int.add_zero] at i2
 have a3:=EN hm hj i2
 unfold Cj
 rcases Int.lt_trichotomy (AK cx cy dx dy bx bY) 0 with h | h | h
 ·exact .inr (.inr (.inr (.inl ⟨h,a3.2.1.2 h⟩)))
 ·exact .inr (.inr (.inr (.inr ⟨a1.2.2.2 z,a2.2.2.2 (by omega),h,a3.2.2.2 h⟩)))
 ·exact .inr (.inr (.inl ⟨h,a3.1.2 h⟩))
theorem WF {ax ay bx bY:Int} (h:ay<bY):upK ax ay bx bY=false:=by
 unfold upK;simp;omega
theorem WG {ax ay bx bY:Int} (h:bY<ay):upK ax ay bx bY=true:=by
 unfold upK;simp;omega
theorem pY {X Y:Nat→Int} {n:Nat} (h:Loop X Y n) {hx hy:Int} (hc:AK (X 1) (Y 1) (X 2) (Y 2) hx hy=0) (hh:Y 1<hy∧hy<Y 2) :
  GB X Y n hx hy=GB X Y n (X 1) (Y 1)-bI (Eo X Y 0):=by
 have e:=Oa h (px:=X 1) (py:=Y 1) (qx:=hx) (qy:=hy) fun t h1 h2=>by
  have:=(h.far 1 (t-1) (by omega) (by omega)).1
  have e:1+(t-1)=t:=by omega
  rw [e] at this
  exact TW hc (.inl hh) this
 obtain ⟨m,k,j,hm,hk,hj,i1,_,i2⟩:=Gv hc (.inl hh)
 have i2:=i2 (X 0) (Y 0) (X 1) (Y 1)
 rw [CY,Int.mul_zero,Int.zero_add] at i2
 have a:=EN hm hk i2
 have u1:=WF (ax:=X 1) (bx:=X 2) (show Y 1<Y 2 by omega)
 have u2:=WF (ax:=X 1) (bx:=hx) hh.1
 have i3:=tP (ax:=X 0) (ay:=Y 0) (bx:=X 1) (bY:=Y 1) (cx:=hx) (cy:=hy) (fun z=>by rw [u2,← u1];exact h.turn 0 (a.2.2.1 z)) (.inr (by omega))
 have c1:XB (X 0) (Y 0) (X 1) (Y 1) hx hy=Eo X Y 0:=by
  unfold Eo XB
  simp only [Nat.zero_add]
  rw [u1,u2,decide_eq_decide.2 a.1]
 have g1:=SK (RY (dx:=X 3) (dy:=Y 3) hc (.inl hh))
 have z1:AK (X 1) (Y 1) hx hy (X 2) (Y 2)=0:=(EN hm hk (i1 _ _)).2.2.2 (CY _ _ _ _)
 rw [c1,u2] at i3
 simp only [Mj,Nat.zero_add,Nat.reduceAdd,K9 (DA _ _ _ _),K9 (CY _ _ _ _),Pj (DA _ _ _ _),K9 hc,Pj z1] at e
 have b0:bI false=0:=rfl
 rw [Pj z1] at g1
 omega
theorem qC {X Y:Nat→Int} {n:Nat} (h:Loop X Y n) {hx hy:Int} (hc:AK (X 1) (Y 1) (X 2) (Y 2) hx hy=0) (hh:Y 2<hy∧hy<Y 1) :
  GB X Y n hx hy=GB X Y n (X 2) (Y 2)-bI (Eo X Y 1)+1:=by
 have hc2:AK (X 2) (Y 2) (X 1) (Y 1) hx hy=0:=by rw [Cw,hc];rfl
 have e:=Oa h (px:=hx) (py:=hy) (qx:=X 2) (qy:=Y 2) fun t h1 h2=>by
  have:=(h.far 1 (t-1) (by omega) (by omega)).1
  have e:1+(t-1)=t:=by omega
  rw [e] at this
  exact Ek (TW hc2 (.inl hh) (Ek this))
 obtain ⟨m,k,j,hm,hk,hj,i1,i4,i2⟩:=Gv hc (.inr hh)
 have a:=EN hm hj (i4 (X 3) (Y 3))
 have u1:=WG (ax:=X 1) (bx:=X 2) (show Y 2<Y 1 by omega)
 have u2:=WG (ax:=hx) (bx:=X 2) hh.1
 have i3:=tO (ax:=hx) (ay:=hy) (bx:=X 2) (bY:=Y 2) (cx:=X 3) (cy:=Y 3) (fun z=>by rw [u2,← u1];exact h.turn 1 (a.2.2.1 z)) (.inr (by omega)) (h.ne 2)
 have c1:XB hx hy (X 2) (Y 2) (X 3) (Y 3)=Eo X Y 1:=by
  unfold Eo XB
  simp only [Nat.reduceAdd]
  rw [u1,u2,decide_eq_decide.2 a.1]
 have g1:=SK (KT (Ek (RY (dx:=X 0) (dy:=Y 0) hc2 (.inl hh))))
 have z1:AK hx hy (X 2) (Y 2) (X 1) (Y 1)=0:=(EN hm hj (i4 _ _)).2.2.2 (DA _ _ _ _)
 rw [c1,u2] at i3
 simp only [Mj,Nat.zero_add,Nat.reduceAdd,K9 (DA _ _ _ _),K9 (CY _ _ _ _),Pj (CY _ _ _ _),K9 hc,Pj z1] at e
 have b0:bI true=1:=rfl
 rw [Pj z1] at g1
 omega
theorem Tz {bx bY cx cy ux uy vx vy hx hy:Int} (h:DM bx bY cx cy ux uy vx vy) (h1:AK bx bY cx cy hx hy=0) (h2:AK ux uy vx vy hx hy=0)
  (hb:(bY<hy∧hy<cy) ∨ (cy<hy∧hy<bY)) (hu:(uy<hy∧hy<vy) ∨ (vy<hy∧hy<uy)):False:=by
 obtain ⟨m,k,j,hm,hk,hj,_,_,i2⟩:=Gv h1 hb
 obtain ⟨m',k',j',hm',hk',hj',_,_,i2'⟩:=Gv h2 hu
 have e1:=i2 ux uy vx vy
 have e2:=i2' bx bY cx cy
 rw [h2,Int.mul_zero] at e1
 rw [h1,Int.mul_zero] at e2
 rcases h.1 with ⟨a,b⟩ | ⟨a,b⟩ | ⟨a,b⟩ | ⟨a,b⟩ | ⟨a,b,c,d⟩
 ·have:=Int.mul_pos hj' a;have:=Int.mul_pos hk' b;omega
 ·have:=Int.mul_neg_of_pos_of_neg hj' a;have:=Int.mul_neg_of_pos_of_neg hk' b;omega
 ·have:=Int.mul_pos hj a;have:=Int.mul_pos hk b;omega
 ·have:=Int.mul_neg_of_pos_of_neg hj a;have:=Int.mul_neg_of_pos_of_neg hk b;omega
 ·exact h.2 ⟨a,b,by omega⟩ hy (by omega) (by omega)
theorem LN {ax ay bx bY cx cy hx hy:Int} (ht:AK ax ay bx bY cx cy=0→upK ax ay bx bY=upK bx bY cx cy) (h1:AK ax ay bx bY hx hy=0) (h2:AK bx bY cx cy hx hy=0)
  (ha:(ay<hy∧hy<bY) ∨ (bY<hy∧hy<ay)) (hb:(bY<hy∧hy<cy) ∨ (cy<hy∧hy<bY)):False:=by
 obtain ⟨m,k,j,hm,hk,hj,_,_,i2⟩:=Gv h2 hb
 have e:=i2 ax ay bx bY
 rw [h1,Int.mul_zero,CY,Int.mul_zero,Int.zero_add] at e
 have z:AK ax ay bx bY cx cy=0:=by
  rcases Int.mul_eq_zero.1 e.symm with z | z
  ·omega
  ·exact z
 have:=ht z
 rcases ha with a | a <;> rcases hb with b | b
 ·omega
 ·rw [WF (show ay<bY by omega),WG (show cy<bY by omega)] at this;cases this
 ·rw [WG (show bY<ay by omega),WF (show bY<cy by omega)] at this;cases this
 ·omega
structure Grid (X Y M:Nat→Int) (n:Nat):Prop extends Loop X Y n where
 even:∀ i,Y i % 2=0
 slope:∀ i,Y i ≠ Y (i+1)→M i*(Y (i+1)-Y i)=X (i+1)-X i
def crS (Y:Nat→Int) (i:Nat) (y:Int):Int:=bif decide (Y i<y)&&decide (y<Y (i+1)) then 1 else bif decide (Y (i+1)<y)&&decide (y<Y i) then -1 else 0
def zAt (X Y M:Nat→Int) (i:Nat) (y:Int):Int:=X i+M i*(y-Y i)
theorem Dt (Y:Nat→Int) (i:Nat) (y:Int):(Y i<y∧y<Y (i+1)∧crS Y i y=1) ∨ (Y (i+1)<y∧y<Y i∧crS Y i y = -1) ∨ (¬ (Y i<y∧y<Y (i+1))∧¬ (Y (i+1)<y∧y<Y i)∧crS Y i y=0):=by
 unfold crS
 by_cases h1:Y i<y <;> by_cases h2:y<Y (i+1) <;> by_cases h3:Y (i+1)<y <;> by_cases h4:y<Y i <;> simp [h1,h2,h3,h4] <;> omega
section
variable {X Y M:Nat→Int} {n:Nat} (h:Grid X Y M n)
include h
theorem XA {i:Nat} {x y:Int} (hne:Y i ≠ Y (i+1)):AK (X i) (Y i) (X (i+1)) (Y (i+1)) x y=(Y (i+1)-Y i)*(zAt X Y M i y-x):=by
 have:=h.slope i hne
 unfold AK zAt
 rw [← this]
 grind
theorem sgC_z {i:Nat} {x y:Int} (hy:y % 2=1):sgC (X i) (Y i) (X (i+1)) (Y (i+1)) x y=crS Y i y*bI (decide (x<zAt X Y M i y)):=by
 have e1:=h.even i
 have e2:=h.even (i+1)
 rcases Dt Y i y with ⟨a,b,c⟩ | ⟨a,b,c⟩ | ⟨a,b,c⟩
 ·have d:=XA h (x:=x) (y:=y) (show Y i ≠ Y (i+1) by omega)
  have g:decide (0<AK (X i) (Y i) (X (i+1)) (Y (i+1)) x y)=decide (x<zAt X Y M i y):=decide_eq_decide.2 (by
   rw [d]
   have hm:0<Y (i+1)-Y i:=by omega
   exact ⟨fun q=>by have:=(Bh hm rfl).1 q;omega,fun q=>Int.mul_pos hm (by omega)⟩)
  rw [c]
  unfold sgC
  rw [GF (by omega),g,decide_eq_true (show Y i≤y by omega),decide_eq_true b]
  unfold sgS bI
  rw [decide_eq_true (show Y i<Y (i+1) by omega)]
  cases decide (x<zAt X Y M i y) <;> rfl
 ·have d:=XA h (x:=x) (y:=y) (show Y i ≠ Y (i+1) by omega)
  have g:decide (0<AK (X (i+1)) (Y (i+1)) (X i) (Y i) x y)=decide (x<zAt X Y M i y):=decide_eq_decide.2 (by
   rw [Cw,d]
   have hm:0<Y i-Y (i+1):=by omega
   have e:-((Y (i+1)-Y i)*(zAt X Y M i y-x))=(Y i-Y (i+1))*(zAt X Y M i y-x):=by grind
   rw [e]
   exact ⟨fun q=>by have:=(Bh hm rfl).1 q;omega,fun q=>Int.mul_pos hm (by omega)⟩)
  rw [c]
  unfold sgC
  rw [Ia,GF (by omega),g,decide_eq_true (show Y (i+1)≤y by omega),decide_eq_true b]
  unfold sgS bI
  rw [decide_eq_false (show ¬ Y i<Y (i+1) by omega)]
  cases decide (x<zAt X Y M i y) <;> rfl
 ·rw [c,Int.zero_mul]
  unfold sgC
  cases hc:Cn (X i) (Y i) (X (i+1)) (Y (i+1)) x y with
  | false=>rfl
  | true =>
   have:=W8 hc
   omega
theorem Qf {x y:Int} (hy:y % 2=1):GB X Y n x y=Aj (fun i=>crS Y i y*bI (decide (x<zAt X Y M i y))) n:=A9 n fun i _=>sgC_z h hy
theorem TN {x y:Int} (hy:y % 2=1):GB X Y n x y=GB X Y n (x+1) y+Aj (fun i=>crS Y i y*bI (decide (zAt X Y M i y=x+1))) n:=by
 rw [Qf h hy,Qf h hy,← Gu]
 refine A9 n fun i _=>?_
 rw [← Int.mul_add]
 congr 1
 unfold bI
 generalize zAt X Y M i y=z
 rcases Int.lt_trichotomy z (x+1) with h1 | h1 | h1
 ·rw [decide_eq_false (show ¬ x<z by omega),decide_eq_false (show ¬ x+1<z by omega),decide_eq_false (show ¬ z=x+1 by omega)];rfl
 ·rw [decide_eq_true (show x<z by omega),decide_eq_false (show ¬ x+1<z by omega),decide_eq_true h1];rfl
 ·rw [decide_eq_true (show x<z by omega),decide_eq_true h1,decide_eq_false (show ¬ z=x+1 by omega)];rfl
theorem Nu {i:Nat} {y:Int} (hc:crS Y i y ≠ 0):AK (X i) (Y i) (X (i+1)) (Y (i+1)) (zAt X Y M i y) y=0:=by
 rw [XA h (by rcases Dt Y i y with ⟨a,b,c⟩ | ⟨a,b,c⟩ | ⟨a,b,c⟩ <;> omega),Int.sub_self,Int.mul_zero]
omit h in
theorem LU {i:Nat} {y:Int} (hc:crS Y i y ≠ 0):(Y i<y∧y<Y (i+1)) ∨ (Y (i+1)<y∧y<Y i):=by
 rcases Dt Y i y with ⟨a,b,c⟩ | ⟨a,b,c⟩ | ⟨a,b,c⟩ <;> omega
theorem iO {i t:Nat} {y:Int} (ht:1≤t) (hn:t<n) (h1:crS Y i y ≠ 0) (h2:crS Y (i+t) y ≠ 0) (e:zAt X Y M i y=zAt X Y M (i+t) y):False:=by
 have o1:=Nu h h1
 have o2:=Nu h h2
 rw [← e] at o2
 have r1:=LU h1
 have r2:=LU h2
 by_cases t1:t=1
 ·subst t1
  exact LN (h.turn i) o1 o2 r1 r2
 ·by_cases t2:t+1=n
  ·have e1:i+t+1=i+n:=by omega
   have e2:i+t+2=i+1+n:=by omega
   have:=h.turn (i+t)
   rw [e2,e1,h.px i,h.py i,h.px (i+1),h.py (i+1)] at this
   rw [e1,h.px i,h.py i] at o2
   rw [e1,h.py i] at r2
   exact LN this o2 o1 r2 r1
  ·exact Tz (h.far i t (by omega) (by omega)) o1 o2 r1 r2
theorem sL {i j:Nat} {y:Int} (hi:i<n) (hj:j<n) (hij:i ≠ j) (h1:crS Y i y ≠ 0) (h2:crS Y j y ≠ 0) (e:zAt X Y M i y=zAt X Y M j y):False:=by
 rcases Nat.lt_or_ge i j with hlt | hge
 ·obtain ⟨t,rfl⟩:∃ t,j=i+t:=⟨j-i,by omega⟩
  exact iO h (by omega) (by omega) h1 h2 e
 ·obtain ⟨t,rfl⟩:∃ t,i=j+t:=⟨i-j,by omega⟩
  exact iO h (by omega) (by omega) h2 h1 e.symm
theorem oM:∃ L:Int,(L=0 ∨ L = -1)∧∀ x y,y % 2=1→GB X Y n x y=L ∨ GB X Y n x y=L+1:=by
 have n3:=h.n3
 have hv:=vert h.toLoop
 generalize hL:GB X Y n (X 1) (Y 1)-bI (Eo X Y 0)=L at hv
 have bb:∀ b:Bool,bI b=0 ∨ bI b=1:=fun b=>by cases b;exact .inl rfl;exact .inr rfl
 obtain ⟨i0,hi0,hmax⟩:=dD X n (by omega)
 have hmax':∀ j,X j≤X i0:=by
  intro j
  induction j using Nat.strongRecOn with
  | _ j ih =>
   by_cases hj:j<n
   ·exact hmax j hj
   ·have:=ih (j-n) (by omega)
    have e:j=j-n+n:=by omega
    rw [e,h.px];exact this
 have far0:∀ px py,(∀ j,X j≤px)→GB X Y n px py=0:=fun px py hp=>DG n fun i hi=>by
  unfold sgC
  cases hc:Cn (X i) (Y i) (X (i+1)) (Y (i+1)) px py with
  | false=>rfl
  | true =>
   have:=hp i;have:=hp (i+1)
   have:=Vi hc
   omega
 have hL01:L=0 ∨ L = -1:=by
  have e:=hv (i0+n-1)
  have e1:i0+n-1+1=i0+n:=by omega
  rw [e1,h.px,h.py,far0 _ _ hmax'] at e
  have:=bb (Eo X Y (i0+n-1))
  omega
 refine ⟨L,hL01,fun x y hy=>?_⟩
 have key:∀ (d:Nat) (x:Int),X i0≤x+d→GB X Y n x y=L ∨ GB X Y n x y=L+1:=by
  intro d
  induction d with
  | zero =>
   intro x hx
   rw [far0 x y fun j=>by have:=hmax' j;omega]
   omega
  | succ d ih =>
   intro x hx
   have ih:=ih (x+1) (by omega)
   have st:=TN h (x:=x) hy
   by_cases hex:∃ i,i<n∧crS Y i y ≠ 0∧zAt X Y M i y=x+1
   ·obtain ⟨i,hi,hc,hz⟩:=hex
    have e:Aj (fun i=>crS Y i y*bI (decide (zAt X Y M i y=x+1))) n=crS Y i y:=by
     rw [JM n hi fun j hj hji=>?_,decide_eq_true hz]
     ·show crS Y i y*1=_
      omega
     ·by_cases hcj:crS Y j y=0
      ·rw [hcj,Int.zero_mul]
      ·rw [decide_eq_false fun hz2=>sL h hj hi hji hcj hc (by omega)]
       exact Int.mul_zero _
    rw [e] at st
    have os:=Nu h hc
    rw [hz] at os
    have sh:=h.toLoop.shift (i+n-1)
    have i1:i+n-1+1=i+n:=by omega
    have i2:i+n-1+2=i+1+n:=by omega
    have c0:Eo (fun j=>X (i+n-1+j)) (fun j=>Y (i+n-1+j)) 0=Eo X Y (i+n-1):=rfl
    have c1:Eo (fun j=>X (i+n-1+j)) (fun j=>Y (i+n-1+j)) 1=Eo X Y (i+n):=by
     show Eo X Y (i+n-1+1)=_
     rw [i1]
    rcases Dt Y i y with ⟨a,b,c⟩ | ⟨a,b,c⟩ | ⟨a,b,c⟩
    ·have u:=pY sh (hx:=x+1) (hy:=y) (by simp only [i1,i2,h.px,h.py];exact os) (by simp only [i1,i2,h.py];exact ⟨a,b⟩)
     rw [H8 h.toLoop,H8 h.toLoop,c0] at u
     have:=hv (i+n-1)
     omega
    ·have u:=qC sh (hx:=x+1) (hy:=y) (by simp only [i1,i2,h.px,h.py];exact os) (by simp only [i1,i2,h.py];exact ⟨a,b⟩)
     rw [H8 h.toLoop,H8 h.toLoop,c1] at u
     have:=hv (i+n)
     have i3:i+n-1+2=i+n+1:=by omega
     simp only [i3] at u
     omega
    ·exact absurd c hc
   ·rw [DG n fun i hi=>?_] at st
    ·omega
    ·by_cases hcj:crS Y i y=0
     ·rw [hcj,Int.zero_mul]
     ·rw [decide_eq_false fun hz=>hex ⟨i,hi,hcj,hz⟩]
      exact Int.mul_zero _
 exact key (X i0-x).toNat x (by omega)
omit h in
theorem fO {f:Nat→Bool} {g:Nat→Int}:∀ n,(∀ i,i<n→g i % 2=bI (f i))→Aj g n % 2=bI (CJ f n)
 | 0,_=>rfl
 | n+1,hg=>by
  have i1:=fO n fun i hi=>hg i (by omega)
  have i2:=hg n (by omega)
  rw [Aj,CJ]
  cases h1:CJ f n <;> cases h2:f n <;> rw [h1] at i1 <;> rw [h2] at i2 <;> simp [bI] at i1 i2 ⊢ <;> omega
theorem Qg (x y:Int):GB X Y n x y % 2=bI (Bw X Y n x y):=by
 refine fO n fun i hi=>?_
 have e:X ((i+1) % n)=X (i+1)∧Y ((i+1) % n)=Y (i+1):=by
  by_cases h1:i+1<n
  ·rw [Nat.mod_eq_of_lt h1];exact ⟨rfl,rfl⟩
  ·have e:i+1=n:=by omega
   have p1:=h.px 0
   have p2:=h.py 0
   rw [Nat.zero_add] at p1 p2
   rw [e,Nat.mod_self];exact ⟨p1.symm,p2.symm⟩
 rw [e.1,e.2]
 unfold sgC sgS
 cases Cn (X i) (Y i) (X (i+1)) (Y (i+1)) x y with
 | false=>rfl
 | true=>cases decide (Y i<Y (i+1)) <;> rfl
theorem kZ:∃ s:Int,(s=1 ∨ s = -1)∧∀ x y,y % 2=1→GB X Y n x y=s*bI (Bw X Y n x y):=by
 obtain ⟨L,hL,hw⟩:=oM h
 refine ⟨2*L+1,by omega,fun x y hy=>?_⟩
 have a:=hw x y hy
 have b:=Qg h x y
 rcases hL with rfl | rfl
 ·rw [← b];omega
 ·rw [← b]
  rcases a with a | a <;> rw [a] <;> rfl
omit h in
theorem cr_sum (hn:Y n=Y 0) (y:Int) (hy:∀ i,Y i ≠ y):Aj (fun i=>crS Y i y) n=0:=by
 have e:∀ i,crS Y i y=bI (decide (y<Y (i+1)))-bI (decide (y<Y i)):=fun i=>by
  have a:=hy i
  have b:=hy (i+1)
  unfold bI
  rcases Dt Y i y with ⟨p,q,c⟩ | ⟨p,q,c⟩ | ⟨p,q,c⟩ <;> rw [c]
  ·rw [decide_eq_true q,decide_eq_false (by omega)];rfl
  ·rw [decide_eq_false (show ¬ y<Y (i+1) by omega),decide_eq_true q];rfl
  ·by_cases h1:y<Y i
   ·rw [decide_eq_true h1,decide_eq_true (by omega)];rfl
   ·rw [decide_eq_false h1,decide_eq_false (by omega)];rfl
 rw [A9 n fun i _=>e i,Hy,L8 (f:=fun i=>bI (decide (y<Y i))) (by rw [hn]),Int.sub_self]
omit h in
theorem OJ (B z:Int) (hz:-B≤z):∀ N:Nat,Aj (fun j=>bI (decide ((j:Int)-B<z))) N=if z+B<N then z+B else N
 | 0=>by rw [if_neg (by omega)];rfl
 | N+1=>by
  rw [Aj,OJ B z hz N]
  by_cases h1:(N:Int)-B<z
  ·rw [decide_eq_true h1,if_neg (by omega),if_neg (by omega)]
   show (N:Int)+1=_
   omega
  ·rw [decide_eq_false h1,if_pos (show z+B<((N+1:Nat):Int) by omega)]
   show (if z+B<(N:Int) then z+B else (N:Int))+0=_
   split <;> omega
theorem oL {B:Int} (hB:∀ i,-B≤X i∧X i≤B) {i:Nat} {y:Int} (hc:crS Y i y ≠ 0):-B≤zAt X Y M i y∧zAt X Y M i y≤B:=by
 have b1:=hB i
 have b2:=hB (i+1)
 have r:=LU hc
 have e:(Y (i+1)-Y i)*zAt X Y M i y=(Y (i+1)-y)*X i+(y-Y i)*X (i+1):=by
  have:=h.slope i (by omega)
  unfold zAt
  have e2:X (i+1)=X i+M i*(Y (i+1)-Y i):=by omega
  rw [e2]
  grind
 rcases r with ⟨r1,r2⟩ | ⟨r1,r2⟩
 ·have p1:(Y (i+1)-y)*X i≤(Y (i+1)-y)*B:=Int.mul_le_mul_of_nonneg_left b1.2 (by omega)
  have p2:(y-Y i)*X (i+1)≤(y-Y i)*B:=Int.mul_le_mul_of_nonneg_left b2.2 (by omega)
  have p3:(Y (i+1)-y)*(-B)≤(Y (i+1)-y)*X i:=Int.mul_le_mul_of_nonneg_left b1.1 (by omega)
  have p4:(y-Y i)*(-B)≤(y-Y i)*X (i+1):=Int.mul_le_mul_of_nonneg_left b2.1 (by omega)
  have hm:0<Y (i+1)-Y i:=by omega
  constructor
  ·refine Int.le_of_mul_le_mul_left (a:=Y (i+1)-Y i) ?_ hm
   have:(Y (i+1)-Y i)*(-B)=(Y (i+1)-y)*(-B)+(y-Y i)*(-B):=by grind
   omega
  ·refine Int.le_of_mul_le_mul_left (a:=Y (i+1)-Y i) ?_ hm
   have:(Y (i+1)-Y i)*B=(Y (i+1)-y)*B+(y-Y i)*B:=by grind
   omega
 ·have e':(Y i-Y (i+1))*zAt X Y M i y=(y-Y (i+1))*X i+(Y i-y)*X (i+1):=by grind
  have p1:(y-Y (i+1))*X i≤(y-Y (i+1))*B:=Int.mul_le_mul_of_nonneg_left b1.2 (by omega)
  have p2:(Y i-y)*X (i+1)≤(Y i-y)*B:=Int.mul_le_mul_of_nonneg_left b2.2 (by omega)
  have p3:(y-Y (i+1))*(-B)≤(y-Y (i+1))*X i:=Int.mul_le_mul_of_nonneg_left b1.1 (by omega)
  have p4:(Y i-y)*(-B)≤(Y i-y)*X (i+1):=Int.mul_le_mul_of_nonneg_left b2.1 (by omega)
  have hm:0<Y i-Y (i+1):=by omega
  constructor
  ·refine Int.le_of_mul_le_mul_left (a:=Y i-Y (i+1)) ?_ hm
   have:(Y i-Y (i+1))*(-B)=(y-Y (i+1))*(-B)+(Y i-y)*(-B):=by grind
   omega
  ·refine Int.le_of_mul_le_mul_left (a:=Y i-Y (i+1)) ?_ hm
   have:(Y i-Y (i+1))*B=(y-Y (i+1))*B+(Y i-y)*B:=by grind
   omega
theorem row_sum {B:Nat} (hB:∀ i,-(B:Int)≤X i∧X i≤B) {y:Int} (hy:y % 2=1) :
  Aj (fun i=>crS Y i y*zAt X Y M i y) n=Aj (fun j=>GB X Y n ((j:Int)-B) y) (2*B):=by
 have e1:Aj (fun j=>GB X Y n ((j:Int)-B) y) (2*B)=Aj (fun i=>Aj (fun j=>crS Y i y*bI (decide ((j:Int)-B<zAt X Y M i y))) (2*B)) n:=by
  rw [ID]
  exact A9 _ fun j _=>Qf h hy
 have e2:∀ i,Aj (fun j=>crS Y i y*bI (decide ((j:Int)-B<zAt X Y M i y))) (2*B)=crS Y i y*zAt X Y M i y+B*crS Y i y:=fun i=>by
  rw [DP]
  by_cases hc:crS Y i y=0
  ·rw [hc];simp
  ·obtain ⟨z1,z2⟩:=oL h hB hc
   rw [OJ _ _ z1]
   have:(if zAt X Y M i y+(B:Int)<((2*B:Nat):Int) then zAt X Y M i y+B else ((2*B:Nat):Int))=zAt X Y M i y+B:=by split <;> omega
   rw [this]
   grind
 have p:=h.py 0
 rw [Nat.zero_add] at p
 rw [e1,A9 n fun i _=>e2 i,Gu,DP,cr_sum p y fun i hi=>by have:=h.even i;omega,Int.mul_zero,Int.add_zero]
end
def P1 (X Y:Nat→Int) (n:Nat):Int:=Aj (fun i=>(X i+X (i+1))*(Y (i+1)-Y i)) n
def Co (H k:Nat):Int:=2*(k:Int)+1-2*H
theorem Om {A m lo hi:Int} {H:Nat} (h1:lo % 2=0) (h2:hi % 2=0) (hl:lo≤hi) (hb:-(2*(H:Int))≤lo):∀ t:Nat,
  4*Aj (fun k=>bI (decide (lo<Co H k)&&decide (Co H k<hi))*(A+m*(Co H k-lo))) t =
   (2*A+m*((if 2*(t:Int)-2*H≤lo then lo else if hi≤2*(t:Int)-2*H then hi else 2*(t:Int)-2*H)-lo))*((if 2*(t:Int)-2*H≤lo then lo else if hi≤2*(t:Int)-2*H then hi else 2*(t:Int)-2*H)-lo)
 | 0=>by
  rw [if_pos (by omega),Int.sub_self]
  simp [Aj]
 | t+1=>by
  rw [Aj,Int.mul_add,Om h1 h2 hl hb t]
  have er:Co H t=2*(t:Int)+1-2*H:=rfl
  by_cases c1:2*((t+1:Nat):Int)-2*H≤lo
  ·rw [if_pos c1,if_pos (show 2*(t:Int)-2*H≤lo by omega),decide_eq_false (show ¬ lo<Co H t by omega)]
   show _+4*(0*_)=_
   rw [Int.zero_mul,Int.mul_zero,Int.add_zero]
  ·rw [if_neg c1]
   by_cases c2:hi≤2*(t:Int)-2*H
   ·rw [if_pos (show hi≤2*((t+1:Nat):Int)-2*H by omega),if_pos c2,decide_eq_false (show ¬ Co H t<hi by omega),Bool.and_false]
    have e0:(if 2*(t:Int)-2*H≤lo then lo else hi)=hi:=by split <;> omega
    rw [e0]
    show _+4*(0*_)=_
    rw [Int.zero_mul,Int.mul_zero,Int.add_zero]
   ·rw [if_neg c2]
    have e0:(if 2*(t:Int)-2*H≤lo then lo else 2*(t:Int)-2*H)=2*(t:Int)-2*H:=by split <;> omega
    have e1:(if hi≤2*((t+1:Nat):Int)-2*H then hi else 2*((t+1:Nat):Int)-2*H)=2*(t:Int)-2*H+2:=by split <;> omega
    rw [e0,e1,decide_eq_true (show lo<Co H t by omega),decide_eq_true (show Co H t<hi by omega)]
    show _+4*(1*_)=_
    have e2:Co H t=2*(t:Int)-2*H+1:=by omega
    rw [e2]
    generalize 2*(t:Int)-2*H=c
    grind
section
variable {X Y M:Nat→Int} {n:Nat} (h:Grid X Y M n)
include h
theorem lH {H:Nat} (hH:∀ i,-(2*(H:Int))≤Y i∧Y i≤2*(H:Int)) (i:Nat):4*Aj (fun k=>crS Y i (Co H k)*zAt X Y M i (Co H k)) (2*H)=(X i+X (i+1))*(Y (i+1)-Y i):=by
 have b1:=hH i
 have b2:=hH (i+1)
 have v1:=h.even i
 have v2:=h.even (i+1)
 have odd:∀ k,Co H k % 2=1:=fun k=>by unfold Co;omega
 rcases Int.lt_trichotomy (Y i) (Y (i+1)) with hl | hl | hl
 ·have s:=h.slope i (by omega)
  have r:=Om (A:=X i) (m:=M i) (lo:=Y i) (hi:=Y (i+1)) (H:=H) v1 v2 (by omega) b1.1 (2*H)
  have e:∀ k,crS Y i (Co H k)*zAt X Y M i (Co H k)=bI (decide (Y i<Co H k)&&decide (Co H k<Y (i+1)))*(X i+M i*(Co H k-Y i)):=fun k=>by
   have o:=odd k
   unfold zAt
   congr 1
   rcases Dt Y i (Co H k) with ⟨a,b,c⟩ | ⟨a,b,c⟩ | ⟨a,b,c⟩
   ·rw [c,decide_eq_true a,decide_eq_true b];rfl
   ·omega
   ·rw [c]
    by_cases q:Y i<Co H k
    ·rw [decide_eq_false (show ¬ Co H k<Y (i+1) by omega),Bool.and_false];rfl
    ·rw [decide_eq_false q];rfl
  rw [A9 _ fun k _=>e k,r]
  have e1:(if 2*((2*H:Nat):Int)-2*H≤Y i then Y i else if Y (i+1)≤2*((2*H:Nat):Int)-2*H then Y (i+1) else 2*((2*H:Nat):Int)-2*H)=Y (i+1):=by
   split
   ·omega
   ·split <;> omega
  rw [e1,s]
  have:2*X i+(X (i+1)-X i)=X i+X (i+1):=by omega
  rw [this]
 ·rw [hl,Int.sub_self,Int.mul_zero,DG]
  ·rfl
  ·intro k _
   rcases Dt Y i (Co H k) with ⟨a,b,c⟩ | ⟨a,b,c⟩ | ⟨a,b,c⟩
   ·omega
   ·omega
   ·rw [c,Int.zero_mul]
 ·have s:=h.slope i (by omega)
  have r:=Om (A:=X (i+1)) (m:=M i) (lo:=Y (i+1)) (hi:=Y i) (H:=H) v2 v1 (by omega) b2.1 (2*H)
  have e:∀ k,crS Y i (Co H k)*zAt X Y M i (Co H k)=(-1)*(bI (decide (Y (i+1)<Co H k)&&decide (Co H k<Y i))*(X (i+1)+M i*(Co H k-Y (i+1)))):=fun k=>by
   have o:=odd k
   have ez:zAt X Y M i (Co H k)=X (i+1)+M i*(Co H k-Y (i+1)):=by
    unfold zAt
    have e2:X (i+1)=X i+M i*(Y (i+1)-Y i):=by omega
    rw [e2];grind
   rw [ez,← Int.mul_assoc]
   congr 1
   rcases Dt Y i (Co H k) with ⟨a,b,c⟩ | ⟨a,b,c⟩ | ⟨a,b,c⟩
   ·omega
   ·rw [c,decide_eq_true a,decide_eq_true b];rfl
   ·rw [c]
    by_cases q:Y (i+1)<Co H k
    ·rw [decide_eq_false (show ¬ Co H k<Y i by omega),Bool.and_false];rfl
    ·rw [decide_eq_false q];rfl
  rw [A9 _ fun k _=>e k,DP]
  have e1:(if 2*((2*H:Nat):Int)-2*H≤Y (i+1) then Y (i+1) else if Y i≤2*((2*H:Nat):Int)-2*H then Y i else 2*((2*H:Nat):Int)-2*H)=Y i:=by
   split
   ·omega
   ·split <;> omega
  rw [e1] at r
  have s2:M i*(Y i-Y (i+1))=X i-X (i+1):=by
   have:M i*(Y i-Y (i+1)) = -(M i*(Y (i+1)-Y i)):=by grind
   omega
  rw [s2] at r
  have:2*X (i+1)+(X i-X (i+1))=X i+X (i+1):=by omega
  rw [this] at r
  have e3:(X i+X (i+1))*(Y (i+1)-Y i) = -((X i+X (i+1))*(Y i-Y (i+1))):=by grind
  rw [e3,← r]
  grind
theorem oA {B H:Nat} (hB:∀ i,-(B:Int)≤X i∧X i≤B) (hH:∀ i,-(2*(H:Int))≤Y i∧Y i≤2*(H:Int)) :
  ((P1 X Y n).natAbs:Int)=4*Aj (fun k=>Aj (fun j=>bI (Bw X Y n ((j:Int)-B) (Co H k))) (2*B)) (2*H):=by
 obtain ⟨s,hs,hw⟩:=kZ h
 have odd:∀ k,Co H k % 2=1:=fun k=>by unfold Co;omega
 have e:P1 X Y n=s*(4*Aj (fun k=>Aj (fun j=>bI (Bw X Y n ((j:Int)-B) (Co H k))) (2*B)) (2*H)):=by
  unfold P1
  rw [A9 n fun i _=>(lH h hH i).symm,DP,ID,A9 (2*H) fun k _=>row_sum h hB (odd k),
   A9 (2*H) fun k _=>A9 (2*B) fun j _=>hw _ _ (odd k),A9 (2*H) fun k _=>DP s _ (2*B),DP]
  grind
 have nn:0≤Aj (fun k=>Aj (fun j=>bI (Bw X Y n ((j:Int)-B) (Co H k))) (2*B)) (2*H):=D4 _ fun k _=>D4 _ fun j _=>by
  cases Bw X Y n ((j:Int)-B) (Co H k) <;> decide
 rw [e]
 rcases hs with rfl | rfl <;> omega
end
def I4 (d:Nat):Int:=bif d % 2==1 then -1 else 1
theorem Na {f:Nat→Int}:∀ n,(∀ i,i<n→0≤f i)→Aj f n=0→∀ i,i<n→f i=0
 | 0,_,_,i,hi=>by omega
 | n+1,h,e,i,hi=>by
  rw [Aj] at e
  have h1:=D4 n fun i hi=>h i (by omega)
  have h2:=h n (by omega)
  by_cases c:i=n
  ·subst c;omega
  ·exact Na n (fun i hi=>h i (by omega)) (by omega) i (by omega)
theorem dC {B:Nat→Bool} (f:Nat→Nat):∀ n,(∃ i,i<n∧B i=true)→∃ r,r<n∧B r=true∧∀ i,i<n→B i=true→f i≤f r
 | 0,h=>by obtain ⟨i,hi,_⟩:=h;omega
 | n+1,h=>by
  by_cases hn:B n=true
  ·by_cases hex:∃ i,i<n∧B i=true
   ·obtain ⟨r,h1,h2,h3⟩:=dC f n hex
    rcases Nat.le_total (f n) (f r) with c | c
    ·refine ⟨r,by omega,h2,fun i hi hb=>?_⟩
     by_cases e:i=n
     ·subst e;exact c
     ·exact h3 i (by omega) hb
    ·refine ⟨n,by omega,hn,fun i hi hb=>?_⟩
     by_cases e:i=n
     ·subst e;exact Nat.le_refl _
     ·exact Nat.le_trans (h3 i (by omega) hb) c
   ·refine ⟨n,by omega,hn,fun i hi hb=>?_⟩
    by_cases e:i=n
    ·subst e;exact Nat.le_refl _
    ·exact absurd ⟨i,by omega,hb⟩ hex
  ·obtain ⟨i,hi,hb⟩:=h
   have hin:i<n:=by
    rcases Nat.lt_or_ge i n with c | c
    ·exact c
    ·have:i=n:=by omega
     subst this;exact absurd hb hn
   obtain ⟨r,h1,h2,h3⟩:=dC f n ⟨i,hin,hb⟩
   refine ⟨r,by omega,h2,fun j hj hbj=>?_⟩
   by_cases e:j=n
   ·subst e;exact absurd hbj hn
   ·exact h3 j (by omega) hbj
theorem Vr (b:Bool):0≤bI b:=by cases b <;> decide
theorem Vl {m:Nat} {R:Nat→Nat→Bool} {dep:Nat→Nat} (hd:∀ i,i<m→((dep i:Nat):Int)=Aj (fun k=>bI (R i k)) m) (hdl:∀ i k,i<m→k<m→R i k=true→dep k<dep i) :
  ∀ (c:Nat) (B:Nat→Bool),Aj (fun i=>bI (B i)) m=c→(∀ i k,i<m→k<m→B i=true→R i k=true→B k=true) →
   (∀ i k,i<m→k<m→i ≠ k→B i=true→B k=true→R i k=true ∨ R k i=true)→Aj (fun i=>I4 (dep i)*bI (B i)) m=((c % 2:Nat):Int)
 | 0,B,hc,ht,hn=>DG m fun i hi=>by rw [Na m (fun i _=>Vr _) hc i hi,Int.mul_zero]
 | c+1,B,hc,ht,hn=>by
  have hex:∃ i,i<m∧B i=true:=by
   apply Classical.byContradiction
   intro hno
   have:Aj (fun i=>bI (B i)) m=0:=DG m fun i hi=>by
    cases hb:B i with
    | false=>rfl
    | true=>exact absurd ⟨i,hi,hb⟩ hno
   omega
  obtain ⟨r,hr,hbr,hmax⟩:=dC dep m hex
  have eB:∀ j,bI (B j)=bI (B j&&j != r)+bI (j==r):=fun j=>by
   by_cases e:j=r
   ·subst e;rw [hbr];simp [bI]
   ·have e1:(j==r)=false:=beq_eq_false_iff_ne.2 e
    have e2:(j != r)=true:=bne_iff_ne.2 e
    rw [e1,e2,Bool.and_true];simp [bI]
  have one:∀ g:Nat→Int,Aj (fun j=>g j*bI (j==r)) m=g r:=fun g=>by
   rw [JM m hr fun j hj hjr=>by rw [beq_eq_false_iff_ne.2 hjr];exact Int.mul_zero _]
   rw [beq_self_eq_true];exact Int.mul_one _
  have hc':Aj (fun j=>bI (B j&&j != r)) m=c:=by
   have e1:Aj (fun i=>bI (B i)) m=Aj (fun j=>bI (B j&&j != r)) m+Aj (fun j=>bI (j==r)) m:=by
    rw [← Gu];exact A9 m fun j _=>eB j
   have e2:=one fun _=>1
   simp only [Int.one_mul] at e2
   omega
  have ih:=Vl hd hdl c (fun j=>B j&&j != r) hc' (fun i k hi hk hb hR=>by
   rw [Bool.and_eq_true] at hb ⊢
   refine ⟨ht i k hi hk hb.1 hR,bne_iff_ne.2 fun e=>?_⟩
   subst e
   have:=hmax i hi hb.1
   have:=hdl i k hi hk hR
   omega) (fun i k hi hk hik h1 h2=>by
   rw [Bool.and_eq_true] at h1 h2
   exact hn i k hi hk hik h1.1 h2.1)
  have hdr:dep r=c:=by
   have e:((dep r:Nat):Int)=(c:Int):=by
    rw [hd r hr,← hc']
    refine A9 m fun k hk=>?_
    congr 1
    cases hR:R r k with
    | true =>
     have h1:=ht r k hr hk hbr hR
     have h2:=hdl r k hr hk hR
     have:(k != r)=true:=bne_iff_ne.2 fun e=>by subst e;omega
     rw [h1,this];rfl
    | false =>
     symm
     cases hb:B k with
     | false=>rfl
     | true =>
      by_cases e:k=r
      ·subst e;simp
      ·rcases hn r k hr hk (fun e2=>e e2.symm) hbr hb with h1 | h1
       ·rw [hR] at h1;cases h1
       ·have:=hdl k r hk hr h1
        have:=hmax k hk hb
        omega
   omega
  have e1:Aj (fun i=>I4 (dep i)*bI (B i)) m=Aj (fun i=>I4 (dep i)*bI (B i&&i != r)) m+Aj (fun i=>I4 (dep i)*bI (i==r)) m:=by
   rw [← Gu]
   exact A9 m fun j _=>by rw [eB j,Int.mul_add]
  rw [e1,ih,one fun i=>I4 (dep i),hdr]
  unfold I4
  rcases Nat.mod_two_eq_zero_or_one c with h1 | h1
  ·rw [h1,show (c+1) % 2=1 by omega];rfl
  ·rw [h1,show (c+1) % 2=0 by omega];rfl
theorem rL {X Y A B:Nat→Int} {n k:Nat} {px py:Int} (hKJ:∀ j,j<k→∀ i,i<n→DM (A j) (B j) (A ((j+1) % k)) (B ((j+1) % k)) (X i) (Y i) (X ((i+1) % n)) (Y ((i+1) % n)))
  (hJK:∀ i,i<n→∀ j,j<k→DM (X i) (Y i) (X ((i+1) % n)) (Y ((i+1) % n)) (A j) (B j) (A ((j+1) % k)) (B ((j+1) % k)))
  (h1:Bw A B k px py=true) (h2:Bw X Y n px py=true):(∃ j,j<k∧Bw X Y n (A j) (B j)=true) ∨ ∃ i,i<n∧Bw A B k (X i) (Y i)=true:=by
 obtain ⟨j0,hj0,hc0⟩:=Jt k h1
 have hne:Lo A B k px py++Lo X Y n px py ≠ []:=by
  have:CH (A j0) (B j0) (A ((j0+1) % k)) (B ((j0+1) % k)) ∈ Lo A B k px py:=DW.2 ⟨j0,hj0,hc0,rfl⟩
  intro e
  rw [List.append_eq_nil_iff] at e
  rw [e.1] at this
  cases this
 obtain ⟨e,he,hmin⟩:=Q3 py _ hne fun e he=>by
  rw [List.mem_append,DW,DW] at he
  rcases he with ⟨j,hj,hc,rfl⟩ | ⟨j,hj,hc,rfl⟩
  ·exact WR (Dd hc)
  ·exact WR (Dd hc)
 rw [List.mem_append,DW,DW] at he
 rcases he with ⟨j,hj,hc,he⟩ | ⟨i,hi,hc,he⟩
 ·left
  have hu:=MB (Dd hc) (ux:=A j) (vx:=A ((j+1) % k))
  have hc':=hc
  rw [H5,OI hu,← he] at hc'
  have hp:=QT (X:=X) (Y:=Y) (n:=n) hc' (fun i hi=>by rw [he];exact J5 (hKJ j hj i hi)) fun i hi hci=>hmin _ (List.mem_append_right _ (DW.2 ⟨i,hi,hci,rfl⟩))
  rw [h2] at hp
  rw [he] at hp
  exact Ni (P:=fun x y=>Bw X Y n x y=true→∃ j,j<k∧Bw X Y n (A j) (B j)=true) (fun q=>⟨j,hj,q⟩) (fun q=>⟨_,Nat.mod_lt _ (by omega),q⟩) hp
 ·right
  have hu:=MB (Dd hc) (ux:=X i) (vx:=X ((i+1) % n))
  have hc':=hc
  rw [H5,OI hu,← he] at hc'
  have hp:=QT (X:=A) (Y:=B) (n:=k) hc' (fun j hj=>by rw [he];exact J5 (hJK i hi j hj)) fun j hj hcj=>hmin _ (List.mem_append_left _ (DW.2 ⟨j,hj,hcj,rfl⟩))
  rw [h1] at hp
  rw [he] at hp
  exact Ni (P:=fun x y=>Bw A B k x y=true→∃ i,i<n∧Bw A B k (X i) (Y i)=true) (fun q=>⟨i,hi,q⟩) (fun q=>⟨_,Nat.mod_lt _ (by omega),q⟩) hp
end Go.Proofs.YtonmnfkibnflnaaGreat.R
