/-
 The own walk and what it shows,part 9 of 9.
-/
import Derived.Test.YtkjjmmgddehbhaaGreatJ1
import Derived.Test.YtkjjmmgddehbhaaGreatJ2
import Derived.Test.YtkjjmmgddehbhaaGreatJ3
import Derived.Test.YtkjjmmgddehbhaaGreatJ4
import Derived.Test.YtkjjmmgddehbhaaGreatJ5
import Derived.Test.YtkjjmmgddehbhaaGreatJ6
import Derived.Test.YtkjjmmgddehbhaaGreatJ7
import Derived.Test.YtkjjmmgddehbhaaGreatJ8
set_option linter.unusedVariables false
set_option linter.unusedSimpArgs false
set_option maxRecDepth 100000
set_option exponentiation.threshold 30000
namespace Go.Proofs.YtkjjmmgddehbhaaGreat.R
open Go
abbrev rdSp (pre:List F→Bool) (V:List F→ByteArray→Int→F × Int):Sp:=ptrSp (fun cs xs=>preR cs&&pre xs) (fun cs xs=>rd (V xs) cs)
theorem ok_rd {f:FuncId} {fn:Func} {c:Code} (hf:Tryz.prog.funcs[f]?=some fn) (hb:fn.body=some c) (hname:oddFn fn=false) {pre:List F→Bool} {V:List F→ByteArray→Int→F × Int}
  (h:∀ xs s p,pre xs=true→rdOk s p=true→∃ r,FLe r (V xs s p).1∧EndsN Tryz.prog 1 fn.results.toList [.code c] (startN fn.ntmps (U.hp 0 0 :: xs.map U.f) [HO.box [U.f (bytesF s),U.f (F.int .i64 p)]]) (.tup [r,.agg [bytesF s,.int .i64 (V xs s p).2]])) :
  SpOK Tryz.prog f (rdSp pre V) :=
 fn_ptr_at hf hb hname fun cs xs hp=>by
  simp only [Bool.and_eq_true] at hp
  obtain ⟨b,p,rfl,hb,hr⟩:=preR_open hp.1
  obtain ⟨r,h1,h2⟩:=h xs (unBytes b) p hp.2 hr
  exact ⟨[bytesF (unBytes b),.int .i64 p],xs,r,_,⟨(bytes_eqv hb).1,.refl _,trivial⟩,FsLe.refl _,h2,h1,⟨(bytes_eqv hb).2,.refl _,trivial⟩⟩
def isNone:List F→Bool | []=>true | _=>false
/-! ### function 41 -/
def S41_3 (s:ByteArray) (p:Int) (x3:Int) (x4:Int):St:=⟨(U.hp 0 0) :: bads 2 ((U.f (F.int .u64 x3)) :: (U.f (F.int .i64 x4)) :: bads 11 []),[HO.box [U.f (bytesF s),U.f (F.int .i64 p)]]⟩
def T41_3 {ρ:Type} (ret:(Int)→(Int)→Option ρ) (c3:(ByteArray)→(Int)→(Int)→(Int)→Option ρ) (s:ByteArray) (p:Int) (x3:Int) (x4:Int):Option ρ :=
 (bsel (decide (x4<8))
 (bsel (isBytes (bytesF s)&&rdOk (unBytes (bytesF s)) p)
 (c3 (s) ((nextV (unBytes (bytesF s)) p).snd) (bitsOp BinOp.or IntKind.u64 (IntKind.u64.wrap (x3*2 ^ min (Int.toNat 8) IntKind.u64.bits)) (IntKind.u64.wrap (nextV (unBytes (bytesF s)) p).fst)) (IntKind.i64.wrap (x4+1)))
 none)
 (ret (x3) (p)))
def L41_3:Nat→(ByteArray)→(Int)→(Int)→(Int)→Option ((Int) × (Int))
 | 0,_,_,_,_=>none
 | k+1,s,p,x3,x4=>T41_3 (fun r q=>some (r,q)) (L41_3 k) s p x3 x4
def T41 {ρ:Type} (ret:(Int)→(Int)→Option ρ) (c3:(ByteArray)→(Int)→(Int)→(Int)→Option ρ) (s:ByteArray) (p:Int):Option ρ :=
 (c3 (s) (p) (0) (0))
def G41 (k:Nat) (s:ByteArray) (p:Int):Option ((Int) × (Int)):=T41 (fun r q=>some (r,q)) (L41_3 k) s p
theorem t41_3:∀ (k:Nat) (s:ByteArray) (p:Int) (x3:Int) (x4:Int) (r:Int) (q:Int),L41_3 k s p x3 x4=some (r,q)→EndsN Tryz.prog 1 Tryz.f41.results.toList (at_ Tryz.f41 3) (S41_3 s p x3 x4) (F.tup [F.int .u64 r,F.agg [bytesF s,F.int .i64 q]])
 | 0,_,_,_,_,_,_,h=>nomatch h
 | k+1,s,p,x3,x4,r,q,h=>by
  refine Ends.of_cut tyOK envD3_ok (T:=[(3,[0,3,4],1)]) (n:=200) ?_
  refine gE (Y:=T41_3 (fun r q=>some (.ret (F.tup [F.int .u64 r,F.agg [bytesF s,F.int .i64 q]]))) (fun s p x3 x4=>some (.cut (at_ Tryz.f41 3) (S41_3 s p x3 x4))) s p x3 x4) (by kernel_rfl) ?_
  exact (gS h (fun _ h=>(gS h (fun _ h=>gC (t41_3 k _ _ _ _ r q h)) gN)) (fun _ h=>gR (by cases h;rfl)))
theorem t41 (k:Nat) (s:ByteArray) (p:Int) (r:Int) (q:Int) (h:G41 k s p=some (r,q)):EndsN Tryz.prog 1 Tryz.f41.results.toList [.code (bodyOf Tryz.f41)] (startN Tryz.f41.ntmps [U.hp 0 0] [HO.box [U.f (bytesF s),U.f (F.int .i64 p)]]) (F.tup [F.int .u64 r,F.agg [bytesF s,F.int .i64 q]]):=by
 refine Ends.of_run tyOK envD3_ok (T:=[(3,[0,3,4],1)]) (n:=200) ?_
 refine gE (Y:=T41 (fun r q=>some (.ret (F.tup [F.int .u64 r,F.agg [bytesF s,F.int .i64 q]]))) (fun s p x3 x4=>some (.cut (at_ Tryz.f41 3) (S41_3 s p x3 x4))) s p) (by kernel_rfl) ?_
 exact gC (t41_3 k _ _ _ _ r q h)
theorem word_loop {s:ByteArray}:∀ (d i:Nat) (p x:Int),i+d=8→rdOk s p=true→∃ r q,L41_3 (d+1) s p x i=some (r,q)∧rdOk s q=true
 | 0,i,p,x,h,hr=>by
  obtain rfl:i=8:=by omega
  have c1:decide (((8:Nat):Int)<8)=false:=by decide
  exact ⟨x,p,by simp only [L41_3,T41_3,c1,bsel_false],hr⟩
 | d+1,i,p,x,h,hr=>by
  obtain ⟨h1,h2,h3,h4⟩:=next_ok hr
  have c1:decide ((i:Int)<8)=true:=decide_eq_true (by omega)
  have e2:IntKind.i64.wrap ((i:Int)+1)=((i+1:Nat):Int):=by rw [wrapi (by omega) (by omega)];omega
  rw [L41_3]
  simp only [T41_3,unBytes_bytesF,isBytes_bytesF,hr,c1,e2,Bool.and_self,bsel_true]
  exact word_loop d (i+1) _ _ (by omega) h4
def wordV (s:ByteArray) (p:Int):Int × Int:=(G41 9 s p).getD (0,0)
theorem word_ok {s:ByteArray} {p:Int} (h:rdOk s p=true):G41 9 s p=some (wordV s p)∧rdOk s (wordV s p).2=true:=by
 obtain ⟨r,q,e,k⟩:=word_loop 8 0 p 0 (by omega) h
 have:G41 9 s p=some (r,q):=e
 unfold wordV
 rw [this]
 exact ⟨rfl,k⟩
theorem okWord:SpOK Tryz.prog 41 (rdSp isNone fun _ s p=>(.int .u64 (wordV s p).1,(wordV s p).2)) :=
 ok_rd (c:=bodyOf Tryz.f41) Tryz.func41 (by kernel_rfl) (by kernel_rfl) fun xs s p hx hr=>match xs,hx with
 | [],_=>⟨_,.refl _,t41 9 s p _ _ (word_ok hr).1⟩
def envD7:Env:=envD3.add 41 (rdSp isNone fun _ s p=>(.int .u64 (wordV s p).1,(wordV s p).2))
theorem envD7_ok:EnvOK Tryz.prog envD7:=(Env.add_ok envD3_ok okWord)
/-! ### function 27 -/
def T27 {ρ:Type} (ret:(Int)→(Int)→Option ρ) (s:ByteArray) (p:Int) (a:Int) (b:Int):Option ρ :=
 (bsel (isBytes (bytesF s)&&rdOk (unBytes (bytesF s)) p)
 (bsel ((belowV (unBytes (bytesF s)) p 8).fst==0)
 (ret (a) ((belowV (unBytes (bytesF s)) p 8).snd))
 (bsel ((belowV (unBytes (bytesF s)) p 8).fst==1)
 (ret (b) ((belowV (unBytes (bytesF s)) p 8).snd))
 (bsel (decide (b<a))
 (ret (a) ((belowV (unBytes (bytesF s)) p 8).snd))
 (bsel (isBytes (bytesF s)&&rdOk (unBytes (bytesF s)) (belowV (unBytes (bytesF s)) p 8).snd&&true)
 (bsel (IntKind.u64.wrap (IntKind.i64.wrap (IntKind.i64.wrap (b-a)+1)) != 0)
 (ret (IntKind.i64.wrap (a+IntKind.i64.wrap (((wordV (unBytes (bytesF s)) (belowV (unBytes (bytesF s)) p 8).snd).fst.fdiv (2 ^ min (Int.toNat 1) IntKind.u64.bits)).tmod (IntKind.u64.wrap (IntKind.i64.wrap (IntKind.i64.wrap (b-a)+1)))))) ((wordV (unBytes (bytesF s)) (belowV (unBytes (bytesF s)) p 8).snd).snd))
 none)
 none))))
 none)
def G27 (s:ByteArray) (p:Int) (a:Int) (b:Int):Option ((Int) × (Int)):=T27 (fun r q=>some (r,q)) s p a b
theorem t27 (s:ByteArray) (p:Int) (a:Int) (b:Int) (r:Int) (q:Int) (h:G27 s p a b=some (r,q)):EndsN Tryz.prog 1 Tryz.f27.results.toList [.code (bodyOf Tryz.f27)] (startN Tryz.f27.ntmps [U.hp 0 0,U.f (F.int .i64 a),U.f (F.int .i64 b)] [HO.box [U.f (bytesF s),U.f (F.int .i64 p)]]) (F.tup [F.int .i64 r,F.agg [bytesF s,F.int .i64 q]]):=by
 refine Ends.of_run tyOK envD7_ok (T:=[]) (n:=200) ?_
 refine gE (Y:=T27 (fun r q=>some (.ret (F.tup [F.int .i64 r,F.agg [bytesF s,F.int .i64 q]]))) s p a b) (by kernel_rfl) ?_
 exact (gS h (fun _ h=>(gS h (fun _ h=>gR (by cases h;rfl)) (fun _ h=>(gS h (fun _ h=>gR (by cases h;rfl)) (fun _ h=>(gS h (fun _ h=>gR (by cases h;rfl)) (fun _ h=>(gS h (fun _ h=>(gS h (fun _ h=>gR (by cases h;rfl)) gN)) gN)))))))) gN)
theorem wrapU64 {x:Int} (h0:0≤x) (h1:x≤18446744073709551615):IntKind.u64.wrap x=x:=by
 unfold IntKind.wrap
 simp [IntKind.bits,IntKind.signed]
 omega
def isNear:List F→Bool
 | [.int .i64 a,.int .i64 b]=>decide (-1099511627776≤a∧a≤b∧b≤1099511627776)
 | _=>false
def nearV (a b:Int) (s:ByteArray) (p:Int):Int × Int:=(G27 s p a b).getD (0,0)
theorem near_ok {s:ByteArray} {p a b:Int} (h:rdOk s p=true) (hab:-1099511627776≤a∧a≤b∧b≤1099511627776):G27 s p a b=some (nearV a b s p)∧rdOk s (nearV a b s p).2=true:=by
 obtain ⟨b1,b2,b3,b4⟩:=below_ok h 8
 obtain ⟨w1,w2⟩:=word_ok b4
 unfold nearV G27 T27
 have e:IntKind.u64.wrap (IntKind.i64.wrap (IntKind.i64.wrap (b-a)+1))=b-a+1:=by
  rw [wrapi (x:=b-a) (by omega) (by omega),wrapi (by omega) (by omega),wrapU64 (by omega) (by omega)]
 have c1:(b-a+1 != 0)=true:=by simp;omega
 have c2:decide (b<a)=false:=decide_eq_false (by omega)
 simp only [unBytes_bytesF,isBytes_bytesF,h,b4,e,c1,c2,Bool.and_self,Bool.and_true,bsel_true,bsel_false]
 cases (belowV s p 8).1==0
 ·simp only [bsel_false]
  cases (belowV s p 8).1==1
  ·simp only [bsel_false,Option.getD_some];exact ⟨trivial,w2⟩
  ·simp only [bsel_true,Option.getD_some];exact ⟨trivial,b4⟩
 ·simp only [bsel_true,Option.getD_some];exact ⟨trivial,b4⟩
def resNear:List F→ByteArray→Int→F × Int
 | [.int .i64 a,.int .i64 b],s,p=>(.int .i64 (nearV a b s p).1,(nearV a b s p).2)
 | _,_,p=>(.dflt,p)
theorem okNear:SpOK Tryz.prog 27 (rdSp isNear resNear) :=
 ok_rd (c:=bodyOf Tryz.f27) Tryz.func27 (by kernel_rfl) (by kernel_rfl) fun xs s p hx hr=>match xs,hx with
 | [.int .i64 a,.int .i64 b],hx=>⟨_,.refl _,t27 s p a b _ _ (near_ok hr (of_decide_eq_true hx)).1⟩
def envD8:Env:=envD7.add 27 (rdSp isNear resNear)
theorem envD8_ok:EnvOK Tryz.prog envD8:=(Env.add_ok envD7_ok okNear)
/-! ### function 28 -/
def T28 {ρ:Type} (ret:(Int)→(Int)→(Int)→Option ρ) (s:ByteArray) (p:Int):Option ρ :=
 (bsel (isBytes (bytesF s)&&rdOk (unBytes (bytesF s)) p&&true)
 (bsel (isBytes (bytesF s)&&rdOk (unBytes (bytesF s)) (resNear [F.int .i64 (-6),F.int .i64 6] (unBytes (bytesF s)) p).snd&&true)
 (ret ((nearV (-6) 6 (unBytes (bytesF s)) p).fst) ((nearV (-6) 6 (unBytes (bytesF s)) (resNear [F.int .i64 (-6),F.int .i64 6] (unBytes (bytesF s)) p).snd).fst) ((resNear [F.int .i64 (-6),F.int .i64 6] (unBytes (bytesF s)) (resNear [F.int .i64 (-6),F.int .i64 6] (unBytes (bytesF s)) p).snd).snd))
 none)
 none)
def G28 (s:ByteArray) (p:Int):Option ((Int) × (Int) × (Int)):=T28 (fun r r2 q=>some (r,r2,q)) s p
theorem t28 (s:ByteArray) (p:Int) (r:Int) (r2:Int) (q:Int) (h:G28 s p=some (r,r2,q)):EndsN Tryz.prog 1 Tryz.f28.results.toList [.code (bodyOf Tryz.f28)] (startN Tryz.f28.ntmps [U.hp 0 0] [HO.box [U.f (bytesF s),U.f (F.int .i64 p)]]) (F.tup [F.agg [F.int .i64 r,F.int .i64 r2],F.agg [bytesF s,F.int .i64 q]]):=by
 refine Ends.of_run tyOK envD8_ok (T:=[]) (n:=200) ?_
 refine gE (Y:=T28 (fun r r2 q=>some (.ret (F.tup [F.agg [F.int .i64 r,F.int .i64 r2],F.agg [bytesF s,F.int .i64 q]]))) s p) (by kernel_rfl) ?_
 exact (gS h (fun _ h=>(gS h (fun _ h=>gR (by cases h;rfl)) gN)) gN)
/-! ### function 29 -/
def T29 {ρ:Type} (ret:(Int)→(Int)→Option ρ) (s:ByteArray) (p:Int) (a:Int) (b:Int):Option ρ :=
 (bsel (isBytes (bytesF s)&&rdOk (unBytes (bytesF s)) p)
 (bsel ((onceV (unBytes (bytesF s)) p 24).fst)
 (bsel (isBytes (bytesF s)&&rdOk (unBytes (bytesF s)) (onceV (unBytes (bytesF s)) p 24).snd)
 (bsel (decide (0≤(belowV (unBytes (bytesF s)) (onceV (unBytes (bytesF s)) p 24).snd 4).fst))
 (bsel (decide ((belowV (unBytes (bytesF s)) (onceV (unBytes (bytesF s)) p 24).snd 4).fst<((4:Nat):Int)))
 (bsel (decide (0+(belowV (unBytes (bytesF s)) (onceV (unBytes (bytesF s)) p 24).snd 4).fst.toNat<4))
 (bsel (decide ((lget [F.int .i64 (IntKind.i64.wrap (a-1)),F.int .i64 (IntKind.i64.wrap (b+1)),F.int .i64 (-9223372036854775808),F.int .i64 9223372036854775807] (0+(belowV (unBytes (bytesF s)) (onceV (unBytes (bytesF s)) p 24).snd 4).fst.toNat)).cells.length=1))
 (bsel (okV (Value.int IntKind.i64 0) ((List.drop 0 (lget [F.int .i64 (IntKind.i64.wrap (a-1)),F.int .i64 (IntKind.i64.wrap (b+1)),F.int .i64 (-9223372036854775808),F.int .i64 9223372036854775807] (0+(belowV (unBytes (bytesF s)) (onceV (unBytes (bytesF s)) p 24).snd 4).fst.toNat)).cells).headD F.dflt)&&true)
 (ret (intOf ((List.drop 0 (lget [F.int .i64 (IntKind.i64.wrap (a-1)),F.int .i64 (IntKind.i64.wrap (b+1)),F.int .i64 (-9223372036854775808),F.int .i64 9223372036854775807] (0+(belowV (unBytes (bytesF s)) (onceV (unBytes (bytesF s)) p 24).snd 4).fst.toNat)).cells).headD F.dflt)) ((belowV (unBytes (bytesF s)) (onceV (unBytes (bytesF s)) p 24).snd 4).snd))
 none)
 none)
 none)
 none)
 none)
 none)
 (bsel (isBytes (bytesF s)&&rdOk (unBytes (bytesF s)) (onceV (unBytes (bytesF s)) p 24).snd&&isNear [F.int .i64 a,F.int .i64 b])
 (ret ((nearV a b (unBytes (bytesF s)) (onceV (unBytes (bytesF s)) p 24).snd).fst) ((resNear [F.int .i64 a,F.int .i64 b] (unBytes (bytesF s)) (onceV (unBytes (bytesF s)) p 24).snd).snd))
 none))
 none)
def G29 (s:ByteArray) (p:Int) (a:Int) (b:Int):Option ((Int) × (Int)):=T29 (fun r q=>some (r,q)) s p a b
theorem t29 (s:ByteArray) (p:Int) (a:Int) (b:Int) (r:Int) (q:Int) (h:G29 s p a b=some (r,q)):EndsN Tryz.prog 1 Tryz.f29.results.toList [.code (bodyOf Tryz.f29)] (startN Tryz.f29.ntmps [U.hp 0 0,U.f (F.int .i64 a),U.f (F.int .i64 b)] [HO.box [U.f (bytesF s),U.f (F.int .i64 p)]]) (F.tup [F.int .i64 r,F.agg [bytesF s,F.int .i64 q]]):=by
 refine Ends.of_run tyOK envD8_ok (T:=[]) (n:=200) ?_
 refine gE (Y:=T29 (fun r q=>some (.ret (F.tup [F.int .i64 r,F.agg [bytesF s,F.int .i64 q]]))) s p a b) (by kernel_rfl) ?_
 exact (gS h (fun _ h=>(gS h (fun _ h=>(gS h (fun _ h=>(gS h (fun _ h=>(gS h (fun _ h=>(gS h (fun _ h=>(gS h (fun _ h=>(gS h (fun _ h=>gR (by cases h;rfl)) gN)) gN)) gN)) gN)) gN)) gN)) (fun _ h=>(gS h (fun _ h=>gR (by cases h;rfl)) gN)))) gN)
def spotV (s:ByteArray) (p:Int):Int × Int × Int:=(G28 s p).getD (0,0,0)
theorem spot_ok {s:ByteArray} {p:Int} (h:rdOk s p=true):G28 s p=some (spotV s p)∧rdOk s (spotV s p).2.2=true:=by
 obtain ⟨a1,a2⟩:=near_ok h (a:=-6) (b:=6) (by omega)
 obtain ⟨b1,b2⟩:=near_ok a2 (a:=-6) (b:=6) (by omega)
 unfold spotV G28 T28
 simp only [resNear,unBytes_bytesF,isBytes_bytesF,h,a2,Bool.and_self,Bool.and_true,bsel_true,Option.getD_some]
 exact ⟨trivial,b2⟩
def resSpot:List F→ByteArray→Int→F × Int:=fun _ s p=>(.agg [.int .i64 (spotV s p).1,.int .i64 (spotV s p).2.1],(spotV s p).2.2)
theorem okSpot:SpOK Tryz.prog 28 (rdSp isNone resSpot) :=
 ok_rd (c:=bodyOf Tryz.f28) Tryz.func28 (by kernel_rfl) (by kernel_rfl) fun xs s p hx hr=>match xs,hx with
 | [],hx=>⟨_,.refl _,t28 s p _ _ _ (spot_ok hr).1⟩
def offV (a b:Int) (s:ByteArray) (p:Int):Int × Int:=(G29 s p a b).getD (0,0)
theorem off_ok {s:ByteArray} {p a b:Int} (h:rdOk s p=true) (hab:-1099511627776≤a∧a≤b∧b≤1099511627776):G29 s p a b=some (offV a b s p)∧rdOk s (offV a b s p).2=true:=by
 obtain ⟨o1,o2⟩:=once_ok h 24
 obtain ⟨b1,b2,b3,b4⟩:=below_ok o2 4
 obtain ⟨n1,n2⟩:=near_ok o2 hab
 have hn:isNear [F.int .i64 a,F.int .i64 b]=true:=decide_eq_true hab
 unfold offV G29 T29
 simp only [resNear,unBytes_bytesF,isBytes_bytesF,h,o2,hn,Bool.and_self,Bool.and_true,bsel_true]
 cases (onceV s p 24).1 with
 | false=>simp only [bsel_false,Option.getD_some];exact ⟨trivial,n2⟩
 | true =>
  simp only [bsel_true]
  have hk:(belowV s (onceV s p 24).2 4).1=0 ∨ (belowV s (onceV s p 24).2 4).1=1 ∨ (belowV s (onceV s p 24).2 4).1=2 ∨ (belowV s (onceV s p 24).2 4).1=3:=by omega
  generalize (belowV s (onceV s p 24).2 4).1=k at hk b2
  rcases hk with rfl | rfl | rfl | rfl <;> exact ⟨rfl,b4⟩
def resOff:List F→ByteArray→Int→F × Int
 | [.int .i64 a,.int .i64 b],s,p=>(.int .i64 (offV a b s p).1,(offV a b s p).2)
 | _,_,p=>(.dflt,p)
theorem okOff:SpOK Tryz.prog 29 (rdSp isNear resOff) :=
 ok_rd (c:=bodyOf Tryz.f29) Tryz.func29 (by kernel_rfl) (by kernel_rfl) fun xs s p hx hr=>match xs,hx with
 | [.int .i64 a,.int .i64 b],hx=>⟨_,.refl _,t29 s p a b _ _ (off_ok hr (of_decide_eq_true hx)).1⟩
def envD9:Env:=(envD8.add 28 (rdSp isNone resSpot)).add 29 (rdSp isNear resOff)
theorem envD9_ok:EnvOK Tryz.prog envD9:=(Env.add_ok (Env.add_ok envD8_ok okSpot) okOff)
section
variable {P:Program} {w:World} {Z:Nat→Prop} {m:Nat→Nat} {H:List HO} {d:Bool}
/-! Pure functions. -/
/-! An answer with data beside a slice of the caller's own. -/
theorem place_tup {w':World} {Z':Nat→Prop} {m2:Nat→Nat} {fs:List F} {vs:List Value} {slot:Option Nat} (hlen:fs.length=vs.length)
  (hrep:∀ (j:Nat) (e:F) (v:Value),fs[j]?=some e→vs[j]?=some v→RepU w' Z' m2 (newObs H slot (obsOf (flatF fs))) (oneU (newAt H slot) e) v)
  (h2:Ext w Z m H w' Z' m2 (newObs H slot (obsOf (flatF fs)))∧HOK w' Z' m2 (newObs H slot (obsOf (flatF fs)))) :
  Ext w Z m H w' Z' m2 (place H slot (.tup fs)).2∧HOK w' Z' m2 (place H slot (.tup fs)).2∧RepU w' Z' m2 (place H slot (.tup fs)).2 (place H slot (.tup fs)).1 (if h:vs.toArray.size=1 then vs.toArray[0] else .tuple vs.toArray):=by
 match fs,vs,hlen,hrep,h2 with
 | [e],[v],_,hrep,h2=>exact ⟨h2.1,h2.2,hrep 0 e v rfl rfl⟩
 | [],[],_,hrep,h2=>exact ⟨h2.1,h2.2,.tup [] [] rfl fun j u v hu=>by simp at hu⟩
 | e1 :: e2 :: fs,v1 :: v2 :: vs,hfl,hrep,h2 =>
  refine ⟨h2.1,h2.2,?_⟩
  have:RepU w' Z' m2 (newObs H slot (obsOf (flatF (e1 :: e2 :: fs)))) (.tup ((e1 :: e2 :: fs).map (oneU (newAt H slot)))) (.tuple (v1 :: v2 :: vs).toArray):=.tup _ _ (by simpa using hfl) fun j u v hu hv=>by
   rw [List.getElem?_map] at hu
   cases he:(e1 :: e2 :: fs)[j]? with
   | none=>rw [he] at hu;cases hu
   | some e=>rw [he] at hu;cases hu;exact hrep j e v he hv
  simpa [place] using this
 | [_],[],hl,_,_=>simp at hl
 | [_],_ :: _ :: _,hl,_,_=>simp at hl
 | [],_ :: _,hl,_,_=>simp at hl
 | _ :: _ :: _,[],hl,_,_=>simp at hl
 | _ :: _ :: _,[_],hl,_,_=>simp at hl
theorem FLe.cl {n:Nat} {g g':Nat→F} (h:∀ j,j<n→g j=g' j):FLe (.cl n g) (.cl n g'):=fun _ _ _ hv=>by
 cases hv with | cl _ _ _ hv h0=>exact .cl _ _ _ (FLe.sl h _ _ _ hv) h0
end
def ptroRes (res:List F→List F→List F × List F):List U→List HO→U × List HO
 | .hp o 0 :: us,H=>match H[o]? with
  | some (.box cu)=>match toFs [] cu,toFs [] us with
   | some cs,some xs=>place (H.set o (boxF (res cs xs).2)) none (.tup (res cs xs).1)
   | _,_=>(.bad,H)
  | _=>(.bad,H)
 | _,H=>(.bad,H)
abbrev ptroSp (pre:List F→List F→Bool) (res:List F→List F→List F × List F):Sp:=.shared (ptrPre pre) (ptroRes res)
section
variable {P:Program} {w:World} {Z:Nat→Prop} {m:Nat→Nat} {H:List HO}
theorem call_toldN {f : FuncId} {fn : Func} {c : Code} (hf : P.funcs[f]? = some fn) (hb : fn.body = some c) (hname : (fn.name == "runtime.NumGoroutine") = false) {us : List U} {es : List F} {os : List F}
  (h:EndsN P H.length (.tmp 1000003 :: fn.results.toList) [.code c] (startN fn.ntmps us H) (.tup (.tup es :: os))) (h0:Nat.beq H.length 0=false) {args:Array Value} (hH:HOK w Z m H) (hL:RepUs w Z m H us args.toList) :
  CallDoes P f args w fun v w'=>∃ (st':St) (Z':Nat→Prop) (m':Nat→Nat) (us':List U) (vs:List Value),ownG true st'.heap us'=some es∧(objsAll us').length≤1∧outs0 (st'.heap.take H.length)=some os ∧
   HOK w' Z' m' st'.heap∧Ext w Z m H w' Z' m' st'.heap∧RepUs w' Z' m' st'.heap us' vs∧v=(if h:vs.toArray.size=1 then vs.toArray[0] else .tuple vs.toArray):=by
 refine .inl ⟨by
  have hp:(program).run P w=.ok P w:=rfl
  unfold callFunc
  simp only [Sem.run_bind,hp,Result.andThen,hf,hname,hb,Option.isNone_some,Bool.false_eq_true,if_false,Sem.run_pure],fun cs=>?_⟩
 have hlen:us.length=args.size:=by simpa using hL.1
 have hA:AOK w Z m (startN fn.ntmps us H) { tmps:=args++Array.replicate (fn.ntmps-args.size) undef,defers:=[] }:=by
  refine ⟨by simp [startN,hlen],fun i u v hu hv=>?_,hH⟩
  simp only [startN] at hu
  rw [List.getElem?_append] at hu
  rw [Array.getElem?_append] at hv
  split at hu
  ·rename_i hi
   rw [if_pos (by omega)] at hv
   exact hL.2 i u v hu (by simpa using hv)
  ·rename_i hi
   rw [if_neg (by omega)] at hv
   rw [List.getElem?_replicate] at hu
   rw [Array.getElem?_replicate] at hv
   split at hu
   ·split at hv
    ·cases hu;cases hv;exact .undef
    ·cases hv
   ·cases hu
 let b:Frame:={ (default:Frame) with fn:=f,kind:=.normal }
 have henter:Frame.enter P f args .normal=b.at { tmps:=args++Array.replicate (fn.ntmps-args.size) undef,defers:=[] } [.code c]:=by
  simp [Frame.enter,Frame.at,hf,hb,b]
 obtain ⟨st',a',w',todo,hk,⟨hd,Z',m',hA',hE'⟩,hs⟩:=h w Z m H [] _ w Z m rfl hA rfl (Ext.refl _ _ _ _) b cs
 unfold retF at hk
 rw [if_neg (by rw [h0,Bool.and_false];exact Bool.false_ne_true),if_pos (by rfl)] at hk
 simp only [List.tail_cons,retOwnN] at hk
 split at hk
 case h_2=>cases hk
 rename_i us' hus
 split at hk
 case isFalse=>cases hk
 rename_i hl1
 split at hk
 case h_2=>cases hk
 rename_i es' os' hes' hos'
 simp only [Option.some.injEq,F.tup.injEq,List.cons.injEq] at hk
 obtain ⟨rfl,rfl⟩:=hk
 obtain ⟨vs,hvs,hR⟩:=resU_run (P:=P) hA' _ _ hus
 have hres:(results fn a'.tmps).run P w'=.ok (if h:vs.toArray.size=1 then vs.toArray[0] else .tuple vs.toArray) w':=by
  unfold results
  rw [← Array.toArray_toList (xs:=fn.results),List.mapM_toArray]
  simp only [Sem.run_bind,Sem.run_map]
  refine (congrArg (fun q=>Result.andThen (Result.andThen q fun x w=>Result.ok x.toArray w) fun vs w=>(pure (if h:vs.size=1 then vs[0] else .tuple vs):Sem Value).run P w) hvs).trans ?_
  simp [Result.andThen]
 refine ⟨.returned _,w',{ b.at a' todo with mode:=.returning },⟨st',Z',m',us',vs,hes',of_decide_eq_true hl1,hos',hA'.hok,hE',hR,rfl⟩,?_,rfl,rfl,hd,rfl,fn,hf,hres⟩
 rw [henter];exact hs
theorem ptro_ext {w':World} {Z':Nat→Prop} {m':Nat→Nat} {Hc:List HO} {o b1:Nat} {cu us0:List U} {ds os cs2:List F} {L:List HO} (hH:HOK w Z m H) (ho:H[o]?=some (.box cu)) (hdl:ds.length=cu.length)
  (hc0:Hc[0]?=some (.box us0)) (hos:toFs [] us0=some os) (hle:FsLe os cs2) (q3:HOK w' Z' m' Hc) (q4:Ext w Z (fun _=>m o) [boxF ds] w' Z' m' Hc)
  (hL:L=[] ∨ ∃ sz n g,L=[.arr sz n g]∧w.heap.size≤b1∧¬ Z' b1∧∀ m3 G,ObOK w' Z' m3 G (.arr sz n g) b1) {m2:Nat→Nat} (hmn:m2 H.length=b1) (hmk:∀ k,k<H.length→m2 k=m k) :
  Ext w Z m H w' Z' m2 (H.set o (boxF cs2)++L)∧HOK w' Z' m2 (H.set o (boxF cs2)++L):=by
 have hlo:liveAt H o:=⟨_,ho,rfl⟩
 have hlt:o<H.length:=(List.getElem?_eq_some_iff.1 ho).1
 obtain ⟨hul,hm0⟩:us0.length=ds.length∧m' 0=m o:=by
  have:=q4.evol 0 (boxF ds) _ rfl hc0
  simp only [boxF,Evol,List.length_map] at this
  exact this
 have hlive1:∀ k,liveAt [boxF ds] k→k=0:=fun k ⟨ob,hk,_⟩=>by
  have:=(List.getElem?_eq_some_iff.1 hk).1
  simp at this;exact this
 have hz0:¬ Z' (m o):=by
  have:=q3.apart 0 ⟨_,hc0,rfl⟩
  rwa [hm0] at this
 have hold:∀ b,b<w.heap.size→b ≠ m o→w'.heap[b]?=w.heap[b]?:=fun b hb hne=>q4.rest b hb fun k hk e=>hne e.symm
 have hback:∀ b,Z' b→Z b ∨ w.heap.size≤b:=fun b hb=>by
  rcases q4.back b hb with h | h | ⟨k,hk,e⟩
  ·exact .inl h
  ·exact .inr h
  ·rw [← e] at hb;exact absurd hb hz0
 have hap:∀ k,liveAt H k→¬ Z' (m k):=fun k hk hz=>by
  rcases hback _ hz with h | h
  ·exact hH.apart k hk h
  ·have:=hH.blk_lt hk;omega
 have hkeep:∀ k,liveAt H k→k ≠ o→w'.heap[m k]?=w.heap[m k]?:=fun k hk hne=>hold _ (hH.blk_lt hk) fun e=>hne (hH.inj k o hk hlo e)
 have hget:∀ k,k<H.length→(H.set o (boxF cs2)++L)[k]?=(H.set o (boxF cs2))[k]?:=fun k hk=>List.getElem?_append_left (by simpa using hk)
 have hgetL:∀ k ob,¬ k<H.length→(H.set o (boxF cs2)++L)[k]?=some ob→k=H.length∧∃ sz n g,ob=.arr sz n g∧w.heap.size≤b1∧¬ Z' b1∧∀ m3 G,ObOK w' Z' m3 G (.arr sz n g) b1:=fun k ob hk h=>by
  rw [List.getElem?_append_right (by simp;omega),List.length_set] at h
  rcases hL with rfl | ⟨sz,n,g,rfl,h1,h2,h3⟩
  ·simp at h
  ·have hk0:k-H.length=0:=by
    have:=(List.getElem?_eq_some_iff.1 h).1
    simp at this;omega
   rw [hk0] at h
   simp at h
   exact ⟨by omega,sz,n,g,h.symm,h1,h2,h3⟩
 have hsplit:∀ k,liveAt (H.set o (boxF cs2)++L) k→(k<H.length∧liveAt H k) ∨ (k=H.length∧w.heap.size≤b1∧¬ Z' b1):=by
  rintro k ⟨ob,hk,hl⟩
  by_cases hkl:k<H.length
  ·rw [hget k hkl] at hk
   by_cases hko:o=k
   ·subst hko;exact .inl ⟨hkl,hlo⟩
   ·rw [List.getElem?_set_ne hko] at hk;exact .inl ⟨hkl,ob,hk,hl⟩
  ·obtain ⟨h1,sz,n,g,_,h2,h3,_⟩:=hgetL k ob hkl hk
   exact .inr ⟨h1,h2,h3⟩
 have hEE:Ext w Z m H w' Z' m2 (H.set o (boxF cs2)++L):=by
  refine ⟨q4.os,q4.tape,q4.output,q4.size,q4.sub,fun b hb=>(hback b hb).elim .inl fun h=>.inr (.inl h),fun b hb=>q4.kept b hb,fun b hb hn=>hold b hb fun e=>hn o hlo e.symm,by simp,fun k ob ob' hk hk'=>?_,fun k hk=>?_⟩
  ·have hkl:=(List.getElem?_eq_some_iff.1 hk).1
   rw [hget k hkl] at hk'
   rw [hmk k hkl]
   by_cases hko:o=k
   ·subst hko
    rw [List.getElem?_set_self hlt] at hk'
    rw [ho] at hk
    cases hk;cases hk'
    have h1:=(toFs_get us0 os hos).1
    have h2:=hle.get.1
    exact ⟨by rw [List.length_map];omega,rfl⟩
   ·rw [List.getElem?_set_ne hko,hk] at hk'
    cases hk'
    cases ob with
    | arr sz n g=>exact ⟨rfl,Nat.le_refl _,fun _=>⟨rfl,by simp only [blockCells,hkeep k ⟨_,hk,rfl⟩ (fun e=>hko e.symm)]⟩⟩
    | _=>simp [Evol]
  ·rcases hsplit k hk with ⟨h1,h2⟩ | ⟨h1,h2,_⟩
   ·exact .inl ⟨h2,hmk k h1⟩
   ·right;subst h1;rw [hmn];exact h2
 refine ⟨hEE,q3.zlt,fun k hk hz=>?_,fun k k' hk hk' e=>?_,fun k ob hk=>?_⟩
 ·rcases hsplit k hk with ⟨h1,h2⟩ | ⟨h1,_,h3⟩
  ·rw [hmk k h1] at hz;exact hap k h2 hz
  ·subst h1;rw [hmn] at hz;exact h3 hz
 ·rcases hsplit k hk with ⟨h1,h2⟩ | ⟨h1,h2,_⟩ <;> rcases hsplit k' hk' with ⟨g1,g2⟩ | ⟨g1,g2,_⟩
  ·rw [hmk k h1,hmk k' g1] at e;exact hH.inj k k' h2 g2 e
  ·rw [hmk k h1] at e;subst g1;rw [hmn] at e;have:=hH.blk_lt h2;omega
  ·rw [hmk k' g1] at e;subst h1;rw [hmn] at e;have:=hH.blk_lt g2;omega
  ·rw [h1,g1]
 ·by_cases hkl:k<H.length
  ·rw [hget k hkl] at hk
   rw [hmk k hkl]
   by_cases hko:o=k
   ·subst hko
    rw [List.getElem?_set_self hlt] at hk
    cases hk
    obtain ⟨c,el,fr,r1,r2,r3,r4⟩:=q3.ob 0 _ hc0
    rw [hm0] at r1 r2
    obtain ⟨h1,g1⟩:=toFs_get us0 os hos
    obtain ⟨h2,g2⟩:=hle.get
    refine ⟨c,el,fr,r1,r2,by rw [List.length_map];omega,fun j u hu=>?_⟩
    rw [List.getElem?_map] at hu
    cases hy:cs2[j]? with
    | none=>rw [hy] at hu;cases hu
    | some y =>
     rw [hy] at hu;cases hu
     obtain ⟨x,hx,hxy⟩:=g2 j y hy
     have hj:=(List.getElem?_eq_some_iff.1 hx).1
     have huj:us0[j]?=some us0[j]:=List.getElem?_eq_getElem (by omega)
     obtain ⟨v,hv,hr⟩:=r4 j _ huj
     exact ⟨v,hv,.f _ _ (hxy _ _ _ (toF_rep_nil q3 hr (g1 j _ x huj hx)))⟩
   ·rw [List.getElem?_set_ne hko] at hk
    by_cases hd:ob.live=true
    ·exact (hH.ob k ob hk).mono hEE (hkeep k ⟨_,hk,hd⟩ (fun e=>hko e.symm))
    ·cases ob with
     | dead=>trivial
     | free=>trivial
     | _=>exact absurd rfl hd
  ·obtain ⟨h1,sz,n,g,rfl,_,_,h4⟩:=hgetL k ob hkl hk
   subst h1
   rw [hmn]
   exact h4 _ _
theorem ptro_end {w':World} {Z':Nat→Prop} {m':Nat→Nat} {Hc:List HO} {o:Nat} {cu us0 us:List U} {ds os cs2 es fs:List F} {vs:List Value} (hH:HOK w Z m H) (ho:H[o]?=some (.box cu)) (hdl:ds.length=cu.length)
  (hc0:Hc[0]?=some (.box us0)) (hos:toFs [] us0=some os) (hle:FsLe os cs2) (q1:ownG true Hc us=some es) (q2:(objsAll us).length≤1) (q3:HOK w' Z' m' Hc) (q4:Ext w Z (fun _=>m o) [boxF ds] w' Z' m' Hc)
  (q5:RepUs w' Z' m' Hc us vs) (hes:Owns2 es fs) :
  ∃ m2,Ext w Z m H w' Z' m2 (newObs (H.set o (boxF cs2)) none (obsOf (flatF fs)))∧HOK w' Z' m2 (newObs (H.set o (boxF cs2)) none (obsOf (flatF fs))) ∧
   ∀ (j:Nat) (e:F) (v:Value),fs[j]?=some e→vs[j]?=some v→RepU w' Z' m2 (newObs (H.set o (boxF cs2)) none (obsOf (flatF fs))) (oneU (newAt (H.set o (boxF cs2)) none) e) v:=by
 obtain ⟨hflat,hol,hog⟩:=ownG_flat us es q1
 obtain ⟨hfl,hfg⟩:=owns2_get hes
 have each:∀ (j:Nat) (e:F),fs[j]?=some e→∃ u a,us[j]?=some u∧ownL true Hc u.cells=some a∧Own2 (mkF (isAggU u) a) e:=fun j e he=>by
  have hj:=(List.getElem?_eq_some_iff.1 he).1
  have huj:us[j]?=some us[j]:=List.getElem?_eq_getElem (by omega)
  obtain ⟨a,h1,h2⟩:=hog j _ huj
  obtain ⟨e1,h3,h4⟩:=hfg j _ h2
  rw [he] at h3;cases h3
  exact ⟨_,a,huj,h1,h4⟩
 rcases own_form (flatU us) (flatF es) (flatF fs) (Nat.le_trans (objsAll_flat us) q2) hflat (owns2_flat hes) with ⟨h0,hno⟩ | ⟨o1,sz,n,g,g',ho1,hsc,hgg,hob,hone⟩
 ·rw [h0]
  obtain ⟨e1,e2⟩:=ptro_ext (L:=[]) (b1:=0) hH ho hdl hc0 hos hle q3 q4 (.inl rfl) (m2:=fun k=>if k=H.length then 0 else m k) (by simp) (fun k hk=>if_neg (by omega))
  rw [List.append_nil] at e1 e2
  have eN:newObs (H.set o (boxF cs2)) none []=H.set o (boxF cs2):=rfl
  rw [eN]
  refine ⟨_,e1,e2,fun j e v he hv=>?_⟩
  obtain ⟨u,e0,h1,h2,h3⟩:=each j e he
  exact oneU_rep (q5.2 j u v h1 hv) h2 h3 (fun _ _ _ hr=>hr) fun x hx o gen off len e=>absurd e (hno x (flatU_mem (List.mem_of_getElem? h1) hx) o gen off len)
 ·rw [hob]
  have hlo1:liveAt Hc o1:=⟨_,ho1,rfl⟩
  have hfresh:w.heap.size≤m' o1:=by
   rcases q4.new o1 hlo1 with ⟨⟨ob,hk,_⟩,_⟩ | h
   ·have:=(List.getElem?_eq_some_iff.1 hk).1
    simp at this
    subst this
    rw [hc0] at ho1;cases ho1
   ·exact h
  have hOb:∀ m3 G,ObOK w' Z' m3 G (.arr sz n g') (m' o1):=fun m3 G=>by
   obtain ⟨r0,c1,el,fr,r1,r2,r3,r4,r5⟩:=q3.ob o1 _ ho1
   exact ⟨r0,c1,el,fr,r1,r2,r3,fun i hi=>by rw [← hgg i hi];exact r4 i hi,fun i j u hi hu=>r5 i j u hi (by rw [hgg i hi];exact hu)⟩
  obtain ⟨e1,e2⟩:=ptro_ext (L:=[.arr sz n g']) (b1:=m' o1) hH ho hdl hc0 hos hle q3 q4 (.inr ⟨sz,n,g',rfl,hfresh,q3.apart o1 hlo1,hOb⟩) (m2:=fun k=>if k=H.length then m' o1 else m k) (by simp) (fun k hk=>if_neg (by omega))
  have eN:newObs (H.set o (boxF cs2)) none [.arr sz n g']=H.set o (boxF cs2)++[.arr sz n g']:=rfl
  have eA:newAt (H.set o (boxF cs2)) none=H.length:=by
   show (H.set o (boxF cs2)).length=H.length
   exact List.length_set
  rw [eN,eA]
  refine ⟨_,e1,e2,fun j e v he hv=>?_⟩
  obtain ⟨u,e0,h1,h2,h3⟩:=each j e he
  refine oneU_rep (q5.2 j u v h1 hv) h2 h3 (fun _ _ _ hr=>hr) fun x hx o2 gen off len e=>?_
  obtain ⟨rfl,rfl,rfl,rfl⟩:=hone x (flatU_mem (List.mem_of_getElem? h1) hx) o2 gen off len e
  refine ⟨sz,g',rfl,rfl,?_,by simp,g,ho1⟩
  rw [List.getElem?_append_right (by simp),List.length_set,Nat.sub_self]
  rfl
theorem fn_ptro {f : FuncId} {fn : Func} {c : Code} (hf : P.funcs[f]? = some fn) (hb : fn.body = some c) (hname : (fn.name == "runtime.NumGoroutine") = false) {pre : List F → List F → Bool} {res : List F → List F → List F × List F}
  (h:∀ cs xs,pre cs xs=true→∃ ds ys es os,FsLe cs ds∧FsLe xs ys∧EndsN P 1 (.tmp 1000003 :: fn.results.toList) [.code c] (startN fn.ntmps (.hp 0 0 :: ys.map .f) [.box (ds.map .f)]) (.tup [.tup es,.agg os])∧Owns2 es (res cs xs).1∧FsLe os (res cs xs).2):SpOK P f (ptroSp pre res):=by
 intro us H hp w Z m args hH hL
 unfold ptrPre at hp
 split at hp
 ·rename_i o us'
  split at hp
  ·rename_i cu ho
   split at hp
   ·rename_i cs xs hcs hxs
    have hres:ptroRes res (.hp o 0 :: us') H=place (H.set o (boxF (res cs xs).2)) none (.tup (res cs xs).1):=by simp only [ptroRes,ho,hcs,hxs]
    rw [hres]
    obtain ⟨ds,ys,es,os,h1,h2,h3,h4,h5⟩:=h cs xs hp
    obtain ⟨hl1,hg1⟩:=toFs_get cu cs hcs
    obtain ⟨hl2,hg2⟩:=toFs_get us' xs hxs
    have hlo:liveAt H o:=⟨_,ho,rfl⟩
    have hobk:=hH.ob o _ ho
    have hHsub:HOK w Z (fun _=>m o) [boxF cs]:=by
     refine ⟨hH.zlt,fun _ _=>hH.apart o hlo,fun a b ha hb _=>?_,fun k ob hk=>?_⟩
     ·obtain ⟨_,ha,_⟩:=ha
      obtain ⟨_,hb,_⟩:=hb
      have:=(List.getElem?_eq_some_iff.1 ha).1
      have:=(List.getElem?_eq_some_iff.1 hb).1
      simp at *
      omega
     ·have hk0:=(List.getElem?_eq_some_iff.1 hk).1
      obtain rfl:k=0:=by simp at hk0;exact hk0
      simp at hk;subst hk
      obtain ⟨c,el,fr,q1,q2,q3,q4⟩:=hobk
      refine ⟨c,el,fr,q1,q2,by rw [List.length_map,← hl1];exact q3,fun j u hu=>?_⟩
      rw [List.getElem?_map] at hu
      cases hxj:cs[j]? with
      | none=>rw [hxj] at hu;cases hu
      | some y =>
       rw [hxj] at hu;cases hu
       have hj:=(List.getElem?_eq_some_iff.1 hxj).1
       have huj:cu[j]?=some cu[j]:=List.getElem?_eq_getElem (by omega)
       obtain ⟨v,hv,hr⟩:=q4 j _ huj
       exact ⟨v,hv,.f _ _ (toF_rep_nil hH hr (hg1 j _ y huj hxj))⟩
    obtain ⟨hy1,hy2⟩:=h2.get
    have hLsub:RepUs w Z (fun _=>m o) [boxF ds] (.hp 0 0 :: ys.map .f) args.toList:=by
     refine ⟨by rw [← hL.1];simp [hl2,hy1],fun j u v hu hv=>?_⟩
     cases j with
     | zero =>
      simp at hu;subst hu
      have:=hL.2 0 _ v rfl hv
      cases this with
      | hp _ _ _ h1 hk hvv=>exact .hp 0 0 v h1 ⟨_,rfl,by simp [boxF]⟩ fun cs' _=>hvv _ ho
     | succ j =>
      simp only [List.getElem?_cons_succ,List.getElem?_map] at hu
      cases hyj:ys[j]? with
      | none=>rw [hyj] at hu;cases hu
      | some y =>
       rw [hyj] at hu;cases hu
       obtain ⟨x,hx,hxy⟩:=hy2 j y hyj
       have hj:=(List.getElem?_eq_some_iff.1 hx).1
       have huj:us'[j]?=some us'[j]:=List.getElem?_eq_getElem (by omega)
       exact .f _ _ (hxy _ _ _ (toF_rep_nil hH (hL.2 (j+1) _ v (by rw [List.getElem?_cons_succ];exact huj) hv) (hg2 j _ x huj hx)))
    refine (call_toldN (H:=[boxF ds]) hf hb hname (os:=[.agg os]) h3 rfl (hHsub.box_le h1) hLsub).mono fun v w' ⟨st',Z',m',us2,vs,q1,q2,qo,q3,q4,q5,q6⟩=>?_
    have hlen1:1≤st'.heap.length:=by have:=q4.len;simpa using this
    have hc:=List.getElem?_eq_getElem (show 0<st'.heap.length by omega)
    have htake:st'.heap.take 1=[st'.heap[0]]:=by
     apply List.ext_getElem
     ·simp;omega
     ·intro i h1 h2
      have h2:i=0:=by simp at h2;exact h2
      subst h2
      simp
    have hone:[boxF ds].length=1:=rfl
    rw [hone,htake] at qo
    obtain ⟨us0,hb0,hos⟩:∃ us0,st'.heap[0]=.box us0∧toFs [] us0=some os:=by
     generalize st'.heap[0]=ob at qo
     cases ob with
     | box us0 =>
      simp only [outs0] at qo
      split at qo
      ·rename_i xs os2 hx ho2
       simp only [Option.some.injEq,List.cons.injEq,F.agg.injEq] at qo
       exact ⟨us0,rfl,by rw [hx,qo.1]⟩
      ·cases qo
     | _=>simp [outs0] at qo
    rw [hb0] at hc
    obtain ⟨m2,p1,p2,p3⟩:=ptro_end (cu:=cu) (ds:=ds) hH ho (by rw [← h1.get.1,hl1]) hc hos h5 q1 q2 q3 q4 q5 h4
    have hfl:(res cs xs).1.length=vs.length:=by
     have e1:=(owns2_get h4).1
     have e2:=(ownG_flat us2 es q1).2.1
     have e3:=q5.1
     omega
    have:=place_tup (H:=H.set o (boxF (res cs xs).2)) (slot:=none) (w:=w) (Z:=Z) (m:=m) hfl p3
    rw [q6]
    refine ⟨Z',m2,?_⟩
    match hr:(res cs xs).1,vs,hfl,p1,p2,p3 with
    | [e],[v],_,p1,p2,p3=>exact ⟨p1,p2,p3 0 e v rfl rfl⟩
    | [],[],_,p1,p2,p3=>exact ⟨p1,p2,.tup [] [] rfl fun j u v hu=>by simp at hu⟩
    | e1 :: e2 :: fs,v1 :: v2 :: vs,hfl,p1,p2,p3 =>
     refine ⟨p1,p2,?_⟩
     have:RepU w' Z' m2 (newObs (H.set o (boxF (res cs xs).2)) none (obsOf (flatF (e1 :: e2 :: fs)))) (.tup ((e1 :: e2 :: fs).map (oneU (newAt (H.set o (boxF (res cs xs).2)) none)))) (.tuple (v1 :: v2 :: vs).toArray):=.tup _ _ (by simpa using hfl) fun j u v hu hv=>by
      rw [List.getElem?_map] at hu
      cases he:(e1 :: e2 :: fs)[j]? with
      | none=>rw [he] at hu;cases hu
      | some e=>rw [he] at hu;cases hu;exact p3 j e v he hv
     have e:(if h:(v1 :: v2 :: vs).toArray.size=1 then (v1 :: v2 :: vs).toArray[0] else Value.tuple (v1 :: v2 :: vs).toArray)=.tuple (v1 :: v2 :: vs).toArray:=dif_neg (by simp)
     rw [e]
     exact this
    | [_],[],hl,_,_,_=>simp at hl
    | [_],_ :: _ :: _,hl,_,_,_=>simp at hl
    | [],_ :: _,hl,_,_,_=>simp at hl
    | _ :: _ :: _,[],hl,_,_,_=>simp at hl
    | _ :: _ :: _,[_],hl,_,_,_=>simp at hl
   ·cases hp
  ·cases hp
 ·cases hp
end
theorem pt_at {α:Type} {is:F→Bool} {un:F→α} {enc:α→F} (d:α) (h1:∀ x,is x=true→x=enc (un x)) {n:Nat} {g:Nat→F} (h:isSl is (.sl n g)=true) {j:Nat} (hj:j<n):g j=enc ((unSl un (.sl n g)).getD j d):=by
 simp only [isSl,List.all_eq_true,List.mem_range] at h
 have e:(unSl un (.sl n g)).getD j d=un (g j):=by simp [unSl,List.getD,hj]
 rw [e]
 exact h1 _ (h j hj)
theorem atPts {n:Nat} {g:Nat→F} (h:isPts (.sl n g)=true) {j:Nat} (hj:j<n):g j=ptF ((unPts (.sl n g)).getD j Pt.zero):=pt_at Pt.zero (fun _ h=>(pt_eq h).symm) h hj
noncomputable section
/-! ### function 13 -/
def S13_6 (s:ByteArray) (p:Int) (n:Nat) (g:Nat→F) (x:Int) (y:Int) (u:Int) (t:Int):St:=⟨(U.hp 0 0) :: bads 1 ((U.hp 1 0) :: (U.f (F.int .i64 x)) :: (U.f (F.int .i64 y)) :: (U.f (F.int .i64 u)) :: (U.f (F.int .i64 t)) :: (U.hs 2 n 0 n) :: bads 187 []),[HO.box [U.f (bytesF s),U.f (F.int .i64 p)],HO.box [U.nils],HO.arr 2 n g]⟩
def S13_6v (s:ByteArray) (p:Int) (n:Nat) (o:List Pt) (x:Int) (y:Int) (u:Int) (t:Int):St:=⟨(U.hp 0 0) :: bads 1 ((U.hp 1 0) :: (U.f (F.int .i64 x)) :: (U.f (F.int .i64 y)) :: (U.f (F.int .i64 u)) :: (U.f (F.int .i64 t)) :: (U.hs 2 n 0 n) :: bads 187 []),[HO.box [U.f (bytesF s),U.f (F.int .i64 p)],HO.box [U.nils],HO.arr 2 n (fun i=>ptF (o.getD i Pt.zero))]⟩
def S13_17 (s:ByteArray) (p:Int) (n:Nat) (g:Nat→F):St:=⟨(U.hp 0 0) :: bads 1 ((U.hp 1 0) :: bads 4 ((U.hs 2 n 0 n) :: bads 187 [])),[HO.box [U.f (bytesF s),U.f (F.int .i64 p)],HO.box [U.nils],HO.arr 2 n g]⟩
def S13_17v (s:ByteArray) (p:Int) (n:Nat) (o:List Pt):St:=⟨(U.hp 0 0) :: bads 1 ((U.hp 1 0) :: bads 4 ((U.hs 2 n 0 n) :: bads 187 [])),[HO.box [U.f (bytesF s),U.f (F.int .i64 p)],HO.box [U.nils],HO.arr 2 n (fun i=>ptF (o.getD i Pt.zero))]⟩
def S13_19 (s:ByteArray) (p:Int) (n:Nat) (g:Nat→F) (i:Int):St:=⟨(U.hp 0 0) :: bads 1 ((U.hp 1 0) :: bads 4 ((U.hs 2 n 0 n) :: (U.f (F.int .i64 i)) :: bads 186 [])),[HO.box [U.f (bytesF s),U.f (F.int .i64 p)],HO.box [U.nils],HO.arr 2 n g]⟩
def S13_19v (s:ByteArray) (p:Int) (n:Nat) (o:List Pt) (i:Int):St:=⟨(U.hp 0 0) :: bads 1 ((U.hp 1 0) :: bads 4 ((U.hs 2 n 0 n) :: (U.f (F.int .i64 i)) :: bads 186 [])),[HO.box [U.f (bytesF s),U.f (F.int .i64 p)],HO.box [U.nils],HO.arr 2 n (fun i=>ptF (o.getD i Pt.zero))]⟩
def S13_24 (s:ByteArray) (p:Int) (n:Nat) (g:Nat→F):St:=⟨(U.hp 0 0) :: bads 1 ((U.hp 1 0) :: bads 4 ((U.hs 2 n 0 n) :: bads 187 [])),[HO.box [U.f (bytesF s),U.f (F.int .i64 p)],HO.box [U.nils],HO.arr 2 n g]⟩
def S13_24v (s:ByteArray) (p:Int) (n:Nat) (o:List Pt):St:=⟨(U.hp 0 0) :: bads 1 ((U.hp 1 0) :: bads 4 ((U.hs 2 n 0 n) :: bads 187 [])),[HO.box [U.f (bytesF s),U.f (F.int .i64 p)],HO.box [U.nils],HO.arr 2 n (fun i=>ptF (o.getD i Pt.zero))]⟩
def S13_26 (s:ByteArray) (p:Int) (n:Nat) (g:Nat→F):St:=⟨(U.hp 0 0) :: bads 1 ((U.hp 1 0) :: bads 4 ((U.hs 2 n 0 n) :: bads 187 [])),[HO.box [U.f (bytesF s),U.f (F.int .i64 p)],HO.box [U.nils],HO.arr 2 n g]⟩
def S13_26v (s:ByteArray) (p:Int) (n:Nat) (o:List Pt):St:=⟨(U.hp 0 0) :: bads 1 ((U.hp 1 0) :: bads 4 ((U.hs 2 n 0 n) :: bads 187 [])),[HO.box [U.f (bytesF s),U.f (F.int .i64 p)],HO.box [U.nils],HO.arr 2 n (fun i=>ptF (o.getD i Pt.zero))]⟩
abbrev KJ91 (ρ:Type):=(ByteArray)→(Int)→(Nat)→(Nat→F)→Option ρ
abbrev KJ92 (ρ:Type):=(ByteArray)→(Int)→(Nat)→(Nat→F)→(Int)→(Int)→(Int)→(Int)→Option ρ
abbrev KJ93 (ρ:Type):=(ByteArray)→(Int)→(Nat)→(Nat→F)→(Int)→Option ρ
abbrev KJ95 (ρ:Type):=(F)→(Int)→Option ρ
def T13_6 {ρ:Type} (ret:KJ95 ρ) (c6:KJ92 ρ) (c17:KJ91 ρ) (c19:KJ93 ρ) (c24:KJ91 ρ) (c26:KJ91 ρ) (s:ByteArray) (p:Int) (n:Nat) (o:List Pt) (x:Int) (y:Int) (u:Int) (t:Int):Option ρ :=
 (bsel (isBytes (bytesF s)&&rdOk (unBytes (bytesF s)) p)
 (bsel ((belowV (unBytes (bytesF s)) p 8).fst==0)
 (bsel (isBytes (bytesF s)&&rdOk (unBytes (bytesF s)) (belowV (unBytes (bytesF s)) p 8).snd&&true)
 (bsel (isBytes (bytesF s)&&rdOk (unBytes (bytesF s)) (resSpot [] (unBytes (bytesF s)) (belowV (unBytes (bytesF s)) p 8).snd).snd&&true)
 (bsel (isBytes (bytesF s)&&rdOk (unBytes (bytesF s)) (resSpot [] (unBytes (bytesF s)) (resSpot [] (unBytes (bytesF s)) (belowV (unBytes (bytesF s)) p 8).snd).snd).snd&&true)
 (c17 (s) ((resSpot [] (unBytes (bytesF s)) (resSpot [] (unBytes (bytesF s)) (resSpot [] (unBytes (bytesF s)) (belowV (unBytes (bytesF s)) p 8).snd).snd).snd).snd) (3) (lget [F.agg [F.int .i64 (spotV (unBytes (bytesF s)) (belowV (unBytes (bytesF s)) p 8).snd).fst,F.int .i64 (spotV (unBytes (bytesF s)) (belowV (unBytes (bytesF s)) p 8).snd).snd.fst],F.agg [F.int .i64 (spotV (unBytes (bytesF s)) (resSpot [] (unBytes (bytesF s)) (belowV (unBytes (bytesF s)) p 8).snd).snd).fst,F.int .i64 (spotV (unBytes (bytesF s)) (resSpot [] (unBytes (bytesF s)) (belowV (unBytes (bytesF s)) p 8).snd).snd).snd.fst],F.agg [F.int .i64 (spotV (unBytes (bytesF s)) (resSpot [] (unBytes (bytesF s)) (resSpot [] (unBytes (bytesF s)) (belowV (unBytes (bytesF s)) p 8).snd).snd).snd).fst,F.int .i64 (spotV (unBytes (bytesF s)) (resSpot [] (unBytes (bytesF s)) (resSpot [] (unBytes (bytesF s)) (belowV (unBytes (bytesF s)) p 8).snd).snd).snd).snd.fst]]))
 none)
 none)
 none)
 (bsel ((belowV (unBytes (bytesF s)) p 8).fst==1)
 (c17 (s) ((belowV (unBytes (bytesF s)) p 8).snd) (6) (lget [F.agg [F.int .i64 x,F.int .i64 y],F.agg [F.int .i64 (IntKind.i64.wrap (IntKind.i64.wrap (x+u)+1)),F.int .i64 y],F.agg [F.int .i64 (IntKind.i64.wrap (IntKind.i64.wrap (x+u)+1)),F.int .i64 (IntKind.i64.wrap (y+1))],F.agg [F.int .i64 (IntKind.i64.wrap (x+1)),F.int .i64 (IntKind.i64.wrap (y+1))],F.agg [F.int .i64 (IntKind.i64.wrap (x+1)),F.int .i64 (IntKind.i64.wrap (IntKind.i64.wrap (y+t)+1))],F.agg [F.int .i64 x,F.int .i64 (IntKind.i64.wrap (IntKind.i64.wrap (y+t)+1))]]))
 (bsel ((belowV (unBytes (bytesF s)) p 8).fst==2)
 (bsel (isBytes (bytesF s)&&rdOk (unBytes (bytesF s)) (belowV (unBytes (bytesF s)) p 8).snd&&true)
 (bsel (isBytes (bytesF s)&&rdOk (unBytes (bytesF s)) (resSpot [] (unBytes (bytesF s)) (belowV (unBytes (bytesF s)) p 8).snd).snd&&true)
 (bsel (isBytes (bytesF s)&&rdOk (unBytes (bytesF s)) (resSpot [] (unBytes (bytesF s)) (resSpot [] (unBytes (bytesF s)) (belowV (unBytes (bytesF s)) p 8).snd).snd).snd&&true)
 (bsel (isBytes (bytesF s)&&rdOk (unBytes (bytesF s)) (resSpot [] (unBytes (bytesF s)) (resSpot [] (unBytes (bytesF s)) (resSpot [] (unBytes (bytesF s)) (belowV (unBytes (bytesF s)) p 8).snd).snd).snd).snd&&true)
 (c17 (s) ((resSpot [] (unBytes (bytesF s)) (resSpot [] (unBytes (bytesF s)) (resSpot [] (unBytes (bytesF s)) (resSpot [] (unBytes (bytesF s)) (belowV (unBytes (bytesF s)) p 8).snd).snd).snd).snd).snd) (4) (lget [F.agg [F.int .i64 (spotV (unBytes (bytesF s)) (belowV (unBytes (bytesF s)) p 8).snd).fst,F.int .i64 (spotV (unBytes (bytesF s)) (belowV (unBytes (bytesF s)) p 8).snd).snd.fst],F.agg [F.int .i64 (spotV (unBytes (bytesF s)) (resSpot [] (unBytes (bytesF s)) (belowV (unBytes (bytesF s)) p 8).snd).snd).fst,F.int .i64 (spotV (unBytes (bytesF s)) (resSpot [] (unBytes (bytesF s)) (belowV (unBytes (bytesF s)) p 8).snd).snd).snd.fst],F.agg [F.int .i64 (spotV (unBytes (bytesF s)) (resSpot [] (unBytes (bytesF s)) (resSpot [] (unBytes (bytesF s)) (belowV (unBytes (bytesF s)) p 8).snd).snd).snd).fst,F.int .i64 (spotV (unBytes (bytesF s)) (resSpot [] (unBytes (bytesF s)) (resSpot [] (unBytes (bytesF s)) (belowV (unBytes (bytesF s)) p 8).snd).snd).snd).snd.fst],F.agg [F.int .i64 (spotV (unBytes (bytesF s)) (resSpot [] (unBytes (bytesF s)) (resSpot [] (unBytes (bytesF s)) (resSpot [] (unBytes (bytesF s)) (belowV (unBytes (bytesF s)) p 8).snd).snd).snd).snd).fst,F.int .i64 (spotV (unBytes (bytesF s)) (resSpot [] (unBytes (bytesF s)) (resSpot [] (unBytes (bytesF s)) (resSpot [] (unBytes (bytesF s)) (belowV (unBytes (bytesF s)) p 8).snd).snd).snd).snd).snd.fst]]))
 none)
 none)
 none)
 none)
 (bsel ((belowV (unBytes (bytesF s)) p 8).fst==3)
 (bsel (isBytes (bytesF s)&&rdOk (unBytes (bytesF s)) (belowV (unBytes (bytesF s)) p 8).snd&&true)
 (c17 (s) ((resNear [F.int .i64 (-2),F.int .i64 8] (unBytes (bytesF s)) (belowV (unBytes (bytesF s)) p 8).snd).snd) (3) (lget [F.agg [F.int .i64 x,F.int .i64 y],F.agg [F.int .i64 (IntKind.i64.wrap (x+u)),F.int .i64 y],F.agg [F.int .i64 (IntKind.i64.wrap (x+(nearV (-2) 8 (unBytes (bytesF s)) (belowV (unBytes (bytesF s)) p 8).snd).fst)),F.int .i64 (IntKind.i64.wrap (y+t))]]))
 none)
 (bsel ((belowV (unBytes (bytesF s)) p 8).fst==4)
 (c17 (s) ((belowV (unBytes (bytesF s)) p 8).snd) (4) (lget [F.agg [F.int .i64 (IntKind.i64.wrap (x+IntKind.i64.wrap (2*u))),F.int .i64 y],F.agg [F.int .i64 (IntKind.i64.wrap (x+u)),F.int .i64 (IntKind.i64.wrap (y+t))],F.agg [F.int .i64 x,F.int .i64 y],F.agg [F.int .i64 (IntKind.i64.wrap (x+u)),F.int .i64 (IntKind.i64.wrap (y-t))]]))
 (c17 (s) ((belowV (unBytes (bytesF s)) p 8).snd) (n) (fun i ↦ F.agg [F.int .i64 (o.getD i Pt.zero).x,F.int .i64 (o.getD i Pt.zero).y])))))))
 none)
def T13_17 {ρ:Type} (ret:KJ95 ρ) (c6:KJ92 ρ) (c17:KJ91 ρ) (c19:KJ93 ρ) (c24:KJ91 ρ) (c26:KJ91 ρ) (s:ByteArray) (p:Int) (n:Nat) (o:List Pt):Option ρ :=
 (bsel (isBytes (bytesF s)&&rdOk (unBytes (bytesF s)) p)
 (bsel ((onceV (unBytes (bytesF s)) p 6).fst)
 (c19 (s) ((onceV (unBytes (bytesF s)) p 6).snd) (n) (fun i ↦ F.agg [F.int .i64 (o.getD i Pt.zero).x,F.int .i64 (o.getD i Pt.zero).y]) (0))
 (c24 (s) ((onceV (unBytes (bytesF s)) p 6).snd) (n) (fun i ↦ F.agg [F.int .i64 (o.getD i Pt.zero).x,F.int .i64 (o.getD i Pt.zero).y])))
 none)
def T13_19 {ρ:Type} (ret:KJ95 ρ) (c6:KJ92 ρ) (c17:KJ91 ρ) (c19:KJ93 ρ) (c24:KJ91 ρ) (c26:KJ91 ρ) (s:ByteArray) (p:Int) (n:Nat) (o:List Pt) (i:Int):Option ρ :=
 (bsel (decide (n=n))
 (bsel (decide (i<IntKind.i64.wrap ((↑n:Int).tdiv 2)))
 (bsel (decide (n=n))
 (bsel (decide (0≤i))
 (bsel (decide (i<(↑n:Int)))
 (bsel (decide (n=n))
 (bsel (decide (0+i.toNat<n))
 (bsel (decide (n=n))
 (bsel (decide (n=n))
 (bsel (decide (0≤IntKind.i64.wrap (IntKind.i64.wrap ((↑n:Int)-1)-i)))
 (bsel (decide (IntKind.i64.wrap (IntKind.i64.wrap ((↑n:Int)-1)-i)<(↑n:Int)))
 (bsel (decide (n=n))
 (bsel (decide (0+(IntKind.i64.wrap (IntKind.i64.wrap ((↑n:Int)-1)-i)).toNat<n))
 (bsel (decide (n=n))
 (bsel (decide (0≤i))
 (bsel (decide (i<(↑n:Int)))
 (bsel (decide (n=n))
 (bsel (decide (0+i.toNat<n))
 (bsel (decide (n=n))
 (bsel (decide (n=n))
 (bsel (decide (0≤IntKind.i64.wrap (IntKind.i64.wrap ((↑n:Int)-1)-i)))
 (bsel (decide (IntKind.i64.wrap (IntKind.i64.wrap ((↑n:Int)-1)-i)<(↑n:Int)))
 (bsel (decide (n=n))
 (bsel (decide (0+(IntKind.i64.wrap (IntKind.i64.wrap ((↑n:Int)-1)-i)).toNat<n))
 (bsel (decide ((if 0+(IntKind.i64.wrap (IntKind.i64.wrap ((↑n:Int)-1)-i)).toNat=0+i.toNat then F.agg [F.int .i64 (o.getD (0+(IntKind.i64.wrap (IntKind.i64.wrap ((↑n:Int)-1)-i)).toNat) Pt.zero).x,F.int .i64 (o.getD (0+(IntKind.i64.wrap (IntKind.i64.wrap ((↑n:Int)-1)-i)).toNat) Pt.zero).y] else F.agg [F.int .i64 (o.getD (0+(IntKind.i64.wrap (IntKind.i64.wrap ((↑n:Int)-1)-i)).toNat) Pt.zero).x,F.int .i64 (o.getD (0+(IntKind.i64.wrap (IntKind.i64.wrap ((↑n:Int)-1)-i)).toNat) Pt.zero).y]).cells.length=2))
 (bsel ((isAggF (if 0+(IntKind.i64.wrap (IntKind.i64.wrap ((↑n:Int)-1)-i)).toNat=0+i.toNat then F.agg [F.int .i64 (o.getD (0+(IntKind.i64.wrap (IntKind.i64.wrap ((↑n:Int)-1)-i)).toNat) Pt.zero).x,F.int .i64 (o.getD (0+(IntKind.i64.wrap (IntKind.i64.wrap ((↑n:Int)-1)-i)).toNat) Pt.zero).y] else F.agg [F.int .i64 (o.getD (0+(IntKind.i64.wrap (IntKind.i64.wrap ((↑n:Int)-1)-i)).toNat) Pt.zero).x,F.int .i64 (o.getD (0+(IntKind.i64.wrap (IntKind.i64.wrap ((↑n:Int)-1)-i)).toNat) Pt.zero).y]) || false)&&true)
 (c19 (s) (p) (n) (fun j ↦ if j=0+(IntKind.i64.wrap (IntKind.i64.wrap ((↑n:Int)-1)-i)).toNat then F.agg [F.int .i64 (o.getD (0+i.toNat) Pt.zero).x,F.int .i64 (o.getD (0+i.toNat) Pt.zero).y] else if j=0+i.toNat then F.agg [F.int .i64 (o.getD (0+(IntKind.i64.wrap (IntKind.i64.wrap ((↑n:Int)-1)-i)).toNat) Pt.zero).x,F.int .i64 (o.getD (0+(IntKind.i64.wrap (IntKind.i64.wrap ((↑n:Int)-1)-i)).toNat) Pt.zero).y] else F.agg [F.int .i64 (o.getD j Pt.zero).x,F.int .i64 (o.getD j Pt.zero).y]) (IntKind.i64.wrap (i+1)))
 none)
 none)
 none)
 none)
 none)
 none)
 none)
 none)
 none)
 none)
 none)
 none)
 none)
 none)
 none)
 none)
 none)
 none)
 none)
 none)
 none)
 none)
 none)
 none)
 (c24 (s) (p) (n) (fun i ↦ F.agg [F.int .i64 (o.getD i Pt.zero).x,F.int .i64 (o.getD i Pt.zero).y])))
 none)
def T13_24 {ρ:Type} (ret:KJ95 ρ) (c6:KJ92 ρ) (c17:KJ91 ρ) (c19:KJ93 ρ) (c24:KJ91 ρ) (c26:KJ91 ρ) (s:ByteArray) (p:Int) (n:Nat) (o:List Pt):Option ρ :=
 (bsel (isBytes (bytesF s)&&rdOk (unBytes (bytesF s)) p)
 (bsel ((onceV (unBytes (bytesF s)) p 40).fst)
 (bsel (decide (n=n))
 (bsel (isBytes (bytesF s)&&rdOk (unBytes (bytesF s)) (onceV (unBytes (bytesF s)) p 40).snd)
 (bsel (isBytes (bytesF s)&&rdOk (unBytes (bytesF s)) (belowV (unBytes (bytesF s)) (onceV (unBytes (bytesF s)) p 40).snd (↑n:Int)).snd&&true)
 (bsel (decide (n=n))
 (bsel (decide (0≤(belowV (unBytes (bytesF s)) (onceV (unBytes (bytesF s)) p 40).snd (↑n:Int)).fst))
 (bsel (decide ((belowV (unBytes (bytesF s)) (onceV (unBytes (bytesF s)) p 40).snd (↑n:Int)).fst<(↑n:Int)))
 (bsel (decide (n=n))
 (bsel (decide (n=n))
 (bsel (decide (0+(belowV (unBytes (bytesF s)) (onceV (unBytes (bytesF s)) p 40).snd (↑n:Int)).fst.toNat<n))
 (c26 (s) ((resOff [F.int .i64 (-1000000),F.int .i64 1000000] (unBytes (bytesF s)) (belowV (unBytes (bytesF s)) (onceV (unBytes (bytesF s)) p 40).snd (↑n:Int)).snd).snd) (n) (fun j ↦ if j=0+(belowV (unBytes (bytesF s)) (onceV (unBytes (bytesF s)) p 40).snd (↑n:Int)).fst.toNat then F.agg [F.int .i64 (offV (-1000000) 1000000 (unBytes (bytesF s)) (belowV (unBytes (bytesF s)) (onceV (unBytes (bytesF s)) p 40).snd (↑n:Int)).snd).fst,F.int .i64 (o.getD (0+(belowV (unBytes (bytesF s)) (onceV (unBytes (bytesF s)) p 40).snd (↑n:Int)).fst.toNat) Pt.zero).y] else F.agg [F.int .i64 (o.getD j Pt.zero).x,F.int .i64 (o.getD j Pt.zero).y]))
 none)
 none)
 none)
 none)
 none)
 none)
 none)
 none)
 none)
 (c26 (s) ((onceV (unBytes (bytesF s)) p 40).snd) (n) (fun i ↦ F.agg [F.int .i64 (o.getD i Pt.zero).x,F.int .i64 (o.getD i Pt.zero).y])))
 none)
def T13_26 {ρ:Type} (ret:KJ95 ρ) (c6:KJ92 ρ) (c17:KJ91 ρ) (c19:KJ93 ρ) (c24:KJ91 ρ) (c26:KJ91 ρ) (s:ByteArray) (p:Int) (n:Nat) (o:List Pt):Option ρ :=
 (bsel (isBytes (bytesF s)&&rdOk (unBytes (bytesF s)) p)
 (bsel ((onceV (unBytes (bytesF s)) p 40).fst)
 (bsel (decide (n=n))
 (bsel (decide (n=n))
 (bsel (decide (n=n))
 (bsel (decide ((↑(n+n):Int)*(((16:Nat):Int)+1)≤(↑limit:Int)))
 (bsel (decide (n+n=n+n))
 (ret (F.agg [F.sl (n+n) fun j ↦ if j<n then F.agg [F.int .i64 (o.getD j Pt.zero).x,F.int .i64 (o.getD j Pt.zero).y] else one n (offF 0 fun i ↦ F.agg [F.int .i64 (o.getD i Pt.zero).x,F.int .i64 (o.getD i Pt.zero).y]) (j-n)]) ((onceV (unBytes (bytesF s)) p 40).snd))
 none)
 none)
 none)
 none)
 none)
 (bsel (decide (n=n))
 (ret (F.agg [F.sl n fun i ↦ F.agg [F.int .i64 (o.getD i Pt.zero).x,F.int .i64 (o.getD i Pt.zero).y]]) ((onceV (unBytes (bytesF s)) p 40).snd))
 none))
 none)
mutual
def L13_6:Nat→(ByteArray)→(Int)→(Nat)→(Nat→F)→(Int)→(Int)→(Int)→(Int)→Option ((F) × (Int))
 | 0,_,_,_,_,_,_,_,_=>none
 | k+1,s,p,n,g,x,y,u,t=>bsel (isPts (F.sl n g)) (T13_6 (fun rt pq=>some (rt,pq)) (L13_6 k) (L13_17 k) (L13_19 k) (L13_24 k) (L13_26 k) s p n (unPts (F.sl n g)) x y u t) none
 termination_by structural k=>k
def L13_17:Nat→(ByteArray)→(Int)→(Nat)→(Nat→F)→Option ((F) × (Int))
 | 0,_,_,_,_=>none
 | k+1,s,p,n,g=>bsel (isPts (F.sl n g)) (T13_17 (fun rt pq=>some (rt,pq)) (L13_6 k) (L13_17 k) (L13_19 k) (L13_24 k) (L13_26 k) s p n (unPts (F.sl n g))) none
 termination_by structural k=>k
def L13_19:Nat→(ByteArray)→(Int)→(Nat)→(Nat→F)→(Int)→Option ((F) × (Int))
 | 0,_,_,_,_,_=>none
 | k+1,s,p,n,g,i=>bsel (isPts (F.sl n g)) (T13_19 (fun rt pq=>some (rt,pq)) (L13_6 k) (L13_17 k) (L13_19 k) (L13_24 k) (L13_26 k) s p n (unPts (F.sl n g)) i) none
 termination_by structural k=>k
def L13_24:Nat→(ByteArray)→(Int)→(Nat)→(Nat→F)→Option ((F) × (Int))
 | 0,_,_,_,_=>none
 | k+1,s,p,n,g=>bsel (isPts (F.sl n g)) (T13_24 (fun rt pq=>some (rt,pq)) (L13_6 k) (L13_17 k) (L13_19 k) (L13_24 k) (L13_26 k) s p n (unPts (F.sl n g))) none
 termination_by structural k=>k
def L13_26:Nat→(ByteArray)→(Int)→(Nat)→(Nat→F)→Option ((F) × (Int))
 | 0,_,_,_,_=>none
 | k+1,s,p,n,g=>bsel (isPts (F.sl n g)) (T13_26 (fun rt pq=>some (rt,pq)) (L13_6 k) (L13_17 k) (L13_19 k) (L13_24 k) (L13_26 k) s p n (unPts (F.sl n g))) none
 termination_by structural k=>k
end
def T13 {ρ:Type} (ret:KJ95 ρ) (c6:KJ92 ρ) (c17:KJ91 ρ) (c19:KJ93 ρ) (c24:KJ91 ρ) (c26:KJ91 ρ) (s:ByteArray) (p:Int):Option ρ :=
 (bsel (isBytes (bytesF s)&&rdOk (unBytes (bytesF s)) p&&true)
 (bsel (isBytes (bytesF s)&&rdOk (unBytes (bytesF s)) (resNear [F.int .i64 (-6),F.int .i64 4] (unBytes (bytesF s)) p).snd&&true)
 (bsel (isBytes (bytesF s)&&rdOk (unBytes (bytesF s)) (resNear [F.int .i64 (-6),F.int .i64 4] (unBytes (bytesF s)) (resNear [F.int .i64 (-6),F.int .i64 4] (unBytes (bytesF s)) p).snd).snd&&true)
 (bsel (isBytes (bytesF s)&&rdOk (unBytes (bytesF s)) (resNear [F.int .i64 0,F.int .i64 6] (unBytes (bytesF s)) (resNear [F.int .i64 (-6),F.int .i64 4] (unBytes (bytesF s)) (resNear [F.int .i64 (-6),F.int .i64 4] (unBytes (bytesF s)) p).snd).snd).snd&&true)
 (c6 (s) ((resNear [F.int .i64 0,F.int .i64 6] (unBytes (bytesF s)) (resNear [F.int .i64 0,F.int .i64 6] (unBytes (bytesF s)) (resNear [F.int .i64 (-6),F.int .i64 4] (unBytes (bytesF s)) (resNear [F.int .i64 (-6),F.int .i64 4] (unBytes (bytesF s)) p).snd).snd).snd).snd) (4) (lget [F.agg [F.int .i64 (nearV (-6) 4 (unBytes (bytesF s)) p).fst,F.int .i64 (nearV (-6) 4 (unBytes (bytesF s)) (resNear [F.int .i64 (-6),F.int .i64 4] (unBytes (bytesF s)) p).snd).fst],F.agg [F.int .i64 (IntKind.i64.wrap ((nearV (-6) 4 (unBytes (bytesF s)) p).fst+IntKind.i64.wrap (1+(nearV 0 6 (unBytes (bytesF s)) (resNear [F.int .i64 (-6),F.int .i64 4] (unBytes (bytesF s)) (resNear [F.int .i64 (-6),F.int .i64 4] (unBytes (bytesF s)) p).snd).snd).fst))),F.int .i64 (nearV (-6) 4 (unBytes (bytesF s)) (resNear [F.int .i64 (-6),F.int .i64 4] (unBytes (bytesF s)) p).snd).fst],F.agg [F.int .i64 (IntKind.i64.wrap ((nearV (-6) 4 (unBytes (bytesF s)) p).fst+IntKind.i64.wrap (1+(nearV 0 6 (unBytes (bytesF s)) (resNear [F.int .i64 (-6),F.int .i64 4] (unBytes (bytesF s)) (resNear [F.int .i64 (-6),F.int .i64 4] (unBytes (bytesF s)) p).snd).snd).fst))),F.int .i64 (IntKind.i64.wrap ((nearV (-6) 4 (unBytes (bytesF s)) (resNear [F.int .i64 (-6),F.int .i64 4] (unBytes (bytesF s)) p).snd).fst+IntKind.i64.wrap (1+(nearV 0 6 (unBytes (bytesF s)) (resNear [F.int .i64 0,F.int .i64 6] (unBytes (bytesF s)) (resNear [F.int .i64 (-6),F.int .i64 4] (unBytes (bytesF s)) (resNear [F.int .i64 (-6),F.int .i64 4] (unBytes (bytesF s)) p).snd).snd).snd).fst)))],F.agg [F.int .i64 (nearV (-6) 4 (unBytes (bytesF s)) p).fst,F.int .i64 (IntKind.i64.wrap ((nearV (-6) 4 (unBytes (bytesF s)) (resNear [F.int .i64 (-6),F.int .i64 4] (unBytes (bytesF s)) p).snd).fst+IntKind.i64.wrap (1+(nearV 0 6 (unBytes (bytesF s)) (resNear [F.int .i64 0,F.int .i64 6] (unBytes (bytesF s)) (resNear [F.int .i64 (-6),F.int .i64 4] (unBytes (bytesF s)) (resNear [F.int .i64 (-6),F.int .i64 4] (unBytes (bytesF s)) p).snd).snd).snd).fst)))]]) ((nearV (-6) 4 (unBytes (bytesF s)) p).fst) ((nearV (-6) 4 (unBytes (bytesF s)) (resNear [F.int .i64 (-6),F.int .i64 4] (unBytes (bytesF s)) p).snd).fst) (IntKind.i64.wrap (1+(nearV 0 6 (unBytes (bytesF s)) (resNear [F.int .i64 (-6),F.int .i64 4] (unBytes (bytesF s)) (resNear [F.int .i64 (-6),F.int .i64 4] (unBytes (bytesF s)) p).snd).snd).fst)) (IntKind.i64.wrap (1+(nearV 0 6 (unBytes (bytesF s)) (resNear [F.int .i64 0,F.int .i64 6] (unBytes (bytesF s)) (resNear [F.int .i64 (-6),F.int .i64 4] (unBytes (bytesF s)) (resNear [F.int .i64 (-6),F.int .i64 4] (unBytes (bytesF s)) p).snd).snd).snd).fst)))
 none)
 none)
 none)
 none)
def G13 (k:Nat) (s:ByteArray) (p:Int):Option ((F) × (Int)):=T13 (fun rt pq=>some (rt,pq)) (L13_6 k) (L13_17 k) (L13_19 k) (L13_24 k) (L13_26 k) s p
mutual
theorem t13_6:∀ (k:Nat) (s:ByteArray) (p:Int) (n:Nat) (g:Nat→F) (x:Int) (y:Int) (u:Int) (t:Int) (rt:F) (pq:Int),L13_6 k s p n g x y u t=some (rt,pq)→EndsN Tryz.prog 1 Tryz.f13.results.toList (at_ Tryz.f13 6) (S13_6 s p n g x y u t) (F.tup [rt,F.agg [bytesF s,F.int .i64 pq]])
 | 0,_,_,_,_,_,_,_,_,_,_,h=>nomatch h
 | k+1,s,p,n,g,x,y,u,t,rt,pq,h=>by
  obtain ⟨hv_g,h⟩:=bsel_some h
  refine Ends.weak (st':=S13_6v s p n (unPts (F.sl n g)) x y u t) (UsLe.refl _) (HLe.cons (ObLe.refl _) (HLe.cons (ObLe.refl _) (HLe.cons (ObLe.arr fun j hj=>atPts hv_g hj) (HLe.nil)))) ?_
  generalize unPts (F.sl n g)=o at h ⊢
  refine Ends.of_cut tyOK envD9_ok (T:=[(6,[0,2,3,4,5,6,7],1000),(17,[0,2,7],1000),(19,[0,2,7,8],1000),(24,[0,2,7],1000),(26,[0,2,7],1000)]) (n:=200) ?_
  refine gE (Y:=T13_6 (fun rt pq=>some (.ret (F.tup [rt,F.agg [bytesF s,F.int .i64 pq]]))) (fun s p n g x y u t=>some (.cut (at_ Tryz.f13 6) (S13_6 s p n g x y u t))) (fun s p n g=>some (.cut (at_ Tryz.f13 17) (S13_17 s p n g))) (fun s p n g i=>some (.cut (at_ Tryz.f13 19) (S13_19 s p n g i))) (fun s p n g=>some (.cut (at_ Tryz.f13 24) (S13_24 s p n g))) (fun s p n g=>some (.cut (at_ Tryz.f13 26) (S13_26 s p n g))) s p n o x y u t) (by kernel_rfl) ?_
  exact (gS h (fun _ h=>(gS h (fun _ h=>(gS h (fun _ h=>(gS h (fun _ h=>(gS h (fun _ h=>gC (t13_17 k _ _ _ _ rt pq h)) gN)) gN)) gN)) (fun _ h=>(gS h (fun _ h=>gC (t13_17 k _ _ _ _ rt pq h)) (fun _ h=>(gS h (fun _ h=>(gS h (fun _ h=>(gS h (fun _ h=>(gS h (fun _ h=>(gS h (fun _ h=>gC (t13_17 k _ _ _ _ rt pq h)) gN)) gN)) gN)) gN)) (fun _ h=>(gS h (fun _ h=>(gS h (fun _ h=>gC (t13_17 k _ _ _ _ rt pq h)) gN)) (fun _ h=>(gS h (fun _ h=>gC (t13_17 k _ _ _ _ rt pq h)) (fun _ h=>gC (t13_17 k _ _ _ _ rt pq h)))))))))))) gN)
theorem t13_17:∀ (k:Nat) (s:ByteArray) (p:Int) (n:Nat) (g:Nat→F) (rt:F) (pq:Int),L13_17 k s p n g=some (rt,pq)→EndsN Tryz.prog 1 Tryz.f13.results.toList (at_ Tryz.f13 17) (S13_17 s p n g) (F.tup [rt,F.agg [bytesF s,F.int .i64 pq]])
 | 0,_,_,_,_,_,_,h=>nomatch h
 | k+1,s,p,n,g,rt,pq,h=>by
  obtain ⟨hv_g,h⟩:=bsel_some h
  refine Ends.weak (st':=S13_17v s p n (unPts (F.sl n g))) (UsLe.refl _) (HLe.cons (ObLe.refl _) (HLe.cons (ObLe.refl _) (HLe.cons (ObLe.arr fun j hj=>atPts hv_g hj) (HLe.nil)))) ?_
  generalize unPts (F.sl n g)=o at h ⊢
  refine Ends.of_cut tyOK envD9_ok (T:=[(6,[0,2,3,4,5,6,7],1000),(17,[0,2,7],1000),(19,[0,2,7,8],1000),(24,[0,2,7],1000),(26,[0,2,7],1000)]) (n:=200) ?_
  refine gE (Y:=T13_17 (fun rt pq=>some (.ret (F.tup [rt,F.agg [bytesF s,F.int .i64 pq]]))) (fun s p n g x y u t=>some (.cut (at_ Tryz.f13 6) (S13_6 s p n g x y u t))) (fun s p n g=>some (.cut (at_ Tryz.f13 17) (S13_17 s p n g))) (fun s p n g i=>some (.cut (at_ Tryz.f13 19) (S13_19 s p n g i))) (fun s p n g=>some (.cut (at_ Tryz.f13 24) (S13_24 s p n g))) (fun s p n g=>some (.cut (at_ Tryz.f13 26) (S13_26 s p n g))) s p n o) (by kernel_rfl) ?_
  exact (gS h (fun _ h=>(gS h (fun _ h=>gC (t13_19 k _ _ _ _ _ rt pq h)) (fun _ h=>gC (t13_24 k _ _ _ _ rt pq h)))) gN)
theorem t13_19:∀ (k:Nat) (s:ByteArray) (p:Int) (n:Nat) (g:Nat→F) (i:Int) (rt:F) (pq:Int),L13_19 k s p n g i=some (rt,pq)→EndsN Tryz.prog 1 Tryz.f13.results.toList (at_ Tryz.f13 19) (S13_19 s p n g i) (F.tup [rt,F.agg [bytesF s,F.int .i64 pq]])
 | 0,_,_,_,_,_,_,_,h=>nomatch h
 | k+1,s,p,n,g,i,rt,pq,h=>by
  obtain ⟨hv_g,h⟩:=bsel_some h
  refine Ends.weak (st':=S13_19v s p n (unPts (F.sl n g)) i) (UsLe.refl _) (HLe.cons (ObLe.refl _) (HLe.cons (ObLe.refl _) (HLe.cons (ObLe.arr fun j hj=>atPts hv_g hj) (HLe.nil)))) ?_
  generalize unPts (F.sl n g)=o at h ⊢
  refine Ends.of_cut tyOK envD9_ok (T:=[(6,[0,2,3,4,5,6,7],1000),(17,[0,2,7],1000),(19,[0,2,7,8],1000),(24,[0,2,7],1000),(26,[0,2,7],1000)]) (n:=200) ?_
  refine gE (Y:=T13_19 (fun rt pq=>some (.ret (F.tup [rt,F.agg [bytesF s,F.int .i64 pq]]))) (fun s p n g x y u t=>some (.cut (at_ Tryz.f13 6) (S13_6 s p n g x y u t))) (fun s p n g=>some (.cut (at_ Tryz.f13 17) (S13_17 s p n g))) (fun s p n g i=>some (.cut (at_ Tryz.f13 19) (S13_19 s p n g i))) (fun s p n g=>some (.cut (at_ Tryz.f13 24) (S13_24 s p n g))) (fun s p n g=>some (.cut (at_ Tryz.f13 26) (S13_26 s p n g))) s p n o i) (by kernel_rfl) ?_
  exact (gS h (fun _ h=>(gS h (fun _ h=>(gS h (fun _ h=>(gS h (fun _ h=>(gS h (fun _ h=>(gS h (fun _ h=>(gS h (fun _ h=>(gS h (fun _ h=>(gS h (fun _ h=>(gS h (fun _ h=>(gS h (fun _ h=>(gS h (fun _ h=>(gS h (fun _ h=>(gS h (fun _ h=>(gS h (fun _ h=>(gS h (fun _ h=>(gS h (fun _ h=>(gS h (fun _ h=>(gS h (fun _ h=>(gS h (fun _ h=>(gS h (fun _ h=>(gS h (fun _ h=>(gS h (fun _ h=>(gS h (fun _ h=>(gS h (fun _ h=>(gS h (fun _ h=>gC (t13_19 k _ _ _ _ _ rt pq h)) gN)) gN)) gN)) gN)) gN)) gN)) gN)) gN)) gN)) gN)) gN)) gN)) gN)) gN)) gN)) gN)) gN)) gN)) gN)) gN)) gN)) gN)) gN)) gN)) (fun _ h=>gC (t13_24 k _ _ _ _ rt pq h)))) gN)
theorem t13_24:∀ (k:Nat) (s:ByteArray) (p:Int) (n:Nat) (g:Nat→F) (rt:F) (pq:Int),L13_24 k s p n g=some (rt,pq)→EndsN Tryz.prog 1 Tryz.f13.results.toList (at_ Tryz.f13 24) (S13_24 s p n g) (F.tup [rt,F.agg [bytesF s,F.int .i64 pq]])
 | 0,_,_,_,_,_,_,h=>nomatch h
 | k+1,s,p,n,g,rt,pq,h=>by
  obtain ⟨hv_g,h⟩:=bsel_some h
  refine Ends.weak (st':=S13_24v s p n (unPts (F.sl n g))) (UsLe.refl _) (HLe.cons (ObLe.refl _) (HLe.cons (ObLe.refl _) (HLe.cons (ObLe.arr fun j hj=>atPts hv_g hj) (HLe.nil)))) ?_
  generalize unPts (F.sl n g)=o at h ⊢
  refine Ends.of_cut tyOK envD9_ok (T:=[(6,[0,2,3,4,5,6,7],1000),(17,[0,2,7],1000),(19,[0,2,7,8],1000),(24,[0,2,7],1000),(26,[0,2,7],1000)]) (n:=200) ?_
  refine gE (Y:=T13_24 (fun rt pq=>some (.ret (F.tup [rt,F.agg [bytesF s,F.int .i64 pq]]))) (fun s p n g x y u t=>some (.cut (at_ Tryz.f13 6) (S13_6 s p n g x y u t))) (fun s p n g=>some (.cut (at_ Tryz.f13 17) (S13_17 s p n g))) (fun s p n g i=>some (.cut (at_ Tryz.f13 19) (S13_19 s p n g i))) (fun s p n g=>some (.cut (at_ Tryz.f13 24) (S13_24 s p n g))) (fun s p n g=>some (.cut (at_ Tryz.f13 26) (S13_26 s p n g))) s p n o) (by kernel_rfl) ?_
  exact (gS h (fun _ h=>(gS h (fun _ h=>(gS h (fun _ h=>(gS h (fun _ h=>(gS h (fun _ h=>(gS h (fun _ h=>(gS h (fun _ h=>(gS h (fun _ h=>(gS h (fun _ h=>(gS h (fun _ h=>(gS h (fun _ h=>gC (t13_26 k _ _ _ _ rt pq h)) gN)) gN)) gN)) gN)) gN)) gN)) gN)) gN)) gN)) (fun _ h=>gC (t13_26 k _ _ _ _ rt pq h)))) gN)
theorem t13_26:∀ (k:Nat) (s:ByteArray) (p:Int) (n:Nat) (g:Nat→F) (rt:F) (pq:Int),L13_26 k s p n g=some (rt,pq)→EndsN Tryz.prog 1 Tryz.f13.results.toList (at_ Tryz.f13 26) (S13_26 s p n g) (F.tup [rt,F.agg [bytesF s,F.int .i64 pq]])
 | 0,_,_,_,_,_,_,h=>nomatch h
 | k+1,s,p,n,g,rt,pq,h=>by
  obtain ⟨hv_g,h⟩:=bsel_some h
  refine Ends.weak (st':=S13_26v s p n (unPts (F.sl n g))) (UsLe.refl _) (HLe.cons (ObLe.refl _) (HLe.cons (ObLe.refl _) (HLe.cons (ObLe.arr fun j hj=>atPts hv_g hj) (HLe.nil)))) ?_
  generalize unPts (F.sl n g)=o at h ⊢
  refine Ends.of_cut tyOK envD9_ok (T:=[(6,[0,2,3,4,5,6,7],1000),(17,[0,2,7],1000),(19,[0,2,7,8],1000),(24,[0,2,7],1000),(26,[0,2,7],1000)]) (n:=200) ?_
  refine gE (Y:=T13_26 (fun rt pq=>some (.ret (F.tup [rt,F.agg [bytesF s,F.int .i64 pq]]))) (fun s p n g x y u t=>some (.cut (at_ Tryz.f13 6) (S13_6 s p n g x y u t))) (fun s p n g=>some (.cut (at_ Tryz.f13 17) (S13_17 s p n g))) (fun s p n g i=>some (.cut (at_ Tryz.f13 19) (S13_19 s p n g i))) (fun s p n g=>some (.cut (at_ Tryz.f13 24) (S13_24 s p n g))) (fun s p n g=>some (.cut (at_ Tryz.f13 26) (S13_26 s p n g))) s p n o) (by kernel_rfl) ?_
  exact (gS h (fun _ h=>(gS h (fun _ h=>(gS h (fun _ h=>(gS h (fun _ h=>(gS h (fun _ h=>(gS h (fun _ h=>(gS h (fun _ h=>gR (by cases h;rfl)) gN)) gN)) gN)) gN)) gN)) (fun _ h=>(gS h (fun _ h=>gR (by cases h;rfl)) gN)))) gN)
end
theorem t13 (k:Nat) (s:ByteArray) (p:Int) (rt:F) (pq:Int) (h:G13 k s p=some (rt,pq)):EndsN Tryz.prog 1 Tryz.f13.results.toList [.code (bodyOf Tryz.f13)] (startN Tryz.f13.ntmps [U.hp 0 0] [HO.box [U.f (bytesF s),U.f (F.int .i64 p)]]) (F.tup [rt,F.agg [bytesF s,F.int .i64 pq]]):=by
 refine Ends.of_run tyOK envD9_ok (T:=[(6,[0,2,3,4,5,6,7],1000),(17,[0,2,7],1000),(19,[0,2,7,8],1000),(24,[0,2,7],1000),(26,[0,2,7],1000)]) (n:=200) ?_
 refine gE (Y:=T13 (fun rt pq=>some (.ret (F.tup [rt,F.agg [bytesF s,F.int .i64 pq]]))) (fun s p n g x y u t=>some (.cut (at_ Tryz.f13 6) (S13_6 s p n g x y u t))) (fun s p n g=>some (.cut (at_ Tryz.f13 17) (S13_17 s p n g))) (fun s p n g i=>some (.cut (at_ Tryz.f13 19) (S13_19 s p n g i))) (fun s p n g=>some (.cut (at_ Tryz.f13 24) (S13_24 s p n g))) (fun s p n g=>some (.cut (at_ Tryz.f13 26) (S13_26 s p n g))) s p) (by kernel_rfl) ?_
 exact (gS h (fun _ h=>(gS h (fun _ h=>(gS h (fun _ h=>(gS h (fun _ h=>gC (t13_6 k _ _ _ _ _ _ _ _ rt pq h)) gN)) gN)) gN)) gN)
def RgRes (s:ByteArray) (x:Option (F × Int)):Prop:=∃ rt q p',x=some (rt,p')∧FLe rt (ringF q)∧rdOk s p'=true
theorem pts_of {n:Nat} {g:Nat→F} (h:∀ j,j<n→isPt (g j)=true):isPts (.sl n g)=true:=by
 simp only [isPts,isSl,List.all_eq_true,List.mem_range]
 exact h
theorem rg_leaf {n:Nat} {g:Nat→F} (h:isPts (.sl n g)=true):FLe (.agg [.sl n g]) (ringF (unPts (.sl n g))):=FLe.agg ⟨(pts_eqv h).1,trivial⟩
theorem unPts_len (n:Nat) (g:Nat→F):(unPts (.sl n g)).length=n:=by rw [unPts,unSl_len]
theorem ring26 {s:ByteArray} (k:Nat) {p:Int} {n:Nat} {g:Nat→F} (hr:rdOk s p=true) (hg:isPts (.sl n g)=true) (hn:n≤1000):RgRes s (L13_26 (k+1) s p n g):=by
 rw [L13_26,hg,bsel_true]
 have hl:n=(unPts (.sl n g)).length:=(unPts_len n g).symm
 generalize unPts (.sl n g)=o at hl
 subst hl
 obtain ⟨_,o1⟩:=once_ok hr 40
 have c1:decide (((o.length+o.length:Nat):Int)*(((16:Nat):Int)+1)≤(limit:Int))=true:=by rw [limit_eq];exact decide_eq_true (by omega)
 simp only [T13_26,unBytes_bytesF,isBytes_bytesF,hr,c1,Bool.and_self,decide_true,bsel_true]
 cases (onceV s p 40).1 with
 | false=>exact ⟨_,o,_,rfl,.refl _,o1⟩
 | true =>
  refine ⟨_,_,_,rfl,rg_leaf (pts_of fun j hj=>?_),o1⟩
  by_cases h:j<o.length
  ·rw [if_pos h];rfl
  ·rw [if_neg h,one_eq _ (show j-o.length<o.length by omega)];rfl
theorem ring24 {s:ByteArray} (k:Nat) {p:Int} {n:Nat} {g:Nat→F} (hr:rdOk s p=true) (hg:isPts (.sl n g)=true) (h0:0<n) (hn:n≤1000):RgRes s (L13_24 (k+2) s p n g):=by
 rw [L13_24,hg,bsel_true]
 have hl:n=(unPts (.sl n g)).length:=(unPts_len n g).symm
 generalize unPts (.sl n g)=o at hl
 subst hl
 obtain ⟨_,o1⟩:=once_ok hr 40
 obtain ⟨_,b1,b2,b3⟩:=below_ok o1 (o.length:Int)
 have hab:-1099511627776≤(-1000000:Int)∧(-1000000:Int)≤1000000∧(1000000:Int)≤1099511627776:=by omega
 obtain ⟨_,o2⟩:=off_ok b3 hab
 have c1:decide (0≤(belowV s (onceV s p 40).2 (o.length:Int)).1)=true:=decide_eq_true b1
 have c2:decide ((belowV s (onceV s p 40).2 (o.length:Int)).1<(o.length:Int))=true:=decide_eq_true (by omega)
 have c3:decide (0+(belowV s (onceV s p 40).2 (o.length:Int)).1.toNat<o.length)=true:=decide_eq_true (by omega)
 simp only [T13_24,unBytes_bytesF,isBytes_bytesF,hr,o1,b3,c1,c2,c3,resOff,Bool.and_self,Bool.and_true,decide_true,bsel_true]
 cases (onceV s p 40).1 with
 | false=>exact ring26 k o1 (pts_of fun j hj=>rfl) hn
 | true =>
  refine ring26 k o2 (pts_of fun j hj=>?_) hn
  split <;> rfl
theorem ring19 {s:ByteArray} {p:Int} (hr:rdOk s p=true):∀ (d i k n:Nat) (g:Nat→F),i+d=n / 2→isPts (.sl n g)=true→0<n→n≤1000→RgRes s (L13_19 (k+d+3) s p n g i)
 | d,i,k,n,g,h,hg,h0,hn=>by
  have e:k+d+3=k+d+2+1:=rfl
  rw [e,L13_19,hg,bsel_true]
  have hl:n=(unPts (.sl n g)).length:=(unPts_len n g).symm
  generalize unPts (.sl n g)=o at hl
  subst hl
  have w0:IntKind.i64.wrap ((o.length:Int).tdiv 2)=((o.length / 2:Nat):Int):=by
   have:(o.length:Int).tdiv 2=((o.length / 2:Nat):Int):=rfl
   rw [this,wrapi (by omega) (by omega)]
  match d,h with
  | 0,h =>
   have c1:decide ((i:Int)<((o.length / 2:Nat):Int))=false:=decide_eq_false (by omega)
   simp only [T13_19,w0,c1,bsel_false,decide_true,bsel_true]
   exact ring24 k hr (pts_of fun j hj=>rfl) h0 hn
  | d+1,h =>
   have c1:decide ((i:Int)<((o.length / 2:Nat):Int))=true:=decide_eq_true (by omega)
   have c2:decide (0≤(i:Int))=true:=decide_eq_true (by omega)
   have c3:decide ((i:Int)<(o.length:Int))=true:=decide_eq_true (by omega)
   have c4:decide (0+i<o.length)=true:=decide_eq_true (by omega)
   have w1:IntKind.i64.wrap (IntKind.i64.wrap ((o.length:Int)-1)-(i:Int))=((o.length-1-i:Nat):Int):=by
    rw [wrapi (x:=(o.length:Int)-1) (by omega) (by omega),wrapi (by omega) (by omega)];omega
   have c5:decide (0≤((o.length-1-i:Nat):Int))=true:=decide_eq_true (by omega)
   have c6:decide (((o.length-1-i:Nat):Int)<(o.length:Int))=true:=decide_eq_true (by omega)
   have c7:decide (0+(o.length-1-i)<o.length)=true:=decide_eq_true (by omega)
   have w2:IntKind.i64.wrap ((i:Int)+1)=((i+1:Nat):Int):=by rw [wrapi (by omega) (by omega)];omega
   have z1:∀ (c:Prop) [Decidable c] (a b a' b':F),decide ((if c then F.agg [a,b] else F.agg [a',b']).cells.length=2)=true:=fun c _ a b a' b'=>by split <;> rfl
   have z2:∀ (c:Prop) [Decidable c] (a b a' b':F),isAggF (if c then F.agg [a,b] else F.agg [a',b'])=true:=fun c _ a b a' b'=>by split <;> rfl
   simp only [T13_19,w0,w1,w2,c1,c2,c3,c4,c5,c6,c7,z1,z2,Int.toNat_natCast,decide_true,Bool.true_or,Bool.and_self,bsel_true]
   have e2:k+(d+1)+2=k+d+3:=by omega
   rw [e2]
   refine ring19 hr d (i+1) k _ _ (by omega) (pts_of fun j hj=>?_) h0 hn
   split
   ·rfl
   ·split <;> rfl
theorem ring17 {s:ByteArray} (k:Nat) {p:Int} {n:Nat} {g:Nat→F} (hr:rdOk s p=true) (hg:isPts (.sl n g)=true) (h0:0<n) (hn:n≤1000):RgRes s (L13_17 (k+n / 2+4) s p n g):=by
 have e:k+n / 2+4=k+n / 2+3+1:=rfl
 rw [e,L13_17,hg,bsel_true]
 have hl:n=(unPts (.sl n g)).length:=(unPts_len n g).symm
 generalize unPts (.sl n g)=o at hl
 subst hl
 obtain ⟨_,o1⟩:=once_ok hr 6
 simp only [T13_17,unBytes_bytesF,isBytes_bytesF,hr,Bool.and_self,bsel_true]
 cases (onceV s p 6).1 with
 | false=>exact ring24 (k+o.length / 2+1) o1 (pts_of fun j hj=>rfl) h0 hn
 | true=>exact ring19 o1 (o.length / 2) 0 k _ _ (by omega) (pts_of fun j hj=>rfl) h0 hn
theorem ring6 {s:ByteArray} (k:Nat) {p:Int} {g:Nat→F} {x y u t:Int} (hr:rdOk s p=true) (hg:isPts (.sl 4 g)=true):RgRes s (L13_6 (k+8) s p 4 g x y u t):=by
 have e:k+8=k+7+1:=rfl
 rw [e,L13_6,hg,bsel_true]
 generalize unPts (.sl 4 g)=o
 obtain ⟨_,_,_,b1⟩:=below_ok hr 8
 obtain ⟨_,s1⟩:=spot_ok b1
 obtain ⟨_,s2⟩:=spot_ok s1
 obtain ⟨_,s3⟩:=spot_ok s2
 obtain ⟨_,s4⟩:=spot_ok s3
 have hab:-1099511627776≤(-2:Int)∧(-2:Int)≤8∧(8:Int)≤1099511627776:=by omega
 obtain ⟨_,n1⟩:=near_ok b1 hab
 simp only [T13_6,unBytes_bytesF,isBytes_bytesF,hr,b1,s1,s2,s3,resSpot,resNear,Bool.and_self,Bool.and_true,bsel_true]
 have e3:k+7=k+2+3 / 2+4:=by omega
 have e4:k+7=k+1+4 / 2+4:=by omega
 have e6:k+7=k+6 / 2+4:=by omega
 cases ((belowV s p 8).1==0) with
 | true =>
  rw [bsel_true,e3]
  refine ring17 (k+2) s3 ?_ (by omega) (by omega)
  rfl
 | false =>
 rw [bsel_false]
 cases ((belowV s p 8).1==1) with
 | true =>
  rw [bsel_true,e6]
  refine ring17 k b1 ?_ (by omega) (by omega)
  rfl
 | false =>
 rw [bsel_false]
 cases ((belowV s p 8).1==2) with
 | true =>
  rw [bsel_true,e4]
  refine ring17 (k+1) s4 ?_ (by omega) (by omega)
  rfl
 | false =>
 rw [bsel_false]
 cases ((belowV s p 8).1==3) with
 | true =>
  rw [bsel_true,e3]
  refine ring17 (k+2) n1 ?_ (by omega) (by omega)
  rfl
 | false =>
 rw [bsel_false]
 cases ((belowV s p 8).1==4) with
 | true =>
  rw [bsel_true,e4]
  refine ring17 (k+1) b1 ?_ (by omega) (by omega)
  rfl
 | false =>
  rw [bsel_false,e4]
  refine ring17 (k+1) b1 (pts_of fun j hj=>?_) (by omega) (by omega)
  rfl
theorem ring_okR {s:ByteArray} {p:Int} (hr:rdOk s p=true):RgRes s (G13 20 s p):=by
 have h1:-1099511627776≤(-6:Int)∧(-6:Int)≤4∧(4:Int)≤1099511627776:=by omega
 have h2:-1099511627776≤(0:Int)∧(0:Int)≤6∧(6:Int)≤1099511627776:=by omega
 obtain ⟨_,n1⟩:=near_ok hr h1
 obtain ⟨_,n2⟩:=near_ok n1 h1
 obtain ⟨_,n3⟩:=near_ok n2 h2
 obtain ⟨_,n4⟩:=near_ok n3 h2
 unfold G13 T13
 simp only [unBytes_bytesF,isBytes_bytesF,hr,n1,n2,n3,resNear,Bool.and_self,Bool.and_true,bsel_true]
 exact ring6 12 n4 rfl
def rgV (s:ByteArray) (p:Int):List Pt × Int:=@dite _ (rdOk s p=true) (Classical.propDecidable _) (fun h=>(Classical.choose (Classical.choose_spec (ring_okR h)),Classical.choose (Classical.choose_spec (Classical.choose_spec (ring_okR h))))) fun _=>([],0)
theorem rg_ok {s:ByteArray} {p:Int} (h:rdOk s p=true):∃ rt,G13 20 s p=some (rt,(rgV s p).2)∧FLe rt (ringF (rgV s p).1)∧rdOk s (rgV s p).2=true:=by
 have e:rgV s p=(Classical.choose (Classical.choose_spec (ring_okR h)),Classical.choose (Classical.choose_spec (Classical.choose_spec (ring_okR h)))):=@dif_pos _ (Classical.propDecidable _) h _ _ _
 rw [e]
 exact ⟨_,Classical.choose_spec (Classical.choose_spec (Classical.choose_spec (ring_okR h)))⟩
def resRing:List F→ByteArray→Int→F × Int:=fun _ s p=>(ringF (rgV s p).1,(rgV s p).2)
theorem okRing:SpOK Tryz.prog 13 (rdSp isNone resRing) :=
 ok_rd (c:=bodyOf Tryz.f13) Tryz.func13 (by kernel_rfl) (by kernel_rfl) fun xs s p hx hr=>match xs,hx with
 | [],hx=>by
  obtain ⟨rt,e,hle,_⟩:=rg_ok hr
  exact ⟨rt,hle,t13 20 s p rt _ e⟩
def envA7:Env:=envD9.add 13 (rdSp isNone resRing)
theorem envA7_ok:EnvOK Tryz.prog envA7:=(Env.add_ok envD9_ok okRing)
end
noncomputable section
/-! ### function 11 -/
def T11 {ρ:Type} (ret:(List F)→(Int)→Option ρ) (s:ByteArray) (p:Int):Option ρ :=
 (bsel (isBytes (bytesF s)&&rdOk (unBytes (bytesF s)) p&&true)
 (bsel (isBytes (bytesF s)&&rdOk (unBytes (bytesF s)) (resRing [] (unBytes (bytesF s)) p).snd)
 (bsel ((belowV (unBytes (bytesF s)) (resRing [] (unBytes (bytesF s)) p).snd 10).fst==0)
 (ret ([F.tup [F.int .i64 ((1:Nat):Int),F.sl 0 (lget [])]]) ((belowV (unBytes (bytesF s)) (resRing [] (unBytes (bytesF s)) p).snd 10).snd))
 (bsel ((belowV (unBytes (bytesF s)) (resRing [] (unBytes (bytesF s)) p).snd 10).fst==1)
 (bsel ((belowV (unBytes (bytesF s)) (resRing [] (unBytes (bytesF s)) p).snd 10).fst==1)
 (bsel (isBytes (bytesF s)&&rdOk (unBytes (bytesF s)) (belowV (unBytes (bytesF s)) (resRing [] (unBytes (bytesF s)) p).snd 10).snd&&true)
 (bsel (isBytes (bytesF s)&&rdOk (unBytes (bytesF s)) (resNear [F.int .i64 (-6),F.int .i64 0] (unBytes (bytesF s)) (belowV (unBytes (bytesF s)) (resRing [] (unBytes (bytesF s)) p).snd 10).snd).snd&&true)
 (bsel (isBytes (bytesF s)&&rdOk (unBytes (bytesF s)) (resNear [F.int .i64 (-6),F.int .i64 0] (unBytes (bytesF s)) (resNear [F.int .i64 (-6),F.int .i64 0] (unBytes (bytesF s)) (belowV (unBytes (bytesF s)) (resRing [] (unBytes (bytesF s)) p).snd 10).snd).snd).snd&&true)
 (bsel (isBytes (bytesF s)&&rdOk (unBytes (bytesF s)) (resNear [F.int .i64 0,F.int .i64 2] (unBytes (bytesF s)) (resNear [F.int .i64 (-6),F.int .i64 0] (unBytes (bytesF s)) (resNear [F.int .i64 (-6),F.int .i64 0] (unBytes (bytesF s)) (belowV (unBytes (bytesF s)) (resRing [] (unBytes (bytesF s)) p).snd 10).snd).snd).snd).snd)
 (bsel ((onceV (unBytes (bytesF s)) (resNear [F.int .i64 0,F.int .i64 2] (unBytes (bytesF s)) (resNear [F.int .i64 (-6),F.int .i64 0] (unBytes (bytesF s)) (resNear [F.int .i64 (-6),F.int .i64 0] (unBytes (bytesF s)) (belowV (unBytes (bytesF s)) (resRing [] (unBytes (bytesF s)) p).snd 10).snd).snd).snd).snd 2).fst)
 (bsel (decide ((↑(2+1):Int)*(((24:Nat):Int)+1)≤(↑limit:Int)))
 (ret ([F.tup [F.int .i64 ((1:Nat):Int),F.sl (2+1) fun j ↦ if j<2 then lget [F.agg [F.sl 4 (lget [F.agg [F.int .i64 (nearV (-6) 0 (unBytes (bytesF s)) (belowV (unBytes (bytesF s)) (resRing [] (unBytes (bytesF s)) p).snd 10).snd).fst,F.int .i64 (nearV (-6) 0 (unBytes (bytesF s)) (resNear [F.int .i64 (-6),F.int .i64 0] (unBytes (bytesF s)) (belowV (unBytes (bytesF s)) (resRing [] (unBytes (bytesF s)) p).snd 10).snd).snd).fst],F.agg [F.int .i64 (IntKind.i64.wrap ((nearV (-6) 0 (unBytes (bytesF s)) (belowV (unBytes (bytesF s)) (resRing [] (unBytes (bytesF s)) p).snd 10).snd).fst+7)),F.int .i64 (nearV (-6) 0 (unBytes (bytesF s)) (resNear [F.int .i64 (-6),F.int .i64 0] (unBytes (bytesF s)) (belowV (unBytes (bytesF s)) (resRing [] (unBytes (bytesF s)) p).snd 10).snd).snd).fst],F.agg [F.int .i64 (IntKind.i64.wrap ((nearV (-6) 0 (unBytes (bytesF s)) (belowV (unBytes (bytesF s)) (resRing [] (unBytes (bytesF s)) p).snd 10).snd).fst+7)),F.int .i64 (IntKind.i64.wrap ((nearV (-6) 0 (unBytes (bytesF s)) (resNear [F.int .i64 (-6),F.int .i64 0] (unBytes (bytesF s)) (belowV (unBytes (bytesF s)) (resRing [] (unBytes (bytesF s)) p).snd 10).snd).snd).fst+7))],F.agg [F.int .i64 (nearV (-6) 0 (unBytes (bytesF s)) (belowV (unBytes (bytesF s)) (resRing [] (unBytes (bytesF s)) p).snd 10).snd).fst,F.int .i64 (IntKind.i64.wrap ((nearV (-6) 0 (unBytes (bytesF s)) (resNear [F.int .i64 (-6),F.int .i64 0] (unBytes (bytesF s)) (belowV (unBytes (bytesF s)) (resRing [] (unBytes (bytesF s)) p).snd 10).snd).snd).fst+7))]])],F.agg [F.sl 4 (lget [F.agg [F.int .i64 (IntKind.i64.wrap ((nearV (-6) 0 (unBytes (bytesF s)) (belowV (unBytes (bytesF s)) (resRing [] (unBytes (bytesF s)) p).snd 10).snd).fst+1)),F.int .i64 (IntKind.i64.wrap ((nearV (-6) 0 (unBytes (bytesF s)) (resNear [F.int .i64 (-6),F.int .i64 0] (unBytes (bytesF s)) (belowV (unBytes (bytesF s)) (resRing [] (unBytes (bytesF s)) p).snd 10).snd).snd).fst+1))],F.agg [F.int .i64 (IntKind.i64.wrap ((nearV (-6) 0 (unBytes (bytesF s)) (belowV (unBytes (bytesF s)) (resRing [] (unBytes (bytesF s)) p).snd 10).snd).fst+1)),F.int .i64 (IntKind.i64.wrap ((nearV (-6) 0 (unBytes (bytesF s)) (resNear [F.int .i64 (-6),F.int .i64 0] (unBytes (bytesF s)) (belowV (unBytes (bytesF s)) (resRing [] (unBytes (bytesF s)) p).snd 10).snd).snd).fst+5))],F.agg [F.int .i64 (IntKind.i64.wrap ((nearV (-6) 0 (unBytes (bytesF s)) (belowV (unBytes (bytesF s)) (resRing [] (unBytes (bytesF s)) p).snd 10).snd).fst+5)),F.int .i64 (IntKind.i64.wrap ((nearV (-6) 0 (unBytes (bytesF s)) (resNear [F.int .i64 (-6),F.int .i64 0] (unBytes (bytesF s)) (belowV (unBytes (bytesF s)) (resRing [] (unBytes (bytesF s)) p).snd 10).snd).snd).fst+5))],F.agg [F.int .i64 (IntKind.i64.wrap (IntKind.i64.wrap ((nearV (-6) 0 (unBytes (bytesF s)) (belowV (unBytes (bytesF s)) (resRing [] (unBytes (bytesF s)) p).snd 10).snd).fst+5)-(nearV 0 2 (unBytes (bytesF s)) (resNear [F.int .i64 (-6),F.int .i64 0] (unBytes (bytesF s)) (resNear [F.int .i64 (-6),F.int .i64 0] (unBytes (bytesF s)) (belowV (unBytes (bytesF s)) (resRing [] (unBytes (bytesF s)) p).snd 10).snd).snd).snd).fst)),F.int .i64 (IntKind.i64.wrap ((nearV (-6) 0 (unBytes (bytesF s)) (resNear [F.int .i64 (-6),F.int .i64 0] (unBytes (bytesF s)) (belowV (unBytes (bytesF s)) (resRing [] (unBytes (bytesF s)) p).snd 10).snd).snd).fst+1))]])]] j else F.agg [F.sl 3 (lget [F.agg [F.int .i64 (IntKind.i64.wrap ((nearV (-6) 0 (unBytes (bytesF s)) (belowV (unBytes (bytesF s)) (resRing [] (unBytes (bytesF s)) p).snd 10).snd).fst+2)),F.int .i64 (IntKind.i64.wrap ((nearV (-6) 0 (unBytes (bytesF s)) (resNear [F.int .i64 (-6),F.int .i64 0] (unBytes (bytesF s)) (belowV (unBytes (bytesF s)) (resRing [] (unBytes (bytesF s)) p).snd 10).snd).snd).fst+2))],F.agg [F.int .i64 (IntKind.i64.wrap ((nearV (-6) 0 (unBytes (bytesF s)) (belowV (unBytes (bytesF s)) (resRing [] (unBytes (bytesF s)) p).snd 10).snd).fst+3)),F.int .i64 (IntKind.i64.wrap ((nearV (-6) 0 (unBytes (bytesF s)) (resNear [F.int .i64 (-6),F.int .i64 0] (unBytes (bytesF s)) (belowV (unBytes (bytesF s)) (resRing [] (unBytes (bytesF s)) p).snd 10).snd).snd).fst+2))],F.agg [F.int .i64 (IntKind.i64.wrap ((nearV (-6) 0 (unBytes (bytesF s)) (belowV (unBytes (bytesF s)) (resRing [] (unBytes (bytesF s)) p).snd 10).snd).fst+2)),F.int .i64 (IntKind.i64.wrap ((nearV (-6) 0 (unBytes (bytesF s)) (resNear [F.int .i64 (-6),F.int .i64 0] (unBytes (bytesF s)) (belowV (unBytes (bytesF s)) (resRing [] (unBytes (bytesF s)) p).snd 10).snd).snd).fst+3))]])]]]) ((onceV (unBytes (bytesF s)) (resNear [F.int .i64 0,F.int .i64 2] (unBytes (bytesF s)) (resNear [F.int .i64 (-6),F.int .i64 0] (unBytes (bytesF s)) (resNear [F.int .i64 (-6),F.int .i64 0] (unBytes (bytesF s)) (belowV (unBytes (bytesF s)) (resRing [] (unBytes (bytesF s)) p).snd 10).snd).snd).snd).snd 2).snd))
 none)
 (ret ([F.tup [F.int .i64 ((1:Nat):Int),F.sl 2 (lget [F.agg [F.sl 4 (lget [F.agg [F.int .i64 (nearV (-6) 0 (unBytes (bytesF s)) (belowV (unBytes (bytesF s)) (resRing [] (unBytes (bytesF s)) p).snd 10).snd).fst,F.int .i64 (nearV (-6) 0 (unBytes (bytesF s)) (resNear [F.int .i64 (-6),F.int .i64 0] (unBytes (bytesF s)) (belowV (unBytes (bytesF s)) (resRing [] (unBytes (bytesF s)) p).snd 10).snd).snd).fst],F.agg [F.int .i64 (IntKind.i64.wrap ((nearV (-6) 0 (unBytes (bytesF s)) (belowV (unBytes (bytesF s)) (resRing [] (unBytes (bytesF s)) p).snd 10).snd).fst+7)),F.int .i64 (nearV (-6) 0 (unBytes (bytesF s)) (resNear [F.int .i64 (-6),F.int .i64 0] (unBytes (bytesF s)) (belowV (unBytes (bytesF s)) (resRing [] (unBytes (bytesF s)) p).snd 10).snd).snd).fst],F.agg [F.int .i64 (IntKind.i64.wrap ((nearV (-6) 0 (unBytes (bytesF s)) (belowV (unBytes (bytesF s)) (resRing [] (unBytes (bytesF s)) p).snd 10).snd).fst+7)),F.int .i64 (IntKind.i64.wrap ((nearV (-6) 0 (unBytes (bytesF s)) (resNear [F.int .i64 (-6),F.int .i64 0] (unBytes (bytesF s)) (belowV (unBytes (bytesF s)) (resRing [] (unBytes (bytesF s)) p).snd 10).snd).snd).fst+7))],F.agg [F.int .i64 (nearV (-6) 0 (unBytes (bytesF s)) (belowV (unBytes (bytesF s)) (resRing [] (unBytes (bytesF s)) p).snd 10).snd).fst,F.int .i64 (IntKind.i64.wrap ((nearV (-6) 0 (unBytes (bytesF s)) (resNear [F.int .i64 (-6),F.int .i64 0] (unBytes (bytesF s)) (belowV (unBytes (bytesF s)) (resRing [] (unBytes (bytesF s)) p).snd 10).snd).snd).fst+7))]])],F.agg [F.sl 4 (lget [F.agg [F.int .i64 (IntKind.i64.wrap ((nearV (-6) 0 (unBytes (bytesF s)) (belowV (unBytes (bytesF s)) (resRing [] (unBytes (bytesF s)) p).snd 10).snd).fst+1)),F.int .i64 (IntKind.i64.wrap ((nearV (-6) 0 (unBytes (bytesF s)) (resNear [F.int .i64 (-6),F.int .i64 0] (unBytes (bytesF s)) (belowV (unBytes (bytesF s)) (resRing [] (unBytes (bytesF s)) p).snd 10).snd).snd).fst+1))],F.agg [F.int .i64 (IntKind.i64.wrap ((nearV (-6) 0 (unBytes (bytesF s)) (belowV (unBytes (bytesF s)) (resRing [] (unBytes (bytesF s)) p).snd 10).snd).fst+1)),F.int .i64 (IntKind.i64.wrap ((nearV (-6) 0 (unBytes (bytesF s)) (resNear [F.int .i64 (-6),F.int .i64 0] (unBytes (bytesF s)) (belowV (unBytes (bytesF s)) (resRing [] (unBytes (bytesF s)) p).snd 10).snd).snd).fst+5))],F.agg [F.int .i64 (IntKind.i64.wrap ((nearV (-6) 0 (unBytes (bytesF s)) (belowV (unBytes (bytesF s)) (resRing [] (unBytes (bytesF s)) p).snd 10).snd).fst+5)),F.int .i64 (IntKind.i64.wrap ((nearV (-6) 0 (unBytes (bytesF s)) (resNear [F.int .i64 (-6),F.int .i64 0] (unBytes (bytesF s)) (belowV (unBytes (bytesF s)) (resRing [] (unBytes (bytesF s)) p).snd 10).snd).snd).fst+5))],F.agg [F.int .i64 (IntKind.i64.wrap (IntKind.i64.wrap ((nearV (-6) 0 (unBytes (bytesF s)) (belowV (unBytes (bytesF s)) (resRing [] (unBytes (bytesF s)) p).snd 10).snd).fst+5)-(nearV 0 2 (unBytes (bytesF s)) (resNear [F.int .i64 (-6),F.int .i64 0] (unBytes (bytesF s)) (resNear [F.int .i64 (-6),F.int .i64 0] (unBytes (bytesF s)) (belowV (unBytes (bytesF s)) (resRing [] (unBytes (bytesF s)) p).snd 10).snd).snd).snd).fst)),F.int .i64 (IntKind.i64.wrap ((nearV (-6) 0 (unBytes (bytesF s)) (resNear [F.int .i64 (-6),F.int .i64 0] (unBytes (bytesF s)) (belowV (unBytes (bytesF s)) (resRing [] (unBytes (bytesF s)) p).snd 10).snd).snd).fst+1))]])]])]]) ((onceV (unBytes (bytesF s)) (resNear [F.int .i64 0,F.int .i64 2] (unBytes (bytesF s)) (resNear [F.int .i64 (-6),F.int .i64 0] (unBytes (bytesF s)) (resNear [F.int .i64 (-6),F.int .i64 0] (unBytes (bytesF s)) (belowV (unBytes (bytesF s)) (resRing [] (unBytes (bytesF s)) p).snd 10).snd).snd).snd).snd 2).snd)))
 none)
 none)
 none)
 none)
 (bsel ((belowV (unBytes (bytesF s)) (resRing [] (unBytes (bytesF s)) p).snd 10).fst==3)
 (bsel (isBytes (bytesF s)&&rdOk (unBytes (bytesF s)) (belowV (unBytes (bytesF s)) (resRing [] (unBytes (bytesF s)) p).snd 10).snd&&true)
 (bsel (decide ((↑(1+1):Int)*(((24:Nat):Int)+1)≤(↑limit:Int)))
 (ret ([F.tup [F.int .i64 ((1:Nat):Int),F.sl (1+1) fun j ↦ if j<1 then lget [F.agg [ptsF (rgV (unBytes (bytesF s)) p).fst]] j else F.agg [ptsF (rgV (unBytes (bytesF s)) (belowV (unBytes (bytesF s)) (resRing [] (unBytes (bytesF s)) p).snd 10).snd).fst]]]) ((resRing [] (unBytes (bytesF s)) (belowV (unBytes (bytesF s)) (resRing [] (unBytes (bytesF s)) p).snd 10).snd).snd))
 none)
 none)
 (bsel ((belowV (unBytes (bytesF s)) (resRing [] (unBytes (bytesF s)) p).snd 10).fst==4)
 (bsel (isBytes (bytesF s)&&rdOk (unBytes (bytesF s)) (belowV (unBytes (bytesF s)) (resRing [] (unBytes (bytesF s)) p).snd 10).snd&&true)
 (bsel (decide ((↑(1+1):Int)*(((24:Nat):Int)+1)≤(↑limit:Int)))
 (ret ([F.tup [F.int .i64 ((1:Nat):Int),F.sl (1+1) fun j ↦ if j<1 then lget [F.agg [ptsF (rgV (unBytes (bytesF s)) p).fst]] j else F.agg [F.sl 3 (lget [F.agg [F.int .i64 (nearV 12 14 (unBytes (bytesF s)) (belowV (unBytes (bytesF s)) (resRing [] (unBytes (bytesF s)) p).snd 10).snd).fst,F.int .i64 0],F.agg [F.int .i64 (IntKind.i64.wrap ((nearV 12 14 (unBytes (bytesF s)) (belowV (unBytes (bytesF s)) (resRing [] (unBytes (bytesF s)) p).snd 10).snd).fst+2)),F.int .i64 0],F.agg [F.int .i64 (nearV 12 14 (unBytes (bytesF s)) (belowV (unBytes (bytesF s)) (resRing [] (unBytes (bytesF s)) p).snd 10).snd).fst,F.int .i64 3]])]]]) ((resNear [F.int .i64 12,F.int .i64 14] (unBytes (bytesF s)) (belowV (unBytes (bytesF s)) (resRing [] (unBytes (bytesF s)) p).snd 10).snd).snd))
 none)
 none)
 (ret ([F.tup [F.int .i64 ((1:Nat):Int),F.sl 1 (lget [F.agg [ptsF (rgV (unBytes (bytesF s)) p).fst]])]]) ((belowV (unBytes (bytesF s)) (resRing [] (unBytes (bytesF s)) p).snd 10).snd)))))
 (bsel ((belowV (unBytes (bytesF s)) (resRing [] (unBytes (bytesF s)) p).snd 10).fst==2)
 (bsel (isBytes (bytesF s)&&rdOk (unBytes (bytesF s)) (belowV (unBytes (bytesF s)) (resRing [] (unBytes (bytesF s)) p).snd 10).snd&&true)
 (bsel (isBytes (bytesF s)&&rdOk (unBytes (bytesF s)) (resNear [F.int .i64 (-6),F.int .i64 0] (unBytes (bytesF s)) (belowV (unBytes (bytesF s)) (resRing [] (unBytes (bytesF s)) p).snd 10).snd).snd&&true)
 (bsel (isBytes (bytesF s)&&rdOk (unBytes (bytesF s)) (resNear [F.int .i64 (-6),F.int .i64 0] (unBytes (bytesF s)) (resNear [F.int .i64 (-6),F.int .i64 0] (unBytes (bytesF s)) (belowV (unBytes (bytesF s)) (resRing [] (unBytes (bytesF s)) p).snd 10).snd).snd).snd&&true)
 (bsel (isBytes (bytesF s)&&rdOk (unBytes (bytesF s)) (resNear [F.int .i64 0,F.int .i64 2] (unBytes (bytesF s)) (resNear [F.int .i64 (-6),F.int .i64 0] (unBytes (bytesF s)) (resNear [F.int .i64 (-6),F.int .i64 0] (unBytes (bytesF s)) (belowV (unBytes (bytesF s)) (resRing [] (unBytes (bytesF s)) p).snd 10).snd).snd).snd).snd)
 (bsel ((onceV (unBytes (bytesF s)) (resNear [F.int .i64 0,F.int .i64 2] (unBytes (bytesF s)) (resNear [F.int .i64 (-6),F.int .i64 0] (unBytes (bytesF s)) (resNear [F.int .i64 (-6),F.int .i64 0] (unBytes (bytesF s)) (belowV (unBytes (bytesF s)) (resRing [] (unBytes (bytesF s)) p).snd 10).snd).snd).snd).snd 2).fst)
 (bsel (decide ((↑(2+1):Int)*(((24:Nat):Int)+1)≤(↑limit:Int)))
 (ret ([F.tup [F.int .i64 ((1:Nat):Int),F.sl (2+1) fun j ↦ if j<2 then lget [F.agg [F.sl 4 (lget [F.agg [F.int .i64 (nearV (-6) 0 (unBytes (bytesF s)) (belowV (unBytes (bytesF s)) (resRing [] (unBytes (bytesF s)) p).snd 10).snd).fst,F.int .i64 (nearV (-6) 0 (unBytes (bytesF s)) (resNear [F.int .i64 (-6),F.int .i64 0] (unBytes (bytesF s)) (belowV (unBytes (bytesF s)) (resRing [] (unBytes (bytesF s)) p).snd 10).snd).snd).fst],F.agg [F.int .i64 (IntKind.i64.wrap ((nearV (-6) 0 (unBytes (bytesF s)) (belowV (unBytes (bytesF s)) (resRing [] (unBytes (bytesF s)) p).snd 10).snd).fst+7)),F.int .i64 (nearV (-6) 0 (unBytes (bytesF s)) (resNear [F.int .i64 (-6),F.int .i64 0] (unBytes (bytesF s)) (belowV (unBytes (bytesF s)) (resRing [] (unBytes (bytesF s)) p).snd 10).snd).snd).fst],F.agg [F.int .i64 (IntKind.i64.wrap ((nearV (-6) 0 (unBytes (bytesF s)) (belowV (unBytes (bytesF s)) (resRing [] (unBytes (bytesF s)) p).snd 10).snd).fst+7)),F.int .i64 (IntKind.i64.wrap ((nearV (-6) 0 (unBytes (bytesF s)) (resNear [F.int .i64 (-6),F.int .i64 0] (unBytes (bytesF s)) (belowV (unBytes (bytesF s)) (resRing [] (unBytes (bytesF s)) p).snd 10).snd).snd).fst+7))],F.agg [F.int .i64 (nearV (-6) 0 (unBytes (bytesF s)) (belowV (unBytes (bytesF s)) (resRing [] (unBytes (bytesF s)) p).snd 10).snd).fst,F.int .i64 (IntKind.i64.wrap ((nearV (-6) 0 (unBytes (bytesF s)) (resNear [F.int .i64 (-6),F.int .i64 0] (unBytes (bytesF s)) (belowV (unBytes (bytesF s)) (resRing [] (unBytes (bytesF s)) p).snd 10).snd).snd).fst+7))]])],F.agg [F.sl 4 (lget [F.agg [F.int .i64 (IntKind.i64.wrap ((nearV (-6) 0 (unBytes (bytesF s)) (belowV (unBytes (bytesF s)) (resRing [] (unBytes (bytesF s)) p).snd 10).snd).fst+1)),F.int .i64 (IntKind.i64.wrap ((nearV (-6) 0 (unBytes (bytesF s)) (resNear [F.int .i64 (-6),F.int .i64 0] (unBytes (bytesF s)) (belowV (unBytes (bytesF s)) (resRing [] (unBytes (bytesF s)) p).snd 10).snd).snd).fst+1))],F.agg [F.int .i64 (IntKind.i64.wrap ((nearV (-6) 0 (unBytes (bytesF s)) (belowV (unBytes (bytesF s)) (resRing [] (unBytes (bytesF s)) p).snd 10).snd).fst+1)),F.int .i64 (IntKind.i64.wrap ((nearV (-6) 0 (unBytes (bytesF s)) (resNear [F.int .i64 (-6),F.int .i64 0] (unBytes (bytesF s)) (belowV (unBytes (bytesF s)) (resRing [] (unBytes (bytesF s)) p).snd 10).snd).snd).fst+5))],F.agg [F.int .i64 (IntKind.i64.wrap ((nearV (-6) 0 (unBytes (bytesF s)) (belowV (unBytes (bytesF s)) (resRing [] (unBytes (bytesF s)) p).snd 10).snd).fst+5)),F.int .i64 (IntKind.i64.wrap ((nearV (-6) 0 (unBytes (bytesF s)) (resNear [F.int .i64 (-6),F.int .i64 0] (unBytes (bytesF s)) (belowV (unBytes (bytesF s)) (resRing [] (unBytes (bytesF s)) p).snd 10).snd).snd).fst+5))],F.agg [F.int .i64 (IntKind.i64.wrap (IntKind.i64.wrap ((nearV (-6) 0 (unBytes (bytesF s)) (belowV (unBytes (bytesF s)) (resRing [] (unBytes (bytesF s)) p).snd 10).snd).fst+5)-(nearV 0 2 (unBytes (bytesF s)) (resNear [F.int .i64 (-6),F.int .i64 0] (unBytes (bytesF s)) (resNear [F.int .i64 (-6),F.int .i64 0] (unBytes (bytesF s)) (belowV (unBytes (bytesF s)) (resRing [] (unBytes (bytesF s)) p).snd 10).snd).snd).snd).fst)),F.int .i64 (IntKind.i64.wrap ((nearV (-6) 0 (unBytes (bytesF s)) (resNear [F.int .i64 (-6),F.int .i64 0] (unBytes (bytesF s)) (belowV (unBytes (bytesF s)) (resRing [] (unBytes (bytesF s)) p).snd 10).snd).snd).fst+1))]])]] j else F.agg [F.sl 3 (lget [F.agg [F.int .i64 (IntKind.i64.wrap ((nearV (-6) 0 (unBytes (bytesF s)) (belowV (unBytes (bytesF s)) (resRing [] (unBytes (bytesF s)) p).snd 10).snd).fst+2)),F.int .i64 (IntKind.i64.wrap ((nearV (-6) 0 (unBytes (bytesF s)) (resNear [F.int .i64 (-6),F.int .i64 0] (unBytes (bytesF s)) (belowV (unBytes (bytesF s)) (resRing [] (unBytes (bytesF s)) p).snd 10).snd).snd).fst+2))],F.agg [F.int .i64 (IntKind.i64.wrap ((nearV (-6) 0 (unBytes (bytesF s)) (belowV (unBytes (bytesF s)) (resRing [] (unBytes (bytesF s)) p).snd 10).snd).fst+3)),F.int .i64 (IntKind.i64.wrap ((nearV (-6) 0 (unBytes (bytesF s)) (resNear [F.int .i64 (-6),F.int .i64 0] (unBytes (bytesF s)) (belowV (unBytes (bytesF s)) (resRing [] (unBytes (bytesF s)) p).snd 10).snd).snd).fst+2))],F.agg [F.int .i64 (IntKind.i64.wrap ((nearV (-6) 0 (unBytes (bytesF s)) (belowV (unBytes (bytesF s)) (resRing [] (unBytes (bytesF s)) p).snd 10).snd).fst+2)),F.int .i64 (IntKind.i64.wrap ((nearV (-6) 0 (unBytes (bytesF s)) (resNear [F.int .i64 (-6),F.int .i64 0] (unBytes (bytesF s)) (belowV (unBytes (bytesF s)) (resRing [] (unBytes (bytesF s)) p).snd 10).snd).snd).fst+3))]])]]]) ((onceV (unBytes (bytesF s)) (resNear [F.int .i64 0,F.int .i64 2] (unBytes (bytesF s)) (resNear [F.int .i64 (-6),F.int .i64 0] (unBytes (bytesF s)) (resNear [F.int .i64 (-6),F.int .i64 0] (unBytes (bytesF s)) (belowV (unBytes (bytesF s)) (resRing [] (unBytes (bytesF s)) p).snd 10).snd).snd).snd).snd 2).snd))
 none)
 (ret ([F.tup [F.int .i64 ((1:Nat):Int),F.sl 2 (lget [F.agg [F.sl 4 (lget [F.agg [F.int .i64 (nearV (-6) 0 (unBytes (bytesF s)) (belowV (unBytes (bytesF s)) (resRing [] (unBytes (bytesF s)) p).snd 10).snd).fst,F.int .i64 (nearV (-6) 0 (unBytes (bytesF s)) (resNear [F.int .i64 (-6),F.int .i64 0] (unBytes (bytesF s)) (belowV (unBytes (bytesF s)) (resRing [] (unBytes (bytesF s)) p).snd 10).snd).snd).fst],F.agg [F.int .i64 (IntKind.i64.wrap ((nearV (-6) 0 (unBytes (bytesF s)) (belowV (unBytes (bytesF s)) (resRing [] (unBytes (bytesF s)) p).snd 10).snd).fst+7)),F.int .i64 (nearV (-6) 0 (unBytes (bytesF s)) (resNear [F.int .i64 (-6),F.int .i64 0] (unBytes (bytesF s)) (belowV (unBytes (bytesF s)) (resRing [] (unBytes (bytesF s)) p).snd 10).snd).snd).fst],F.agg [F.int .i64 (IntKind.i64.wrap ((nearV (-6) 0 (unBytes (bytesF s)) (belowV (unBytes (bytesF s)) (resRing [] (unBytes (bytesF s)) p).snd 10).snd).fst+7)),F.int .i64 (IntKind.i64.wrap ((nearV (-6) 0 (unBytes (bytesF s)) (resNear [F.int .i64 (-6),F.int .i64 0] (unBytes (bytesF s)) (belowV (unBytes (bytesF s)) (resRing [] (unBytes (bytesF s)) p).snd 10).snd).snd).fst+7))],F.agg [F.int .i64 (nearV (-6) 0 (unBytes (bytesF s)) (belowV (unBytes (bytesF s)) (resRing [] (unBytes (bytesF s)) p).snd 10).snd).fst,F.int .i64 (IntKind.i64.wrap ((nearV (-6) 0 (unBytes (bytesF s)) (resNear [F.int .i64 (-6),F.int .i64 0] (unBytes (bytesF s)) (belowV (unBytes (bytesF s)) (resRing [] (unBytes (bytesF s)) p).snd 10).snd).snd).fst+7))]])],F.agg [F.sl 4 (lget [F.agg [F.int .i64 (IntKind.i64.wrap ((nearV (-6) 0 (unBytes (bytesF s)) (belowV (unBytes (bytesF s)) (resRing [] (unBytes (bytesF s)) p).snd 10).snd).fst+1)),F.int .i64 (IntKind.i64.wrap ((nearV (-6) 0 (unBytes (bytesF s)) (resNear [F.int .i64 (-6),F.int .i64 0] (unBytes (bytesF s)) (belowV (unBytes (bytesF s)) (resRing [] (unBytes (bytesF s)) p).snd 10).snd).snd).fst+1))],F.agg [F.int .i64 (IntKind.i64.wrap ((nearV (-6) 0 (unBytes (bytesF s)) (belowV (unBytes (bytesF s)) (resRing [] (unBytes (bytesF s)) p).snd 10).snd).fst+1)),F.int .i64 (IntKind.i64.wrap ((nearV (-6) 0 (unBytes (bytesF s)) (resNear [F.int .i64 (-6),F.int .i64 0] (unBytes (bytesF s)) (belowV (unBytes (bytesF s)) (resRing [] (unBytes (bytesF s)) p).snd 10).snd).snd).fst+5))],F.agg [F.int .i64 (IntKind.i64.wrap ((nearV (-6) 0 (unBytes (bytesF s)) (belowV (unBytes (bytesF s)) (resRing [] (unBytes (bytesF s)) p).snd 10).snd).fst+5)),F.int .i64 (IntKind.i64.wrap ((nearV (-6) 0 (unBytes (bytesF s)) (resNear [F.int .i64 (-6),F.int .i64 0] (unBytes (bytesF s)) (belowV (unBytes (bytesF s)) (resRing [] (unBytes (bytesF s)) p).snd 10).snd).snd).fst+5))],F.agg [F.int .i64 (IntKind.i64.wrap (IntKind.i64.wrap ((nearV (-6) 0 (unBytes (bytesF s)) (belowV (unBytes (bytesF s)) (resRing [] (unBytes (bytesF s)) p).snd 10).snd).fst+5)-(nearV 0 2 (unBytes (bytesF s)) (resNear [F.int .i64 (-6),F.int .i64 0] (unBytes (bytesF s)) (resNear [F.int .i64 (-6),F.int .i64 0] (unBytes (bytesF s)) (belowV (unBytes (bytesF s)) (resRing [] (unBytes (bytesF s)) p).snd 10).snd).snd).snd).fst)),F.int .i64 (IntKind.i64.wrap ((nearV (-6) 0 (unBytes (bytesF s)) (resNear [F.int .i64 (-6),F.int .i64 0] (unBytes (bytesF s)) (belowV (unBytes (bytesF s)) (resRing [] (unBytes (bytesF s)) p).snd 10).snd).snd).fst+1))]])]])]]) ((onceV (unBytes (bytesF s)) (resNear [F.int .i64 0,F.int .i64 2] (unBytes (bytesF s)) (resNear [F.int .i64 (-6),F.int .i64 0] (unBytes (bytesF s)) (resNear [F.int .i64 (-6),F.int .i64 0] (unBytes (bytesF s)) (belowV (unBytes (bytesF s)) (resRing [] (unBytes (bytesF s)) p).snd 10).snd).snd).snd).snd 2).snd)))
 none)
 none)
 none)
 none)
 (bsel ((belowV (unBytes (bytesF s)) (resRing [] (unBytes (bytesF s)) p).snd 10).fst==3)
 (bsel (isBytes (bytesF s)&&rdOk (unBytes (bytesF s)) (belowV (unBytes (bytesF s)) (resRing [] (unBytes (bytesF s)) p).snd 10).snd&&true)
 (bsel (decide ((↑(1+1):Int)*(((24:Nat):Int)+1)≤(↑limit:Int)))
 (ret ([F.tup [F.int .i64 ((1:Nat):Int),F.sl (1+1) fun j ↦ if j<1 then lget [F.agg [ptsF (rgV (unBytes (bytesF s)) p).fst]] j else F.agg [ptsF (rgV (unBytes (bytesF s)) (belowV (unBytes (bytesF s)) (resRing [] (unBytes (bytesF s)) p).snd 10).snd).fst]]]) ((resRing [] (unBytes (bytesF s)) (belowV (unBytes (bytesF s)) (resRing [] (unBytes (bytesF s)) p).snd 10).snd).snd))
 none)
 none)
 (bsel ((belowV (unBytes (bytesF s)) (resRing [] (unBytes (bytesF s)) p).snd 10).fst==4)
 (bsel (isBytes (bytesF s)&&rdOk (unBytes (bytesF s)) (belowV (unBytes (bytesF s)) (resRing [] (unBytes (bytesF s)) p).snd 10).snd&&true)
 (bsel (decide ((↑(1+1):Int)*(((24:Nat):Int)+1)≤(↑limit:Int)))
 (ret ([F.tup [F.int .i64 ((1:Nat):Int),F.sl (1+1) fun j ↦ if j<1 then lget [F.agg [ptsF (rgV (unBytes (bytesF s)) p).fst]] j else F.agg [F.sl 3 (lget [F.agg [F.int .i64 (nearV 12 14 (unBytes (bytesF s)) (belowV (unBytes (bytesF s)) (resRing [] (unBytes (bytesF s)) p).snd 10).snd).fst,F.int .i64 0],F.agg [F.int .i64 (IntKind.i64.wrap ((nearV 12 14 (unBytes (bytesF s)) (belowV (unBytes (bytesF s)) (resRing [] (unBytes (bytesF s)) p).snd 10).snd).fst+2)),F.int .i64 0],F.agg [F.int .i64 (nearV 12 14 (unBytes (bytesF s)) (belowV (unBytes (bytesF s)) (resRing [] (unBytes (bytesF s)) p).snd 10).snd).fst,F.int .i64 3]])]]]) ((resNear [F.int .i64 12,F.int .i64 14] (unBytes (bytesF s)) (belowV (unBytes (bytesF s)) (resRing [] (unBytes (bytesF s)) p).snd 10).snd).snd))
 none)
 none)
 (ret ([F.tup [F.int .i64 ((1:Nat):Int),F.sl 1 (lget [F.agg [ptsF (rgV (unBytes (bytesF s)) p).fst]])]]) ((belowV (unBytes (bytesF s)) (resRing [] (unBytes (bytesF s)) p).snd 10).snd)))))))
 none)
 none)
def G11 (s:ByteArray) (p:Int):Option ((List F) × (Int)):=T11 (fun rt pq=>some (rt,pq)) s p
theorem t11 (s:ByteArray) (p:Int) (rt:List F) (pq:Int) (h:G11 s p=some (rt,pq)):EndsN Tryz.prog 1 (ResultVar.tmp 1000003 :: Go.Proofs.Tryz.f11.results.toList) [.code (bodyOf Tryz.f11)] (startN Tryz.f11.ntmps [U.hp 0 0] [HO.box [U.f (bytesF s),U.f (F.int .i64 p)]]) (F.tup [F.tup rt,F.agg [bytesF s,F.int .i64 pq]]):=by
 refine Ends.of_run tyOK envA7_ok (T:=[]) (n:=200) ?_
 refine gE (Y:=T11 (fun rt pq=>some (.ret (F.tup [F.tup rt,F.agg [bytesF s,F.int .i64 pq]]))) s p) (by kernel_rfl) ?_
 exact (gS h (fun _ h=>(gS h (fun _ h=>(gS h (fun _ h=>gR (by cases h;rfl)) (fun _ h=>(gS h (fun _ h=>(gS h (fun _ h=>(gS h (fun _ h=>(gS h (fun _ h=>(gS h (fun _ h=>(gS h (fun _ h=>(gS h (fun _ h=>(gS h (fun _ h=>gR (by cases h;rfl)) gN)) (fun _ h=>gR (by cases h;rfl)))) gN)) gN)) gN)) gN)) (fun _ h=>(gS h (fun _ h=>(gS h (fun _ h=>(gS h (fun _ h=>gR (by cases h;rfl)) gN)) gN)) (fun _ h=>(gS h (fun _ h=>(gS h (fun _ h=>(gS h (fun _ h=>gR (by cases h;rfl)) gN)) gN)) (fun _ h=>gR (by cases h;rfl)))))))) (fun _ h=>(gS h (fun _ h=>(gS h (fun _ h=>(gS h (fun _ h=>(gS h (fun _ h=>(gS h (fun _ h=>(gS h (fun _ h=>(gS h (fun _ h=>gR (by cases h;rfl)) gN)) (fun _ h=>gR (by cases h;rfl)))) gN)) gN)) gN)) gN)) (fun _ h=>(gS h (fun _ h=>(gS h (fun _ h=>(gS h (fun _ h=>gR (by cases h;rfl)) gN)) gN)) (fun _ h=>(gS h (fun _ h=>(gS h (fun _ h=>(gS h (fun _ h=>gR (by cases h;rfl)) gN)) gN)) (fun _ h=>gR (by cases h;rfl)))))))))))) gN)) gN)
def LyRes (s:ByteArray) (x:Option (List F × Int)):Prop:=∃ (n:Nat) (g:Nat→F) (p':Int),x=some ([.tup [.int .i64 ((1:Nat):Int),.sl n g]],p')∧isRings (.sl n g)=true∧rdOk s p'=true∧n≤3
theorem rings_of {n:Nat} {g:Nat→F} (h:∀ j,j<n→isRing (g j)=true):isRings (.sl n g)=true:=by
 simp only [isRings,isSl,List.all_eq_true,List.mem_range]
 exact h
theorem layer_okR {s:ByteArray} {p:Int} (hr:rdOk s p=true):LyRes s (G11 s p):=by
 have h1:-1099511627776≤(-6:Int)∧(-6:Int)≤0∧(0:Int)≤1099511627776:=by omega
 have h2:-1099511627776≤(0:Int)∧(0:Int)≤2∧(2:Int)≤1099511627776:=by omega
 have h3:-1099511627776≤(12:Int)∧(12:Int)≤14∧(14:Int)≤1099511627776:=by omega
 obtain ⟨_,_,_,r1⟩:=rg_ok hr
 obtain ⟨_,_,_,b1⟩:=below_ok r1 10
 obtain ⟨_,n1⟩:=near_ok b1 h1
 obtain ⟨_,n2⟩:=near_ok n1 h1
 obtain ⟨_,n3⟩:=near_ok n2 h2
 obtain ⟨_,o3⟩:=once_ok n3 2
 obtain ⟨_,f1⟩:=near_ok b1 h3
 obtain ⟨_,_,_,r2⟩:=rg_ok b1
 have l3:decide ((2+1:Int)*(((24:Nat):Int)+1)≤(limit:Int))=true:=by rw [limit_eq];exact decide_eq_true (by omega)
 have l2:decide ((1+1:Int)*(((24:Nat):Int)+1)≤(limit:Int))=true:=by rw [limit_eq];exact decide_eq_true (by omega)
 unfold G11 T11
 simp only [unBytes_bytesF,isBytes_bytesF,hr,r1,b1,n1,n2,n3,l2,l3,resRing,resNear,Bool.and_self,Bool.and_true,bsel_true]
 generalize hx:rgV s (belowV s (rgV s p).2 10).2=x2 at r2
 obtain ⟨q2,p2⟩:=x2
 generalize (onceV s (nearV 0 2 s (nearV (-6) 0 s (nearV (-6) 0 s (belowV s (rgV s p).2 10).2).2).2).2 2)=o at o3
 obtain ⟨ob,p3⟩:=o
 simp only at o3 r2 ⊢
 cases ((belowV s (rgV s p).2 10).1==0) with
 | true =>
  rw [bsel_true]
  exact ⟨0,_,_,rfl,rfl,b1,by omega⟩
 | false =>
 rw [bsel_false]
 cases ((belowV s (rgV s p).2 10).1==1) with
 | true =>
  simp only [bsel_true]
  cases ob with
  | true =>
   rw [bsel_true]
   refine ⟨3,_,_,rfl,rings_of fun j hj=>?_,o3,by omega⟩
   match j,hj with
   | 0,_=>rfl
   | 1,_=>rfl
   | 2,_=>rfl
  | false =>
   rw [bsel_false]
   refine ⟨2,_,_,rfl,rings_of fun j hj=>?_,o3,by omega⟩
   match j,hj with
   | 0,_=>rfl
   | 1,_=>rfl
 | false =>
 simp only [bsel_false]
 cases ((belowV s (rgV s p).2 10).1==2) with
 | true =>
  rw [bsel_true]
  cases ob with
  | true =>
   rw [bsel_true]
   refine ⟨3,_,_,rfl,rings_of fun j hj=>?_,o3,by omega⟩
   match j,hj with
   | 0,_=>rfl
   | 1,_=>rfl
   | 2,_=>rfl
  | false =>
   rw [bsel_false]
   refine ⟨2,_,_,rfl,rings_of fun j hj=>?_,o3,by omega⟩
   match j,hj with
   | 0,_=>rfl
   | 1,_=>rfl
 | false =>
 rw [bsel_false]
 cases ((belowV s (rgV s p).2 10).1==3) with
 | true =>
  rw [bsel_true]
  refine ⟨2,_,_,rfl,rings_of fun j hj=>?_,r2,by omega⟩
  match j,hj with
  | 0,_=>exact isRing_agg _
  | 1,_=>exact isRing_agg _
 | false =>
 rw [bsel_false]
 cases ((belowV s (rgV s p).2 10).1==4) with
 | true =>
  rw [bsel_true]
  refine ⟨2,_,_,rfl,rings_of fun j hj=>?_,f1,by omega⟩
  match j,hj with
  | 0,_=>exact isRing_agg _
  | 1,_=>rfl
 | false =>
  rw [bsel_false]
  refine ⟨1,_,_,rfl,rings_of fun j hj=>?_,b1,by omega⟩
  match j,hj with
  | 0,_=>exact isRing_agg _
def lyN (s:ByteArray) (p:Int):Nat:=@dite _ (rdOk s p=true) (Classical.propDecidable _) (fun h=>Classical.choose (layer_okR h)) fun _=>0
def lyG (s:ByteArray) (p:Int):Nat→F:=@dite _ (rdOk s p=true) (Classical.propDecidable _) (fun h=>Classical.choose (Classical.choose_spec (layer_okR h))) fun _ _=>.dflt
def lyP (s:ByteArray) (p:Int):Int:=@dite _ (rdOk s p=true) (Classical.propDecidable _) (fun h=>Classical.choose (Classical.choose_spec (Classical.choose_spec (layer_okR h)))) fun _=>0
theorem ly_ok {s:ByteArray} {p:Int} (h:rdOk s p=true):G11 s p=some ([.tup [.int .i64 ((1:Nat):Int),.sl (lyN s p) (lyG s p)]],lyP s p)∧isRings (.sl (lyN s p) (lyG s p))=true∧rdOk s (lyP s p)=true∧lyN s p≤3:=by
 have e1:lyN s p=Classical.choose (layer_okR h):=@dif_pos _ (Classical.propDecidable _) h _ _ _
 have e2:lyG s p=Classical.choose (Classical.choose_spec (layer_okR h)):=@dif_pos _ (Classical.propDecidable _) h _ _ _
 have e3:lyP s p=Classical.choose (Classical.choose_spec (Classical.choose_spec (layer_okR h))):=@dif_pos _ (Classical.propDecidable _) h _ _ _
 rw [e1,e2,e3]
 exact Classical.choose_spec (Classical.choose_spec (Classical.choose_spec (layer_okR h)))
def preLy (cs xs:List F):Bool:=preR cs&&isNone xs
def resLy:List F→List F→List F × List F
 | [b,.int .i64 p],_=>([.tup [.int .i64 ((1:Nat):Int),.sl (lyN (unBytes b) p) (lyG (unBytes b) p)]],[b,.int .i64 (lyP (unBytes b) p)])
 | _,_=>([],[])
theorem okLy:SpOK Tryz.prog 11 (ptroSp preLy resLy) :=
 fn_ptro (c:=bodyOf Tryz.f11) Tryz.func11 (by kernel_rfl) (by kernel_rfl) fun cs xs hp=>by
  simp only [preLy,Bool.and_eq_true] at hp
  obtain ⟨b,p,rfl,hb,hr⟩:=preR_open hp.1
  have hx:=hp.2
  match xs,hx with
  | [],_ =>
   exact ⟨[bytesF (unBytes b),.int .i64 p],[],_,_,⟨(bytes_eqv hb).1,.refl _,trivial⟩,FsLe.refl _,t11 (unBytes b) p _ _ (ly_ok hr).1,⟨Own2.of (.obj _ _ _ _ _ fun _ _=>rfl),trivial⟩,⟨(bytes_eqv hb).2,.refl _,trivial⟩⟩
def envA8:Env:=envA7.add 11 (ptroSp preLy resLy)
theorem envA8_ok:EnvOK Tryz.prog envA8:=(Env.add_ok envA7_ok okLy)
end
noncomputable section
/-! ### function 5 -/
def S5_4 (s:ByteArray) (p:Int) (n:Nat) (g:Nat→F):St:=⟨bads 3 ((U.hp 0 0) :: (U.hs 1 n 0 n) :: bads 19 []),[HO.box [U.f (bytesF s),U.f (F.int .i64 p)],HO.arr 1 n g]⟩
def T5_4 {ρ:Type} (ret:(F)→Option ρ) (c4:KJ91 ρ) (s:ByteArray) (p:Int) (n:Nat) (g:Nat→F):Option ρ :=
 (bsel (isBytes (bytesF s)&&rdOk (unBytes (bytesF s)) p)
 (bsel ((onceV (unBytes (bytesF s)) p 2).fst==true)
 (bsel (decide (n=n))
 (bsel (decide ((↑n:Int)<9))
 (bsel (isBytes (bytesF s)&&rdOk (unBytes (bytesF s)) (onceV (unBytes (bytesF s)) p 2).snd&&true)
 (bsel (decide (n=n))
 (bsel (decide (n=n))
 (bsel (decide ((↑(n+1):Int)*(((24:Nat):Int)+1)≤(↑limit:Int)))
 (c4 (s) ((resRing [] (unBytes (bytesF s)) (onceV (unBytes (bytesF s)) p 2).snd).snd) (n+1) (fun j ↦ if j<n then g j else F.agg [ptsF (rgV (unBytes (bytesF s)) (onceV (unBytes (bytesF s)) p 2).snd).fst]))
 none)
 none)
 none)
 none)
 (bsel (decide (n=n))
 (ret (F.sl n g))
 none))
 none)
 (bsel (decide (n=n))
 (ret (F.sl n g))
 none))
 none)
def L5_4:Nat→(ByteArray)→(Int)→(Nat)→(Nat→F)→Option (F)
 | 0,_,_,_,_=>none
 | k+1,s,p,n,g=>T5_4 some (L5_4 k) s p n g
def T5 {ρ:Type} (ret:(F)→Option ρ) (c4:KJ91 ρ) (a0:ByteArray):Option ρ :=
 (bsel (isBytes (bytesF a0))
 (bsel (isBytes (bytesF a0)&&rdOk (unBytes (bytesF a0)) 0&&true)
 (bsel (isBytes (bytesF a0)&&rdOk (unBytes (bytesF a0)) (lyP (unBytes (bytesF a0)) 0))
 (bsel ((onceV (unBytes (bytesF a0)) (lyP (unBytes (bytesF a0)) 0) 5).fst)
 (c4 (a0) ((onceV (unBytes (bytesF a0)) (lyP (unBytes (bytesF a0)) 0) 5).snd) (lyN (unBytes (bytesF a0)) 0) (lyG (unBytes (bytesF a0)) 0))
 (bsel (decide (lyN (unBytes (bytesF a0)) 0=lyN (unBytes (bytesF a0)) 0))
 (ret (F.sl (lyN (unBytes (bytesF a0)) 0) (lyG (unBytes (bytesF a0)) 0)))
 none))
 none)
 none)
 none)
def G5 (k:Nat) (a0:ByteArray):Option (F):=T5 some (L5_4 k) a0
theorem t5_4:∀ (k:Nat) (s:ByteArray) (p:Int) (n:Nat) (g:Nat→F) (rt:F),L5_4 k s p n g=some rt→Ends Tryz.prog Tryz.f5.results.toList (at_ Tryz.f5 4) (S5_4 s p n g) (rt)
 | 0,_,_,_,_,_,h=>nomatch h
 | k+1,s,p,n,g,rt,h=>by
  refine Ends.of_cut tyOK envA8_ok (T:=[(4,[3,4],1000)]) (n:=200) ?_
  refine gE (Y:=T5_4 (fun rt=>some (.ret (rt))) (fun s p n g=>some (.cut (at_ Tryz.f5 4) (S5_4 s p n g))) s p n g) (by kernel_rfl) ?_
  exact (gS h (fun _ h=>(gS h (fun _ h=>(gS h (fun _ h=>(gS h (fun _ h=>(gS h (fun _ h=>(gS h (fun _ h=>(gS h (fun _ h=>(gS h (fun _ h=>gC (t5_4 k _ _ _ _ rt h)) gN)) gN)) gN)) gN)) (fun _ h=>(gS h (fun _ h=>gR (by cases h;rfl)) gN)))) gN)) (fun _ h=>(gS h (fun _ h=>gR (by cases h;rfl)) gN)))) gN)
theorem t5 (k:Nat) (a0:ByteArray) (rt:F) (h:G5 k a0=some rt):Ends Tryz.prog Tryz.f5.results.toList [.code (bodyOf Tryz.f5)] (start Tryz.f5.ntmps ([bytesF a0].map .f)) (rt):=by
 refine Ends.of_run tyOK envA8_ok (T:=[(4,[3,4],1000)]) (n:=200) ?_
 refine gE (Y:=T5 (fun rt=>some (.ret (rt))) (fun s p n g=>some (.cut (at_ Tryz.f5 4) (S5_4 s p n g))) a0) (by kernel_rfl) ?_
 exact (gS h (fun _ h=>(gS h (fun _ h=>(gS h (fun _ h=>(gS h (fun _ h=>gC (t5_4 k _ _ _ _ rt h)) (fun _ h=>(gS h (fun _ h=>gR (by cases h;rfl)) gN)))) gN)) gN)) gN)
theorem drawL4 {s:ByteArray}:∀ (d k:Nat) (p:Int) (n:Nat) (g:Nat→F),rdOk s p=true→isRings (.sl n g)=true→n+d=9→∃ rt,L5_4 (k+d+1) s p n g=some rt∧isRings rt=true
 | d,k,p,n,g,hr,hg,hn=>by
  rw [L5_4]
  obtain ⟨_,o1⟩:=once_ok hr 2
  simp only [T5_4,unBytes_bytesF,isBytes_bytesF,hr,o1,Bool.and_self,Bool.and_true,decide_true,bsel_true]
  cases ((onceV s p 2).1==true) with
  | false =>
   rw [bsel_false]
   exact ⟨_,rfl,hg⟩
  | true =>
   rw [bsel_true]
   match d,hn with
   | 0,hn =>
    have c1:decide ((n:Int)<9)=false:=decide_eq_false (by omega)
    rw [c1,bsel_false]
    exact ⟨_,rfl,hg⟩
   | d+1,hn =>
    have c1:decide ((n:Int)<9)=true:=decide_eq_true (by omega)
    have c2:decide (((n+1:Nat):Int)*(((24:Nat):Int)+1)≤(limit:Int))=true:=by rw [limit_eq];exact decide_eq_true (by omega)
    rw [c1,bsel_true,c2,bsel_true]
    obtain ⟨_,_,_,r1⟩:=rg_ok o1
    refine drawL4 d k _ (n+1) _ r1 (rings_of fun j hj=>?_) (by omega)
    have hg':∀ j,j<n→isRing (g j)=true:=fun j hj=>by
     simp only [isRings,isSl,List.all_eq_true,List.mem_range] at hg
     exact hg j hj
    by_cases h:j<n
    ·rw [if_pos h];exact hg' j h
    ·rw [if_neg h];exact isRing_agg _
theorem drawL_okR {s:ByteArray} (h:s.size≤1048576):∃ rt,G5 10 s=some rt∧isRings rt=true:=by
 have h0:rdOk s 0=true:=rdOk_iff.2 (by omega)
 obtain ⟨_,l1,l2,l3⟩:=ly_ok h0
 obtain ⟨_,o1⟩:=once_ok l2 5
 unfold G5 T5
 simp only [unBytes_bytesF,isBytes_bytesF,h0,l2,Bool.and_self,Bool.and_true,decide_true,bsel_true]
 cases (onceV s (lyP s 0) 5).1 with
 | false =>
  rw [bsel_false]
  exact ⟨_,rfl,l1⟩
 | true =>
  rw [bsel_true]
  have e:(10:Nat)=lyN s 0+(9-lyN s 0)+1:=by omega
  rw [e]
  exact drawL4 (9-lyN s 0) (lyN s 0) _ _ _ o1 l1 (by omega)
def drawV (s:ByteArray):List (List Pt):=@dite _ (s.size≤1048576) (Classical.propDecidable _) (fun h=>unRings (Classical.choose (drawL_okR h))) fun _=>[]
theorem drawL_ok {s:ByteArray} (h:s.size≤1048576):∃ rt,G5 10 s=some rt∧FLe rt (ringsF (drawV s)):=by
 have e:drawV s=unRings (Classical.choose (drawL_okR h)):=@dif_pos _ (Classical.propDecidable _) h _ _ _
 rw [e]
 obtain ⟨h1,h2⟩:=Classical.choose_spec (drawL_okR h)
 exact ⟨_,h1,(rings_eqv h2).1⟩
def preDraw:List F→Bool | [b]=>isBytes b&&decide ((unBytes b).size≤1048576) | _=>false
def resDrawL:List F→F | [b]=>ringsF (drawV (unBytes b)) | _=>.dflt
theorem okDrawL:PureOK Tryz.prog 5 preDraw resDrawL :=
 fn_pure_at (c:=bodyOf Tryz.f5) Tryz.func5 (by kernel_rfl) (by kernel_rfl) fun xs hp=>match xs,hp with
 | [b],hp=>by
  simp only [preDraw,Bool.and_eq_true,decide_eq_true_eq] at hp
  obtain ⟨rt,e,hle⟩:=drawL_ok hp.2
  exact ⟨[bytesF (unBytes b)],rt,⟨(bytes_eqv hp.1).1,trivial⟩,t5 10 _ _ e,hle⟩
def envA9:Env:=(envA8.add 5 (.pure preDraw resDrawL)).or envA6
theorem envA9_ok:EnvOK Tryz.prog envA9:=(Env.or_ok (Env.add_ok envA8_ok okDrawL.sp) envA6_ok)
end
noncomputable section
/-! ### function 3 -/
def S3_10 (l:List (List Pt)) (t:Bool) (i:Int):St:=⟨bads 3 ((U.f (ringsF l)) :: bads 4 ((U.f (F.bool t)) :: (U.f (F.int .i64 i)) :: bads 92 [])),[]⟩
def S3_14 (l:List (List Pt)) (t:Bool) (i:Int) (n:Int) (j:Int):St:=⟨bads 3 ((U.f (ringsF l)) :: bads 4 ((U.f (F.bool t)) :: (U.f (F.int .i64 i)) :: (U.f (F.int .i64 n)) :: (U.f (F.int .i64 j)) :: bads 90 [])),[]⟩
abbrev KJ94 (ρ:Type):=(List (List Pt))→(Bool)→(Int)→(Int)→(Int)→Option ρ
abbrev KJ96 (ρ:Type):=(List (List Pt))→(Bool)→(Int)→Option ρ
def T3_10 {ρ:Type} (ret:(Bool)→Option ρ) (c10:KJ96 ρ) (c14:KJ94 ρ) (l:List (List Pt)) (t:Bool) (i:Int):Option ρ :=
 (bsel (decide (i<(↑l.length:Int)))
 (c14 (l) (t) (i) (0) (0))
 (bsel (t==true)
 (bsel (isRings (ringsF l))
 (ret (depOfV (unRings (ringsF l)) (↑l.length:Int) == -1))
 none)
 (ret (false))))
def T3_14 {ρ:Type} (ret:(Bool)→Option ρ) (c10:KJ96 ρ) (c14:KJ94 ρ) (l:List (List Pt)) (t:Bool) (i:Int) (n:Int) (j:Int):Option ρ :=
 (bsel (decide (j<(↑l.length:Int)))
 (bsel ((j != i)==true)
 (bsel (decide (0≤i))
 (bsel (decide (i<(↑l.length:Int)))
 (bsel (decide (0≤j))
 (bsel (decide (j<(↑l.length:Int)))
 (bsel (isRing (F.agg [ptsF (l.getD i.toNat [])])&&isRing (F.agg [ptsF (l.getD j.toNat [])]))
 (bsel (inRg2V (unRing (F.agg [ptsF (l.getD i.toNat [])])) (unRing (F.agg [ptsF (l.getD j.toNat [])])))
 (bsel (isRings (ringsF l))
 (bsel (isRings (ringsF l))
 (bsel (decide (depOfV (unRings (ringsF l)) i≤depOfV (unRings (ringsF l)) j))
 (ret (false))
 (c14 (l) (t) (i) (IntKind.i64.wrap (n+1)) (IntKind.i64.wrap (j+1))))
 none)
 none)
 (c14 (l) (t) (i) (n) (IntKind.i64.wrap (j+1))))
 none)
 none)
 none)
 none)
 none)
 (c14 (l) (t) (i) (n) (IntKind.i64.wrap (j+1))))
 (bsel (isRings (ringsF l))
 (bsel (depOfV (unRings (ringsF l)) i != n)
 (ret (false))
 (bsel (t==false)
 (c10 (l) (n==0) (IntKind.i64.wrap (i+1)))
 (c10 (l) (true) (IntKind.i64.wrap (i+1)))))
 none))
mutual
def L3_10:Nat→(List (List Pt))→(Bool)→(Int)→Option (Bool)
 | 0,_,_,_=>none
 | k+1,l,t,i=>T3_10 some (L3_10 k) (L3_14 k) l t i
def L3_14:Nat→(List (List Pt))→(Bool)→(Int)→(Int)→(Int)→Option (Bool)
 | 0,_,_,_,_,_=>none
 | k+1,l,t,i,n,j=>T3_14 some (L3_10 k) (L3_14 k) l t i n j
end
def T3 {ρ:Type} (ret:(Bool)→Option ρ) (c10:KJ96 ρ) (c14:KJ94 ρ) (a0:ByteArray):Option ρ :=
 (bsel (isBytes (bytesF a0))
 (bsel (decide ((↑(unBytes (bytesF a0)).size:Int) > 1048576))
 (ret (true))
 (bsel (isBytes (bytesF a0)&&decide ((unBytes (bytesF a0)).size≤1048576))
 (bsel (isRings (ringsF (drawV (unBytes (bytesF a0)))))
 (bsel (isRings (ringsF (drawV (unBytes (bytesF a0)))))
 (bsel (((layerP (unRings (ringsF (drawV (unBytes (bytesF a0)))))).fst != (layerP (unRings (ringsF (drawV (unBytes (bytesF a0)))))).fst)==false)
 (bsel (((layerP (unRings (ringsF (drawV (unBytes (bytesF a0)))))).snd != (layerP (unRings (ringsF (drawV (unBytes (bytesF a0)))))).snd)==false)
 (bsel ((layerP (unRings (ringsF (drawV (unBytes (bytesF a0)))))).fst != 0)
 (bsel (((layerP (unRings (ringsF (drawV (unBytes (bytesF a0)))))).fst==(layerP (unRings (ringsF (drawV (unBytes (bytesF a0)))))).fst)==true)
 (ret ((layerP (unRings (ringsF (drawV (unBytes (bytesF a0)))))).snd==(layerP (unRings (ringsF (drawV (unBytes (bytesF a0)))))).snd))
 (ret (false)))
 (c10 (drawV (unBytes (bytesF a0))) ((↑(drawV (unBytes (bytesF a0))).length:Int)==0) (0)))
 (bsel (((layerP (unRings (ringsF (drawV (unBytes (bytesF a0)))))).fst==(layerP (unRings (ringsF (drawV (unBytes (bytesF a0)))))).fst)==true)
 (ret ((layerP (unRings (ringsF (drawV (unBytes (bytesF a0)))))).snd==(layerP (unRings (ringsF (drawV (unBytes (bytesF a0)))))).snd))
 (ret (false))))
 (bsel (((layerP (unRings (ringsF (drawV (unBytes (bytesF a0)))))).fst==(layerP (unRings (ringsF (drawV (unBytes (bytesF a0)))))).fst)==true)
 (ret ((layerP (unRings (ringsF (drawV (unBytes (bytesF a0)))))).snd==(layerP (unRings (ringsF (drawV (unBytes (bytesF a0)))))).snd))
 (ret (false))))
 none)
 none)
 none))
 none)
def G3 (k:Nat) (a0:ByteArray):Option (Bool):=T3 some (L3_10 k) (L3_14 k) a0
mutual
theorem t3_10:∀ (k:Nat) (l:List (List Pt)) (t:Bool) (i:Int) (r:Bool),L3_10 k l t i=some r→Ends Tryz.prog Tryz.f3.results.toList (at_ Tryz.f3 10) (S3_10 l t i) (F.bool r)
 | 0,_,_,_,_,h=>nomatch h
 | k+1,l,t,i,r,h=>by
  refine Ends.of_cut tyOK envA9_ok (T:=[(10,[3,8,9],1000),(14,[3,8,9,10,11],1000)]) (n:=200) ?_
  refine gE (Y:=T3_10 (fun r=>some (.ret (F.bool r))) (fun l t i=>some (.cut (at_ Tryz.f3 10) (S3_10 l t i))) (fun l t i n j=>some (.cut (at_ Tryz.f3 14) (S3_14 l t i n j))) l t i) (by kernel_rfl) ?_
  exact (gS h (fun _ h=>gC (t3_14 k _ _ _ _ _ r h)) (fun _ h=>(gS h (fun _ h=>(gS h (fun _ h=>gR (by cases h;rfl)) gN)) (fun _ h=>gR (by cases h;rfl)))))
theorem t3_14:∀ (k:Nat) (l:List (List Pt)) (t:Bool) (i:Int) (n:Int) (j:Int) (r:Bool),L3_14 k l t i n j=some r→Ends Tryz.prog Tryz.f3.results.toList (at_ Tryz.f3 14) (S3_14 l t i n j) (F.bool r)
 | 0,_,_,_,_,_,_,h=>nomatch h
 | k+1,l,t,i,n,j,r,h=>by
  refine Ends.of_cut tyOK envA9_ok (T:=[(10,[3,8,9],1000),(14,[3,8,9,10,11],1000)]) (n:=200) ?_
  refine gE (Y:=T3_14 (fun r=>some (.ret (F.bool r))) (fun l t i=>some (.cut (at_ Tryz.f3 10) (S3_10 l t i))) (fun l t i n j=>some (.cut (at_ Tryz.f3 14) (S3_14 l t i n j))) l t i n j) (by kernel_rfl) ?_
  exact (gS h (fun _ h=>(gS h (fun _ h=>(gS h (fun _ h=>(gS h (fun _ h=>(gS h (fun _ h=>(gS h (fun _ h=>(gS h (fun _ h=>(gS h (fun _ h=>(gS h (fun _ h=>(gS h (fun _ h=>(gS h (fun _ h=>gR (by cases h;rfl)) (fun _ h=>gC (t3_14 k _ _ _ _ _ r h)))) gN)) gN)) (fun _ h=>gC (t3_14 k _ _ _ _ _ r h)))) gN)) gN)) gN)) gN)) gN)) (fun _ h=>gC (t3_14 k _ _ _ _ _ r h)))) (fun _ h=>(gS h (fun _ h=>(gS h (fun _ h=>gR (by cases h;rfl)) (fun _ h=>(gS h (fun _ h=>gC (t3_10 k _ _ _ r h)) (fun _ h=>gC (t3_10 k _ _ _ r h)))))) gN)))
end
theorem t3 (k:Nat) (a0:ByteArray) (r:Bool) (h:G3 k a0=some r):Ends Tryz.prog Tryz.f3.results.toList [.code (bodyOf Tryz.f3)] (start Tryz.f3.ntmps ([bytesF a0].map .f)) (F.bool r):=by
 refine Ends.of_run tyOK envA9_ok (T:=[(10,[3,8,9],1000),(14,[3,8,9,10,11],1000)]) (n:=200) ?_
 refine gE (Y:=T3 (fun r=>some (.ret (F.bool r))) (fun l t i=>some (.cut (at_ Tryz.f3 10) (S3_10 l t i))) (fun l t i n j=>some (.cut (at_ Tryz.f3 14) (S3_14 l t i n j))) a0) (by kernel_rfl) ?_
 exact (gS h (fun _ h=>(gS h (fun _ h=>gR (by cases h;rfl)) (fun _ h=>(gS h (fun _ h=>(gS h (fun _ h=>(gS h (fun _ h=>(gS h (fun _ h=>(gS h (fun _ h=>(gS h (fun _ h=>(gS h (fun _ h=>gR (by cases h;rfl)) (fun _ h=>gR (by cases h;rfl)))) (fun _ h=>gC (t3_10 k _ _ _ r h)))) (fun _ h=>(gS h (fun _ h=>gR (by cases h;rfl)) (fun _ h=>gR (by cases h;rfl)))))) (fun _ h=>(gS h (fun _ h=>gR (by cases h;rfl)) (fun _ h=>gR (by cases h;rfl)))))) gN)) gN)) gN)))) gN)
section
variable {l:List (List Pt)} (hl:layerV l=true)
include hl
theorem depOf_at {i:Nat} (hi:i<l.length):depOfV l (i:Int)=((depN l i:Nat):Int):=by
 have e:isAtL l (i:Int)=true:=by
  unfold isAtL
  rw [Bool.and_eq_true]
  exact ⟨decide_eq_true (by omega),decide_eq_true (by omega)⟩
 unfold depOfV
 rw [hl,e]
 rfl
theorem depOf_end:depOfV l (l.length:Int) = -1:=by
 have e:isAtL l (l.length:Int)=false:=by
  unfold isAtL
  rw [Bool.and_eq_false_iff]
  exact .inr (decide_eq_false (by omega))
 unfold depOfV
 rw [hl,e]
 rfl
theorem law14 {i:Nat} (hi:i<l.length) (t:Bool) (K:Nat) (hK:L3_10 K l (t || depN l i==0) ((i+1:Nat):Int)=some true):∀ (d j n:Nat),j+d=l.length→n≤j→n+(List.range' j d).countP (depAt l i)=depN l i→L3_14 (K+d+1) l t i n j=some true
 | 0,j,n,h,hn,hc=>by
  obtain ⟨f1,_,_⟩:=layer_facts hl
  have c1:decide ((j:Int)<(l.length:Int))=false:=decide_eq_false (by omega)
  have e:n=depN l i:=by simpa using hc
  subst e
  have w1:IntKind.i64.wrap ((i:Int)+1)=((i+1:Nat):Int):=by rw [wrapI (by omega) (by omega)];omega
  have z:(((depN l i:Nat):Int)==0)=(depN l i==0):=by
   by_cases e:depN l i=0
   ·rw [e];rfl
   ·rw [beq_eq_false_iff_ne.2 e,beq_eq_false_iff_ne.2 (by omega)]
  rw [L3_14]
  simp only [T3_14,c1,w1,z,depOf_at hl hi,isRings_ringsF,unRings_ringsF,bne_self_eq_false,bsel_true,bsel_false]
  cases t with
  | false=>simpa [bsel_true] using hK
  | true=>simpa [bsel_false] using hK
 | d+1,j,n,h,hn,hc=>by
  obtain ⟨f1,f2,_⟩:=layer_facts hl
  have hj:j<l.length:=by omega
  have c1:decide ((j:Int)<(l.length:Int))=true:=decide_eq_true (by omega)
  have c2:decide (0≤(i:Int))=true:=decide_eq_true (by omega)
  have c3:decide ((i:Int)<(l.length:Int))=true:=decide_eq_true (by omega)
  have c4:decide (0≤(j:Int))=true:=decide_eq_true (by omega)
  have w1:IntKind.i64.wrap ((j:Int)+1)=((j+1:Nat):Int):=by rw [wrapI (by omega) (by omega)];omega
  have w2:IntKind.i64.wrap ((n:Int)+1)=((n+1:Nat):Int):=by rw [wrapI (by omega) (by omega)];omega
  have rj:inRg2V (l.getD i []) (l.getD j [])=inRgV (l.getD i []) (l.getD j []):=by
   unfold inRg2V
   rw [f2 _ (getD_in (d:=[]) hi),f2 _ (getD_in (d:=[]) hj)]
   rfl
  have ne:((j:Int) != (i:Int))=(j != i):=by
   by_cases e:j=i
   ·subst e;simp
   ·rw [bne_iff_ne.2 e,bne_iff_ne.2 (by omega)]
  have eD:K+(d+1)=K+d+1:=by omega
  have hd:depAt l i j=(j != i&&inRgV (l.getD i []) (l.getD j [])):=rfl
  rw [List.range'_succ,List.countP_cons,hd] at hc
  rw [L3_14,eD]
  simp only [T3_14,c1,c2,c3,c4,w1,w2,ne,rj,Int.toNat_natCast,unRing_agg,isRing_agg,isRings_ringsF,unRings_ringsF,depOf_at hl hi,depOf_at hl hj,Bool.and_self,bsel_true]
  cases hne:j != i with
  | false =>
   rw [hne] at hc
   exact law14 hi t K hK d (j+1) n (by omega) (by omega) (by simpa using hc)
  | true =>
   cases hin:inRgV (l.getD i []) (l.getD j []) with
   | false =>
    rw [hne,hin] at hc
    exact law14 hi t K hK d (j+1) n (by omega) (by omega) (by simpa using hc)
   | true =>
    rw [hne,hin] at hc
    have lt:=dep_lt hl hi hj (fun e=>(bne_iff_ne.1 hne) e.symm) hin
    have c5:decide (((depN l i:Nat):Int)≤((depN l j:Nat):Int))=false:=decide_eq_false (by omega)
    simp only [c5,beq_self_eq_true,bsel_true,bsel_false]
    have hc:n+((List.range' (j+1) d).countP (depAt l i)+1)=depN l i:=hc
    exact law14 hi t K hK d (j+1) (n+1) (by omega) (by omega) (by omega)
theorem law10:∀ (d i:Nat) (t:Bool),i+d=l.length→(t=true ∨ ∃ j,i≤j∧j<l.length∧depN l j=0)→L3_10 (1+d*(l.length+2)) l t i=some true
 | 0,i,t,h,ht=>by
  have c1:decide ((i:Int)<(l.length:Int))=false:=decide_eq_false (by omega)
  have e:t=true:=by
   rcases ht with h | ⟨j,h1,h2,_⟩
   ·exact h
   ·omega
  subst e
  have e0:1+0*(l.length+2)=0+1:=by omega
  rw [e0,L3_10]
  simp only [T3_10,c1,isRings_ringsF,unRings_ringsF,depOf_end hl,beq_self_eq_true,bsel_true,bsel_false]
 | d+1,i,t,h,ht=>by
  have hi:i<l.length:=by omega
  have c1:decide ((i:Int)<(l.length:Int))=true:=decide_eq_true (by omega)
  have e1:1+(d+1)*(l.length+2)=1+d*(l.length+2)+l.length+1+1:=by rw [Nat.succ_mul];omega
  rw [e1,L3_10]
  simp only [T3_10,c1,bsel_true]
  refine law14 hl hi t (1+d*(l.length+2)) (law10 d (i+1) _ (by omega) ?_) l.length 0 0 (by omega) (by omega) (Nat.zero_add _)
  by_cases e:depN l i=0
  ·left;rw [e];simp
  ·rcases ht with h | ⟨j,h1,h2,h3⟩
   ·left;rw [h];rfl
   ·right
    refine ⟨j,?_,h2,h3⟩
    by_cases e2:j=i
    ·subst e2;exact absurd h3 e
    ·omega
end
theorem depths_law (s:ByteArray):∃ k,G3 k s=some true:=by
 refine ⟨1+(drawV s).length*((drawV s).length+2),?_⟩
 unfold G3 T3
 simp only [unBytes_bytesF,isBytes_bytesF,isRings_ringsF,unRings_ringsF,Bool.true_and,bsel_true,beq_self_eq_true,bne_self_eq_false]
 by_cases hs:s.size≤1048576
 ·have c1:decide ((s.size:Int) > 1048576)=false:=decide_eq_false (by omega)
  simp only [c1,decide_eq_true hs,bsel_true,bsel_false]
  generalize drawV s=l
  cases hl:layerV l with
  | false =>
   have e:((layerP l).1 != 0)=true:=by
    have:((layerP l).1==0)=false:=hl
    rw [bne,this];rfl
   rw [e,bsel_true]
  | true =>
   have e:((layerP l).1 != 0)=false:=by
    have:((layerP l).1==0)=true:=hl
    rw [bne,this];rfl
   rw [e,bsel_false]
   refine law10 hl l.length 0 _ (by omega) ?_
   by_cases h0:0<l.length
   ·obtain ⟨i,h1,h2⟩:=top_ex hl h0
    exact .inr ⟨i,by omega,h1,h2⟩
   ·left
    have:l.length=0:=by omega
    rw [this];rfl
 ·have c1:decide ((s.size:Int) > 1048576)=true:=decide_eq_true (by omega)
  simp only [c1,bsel_true]
theorem okFnDepths:PureOK Tryz.prog 3 preB (fun _=>.bool true) :=
 fn_pure_at (c:=bodyOf Tryz.f3) Tryz.func3 (by kernel_rfl) (by kernel_rfl) fun xs hp=>match xs,hp with
 | [b],hp=>by
  obtain ⟨k,e⟩:=depths_law (unBytes b)
  exact ⟨[bytesF (unBytes b)],_,⟨(bytes_eqv hp).1,trivial⟩,t3 k _ _ e,.refl _⟩
end
end Go.Proofs.YtkjjmmgddehbhaaGreat.R
