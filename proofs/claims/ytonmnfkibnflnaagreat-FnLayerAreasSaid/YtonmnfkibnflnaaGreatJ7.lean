/-
 The own walk and what it shows,part 7 of 10.
-/
import Derived.Test.YtonmnfkibnflnaaGreatJ1
import Derived.Test.YtonmnfkibnflnaaGreatJ2
import Derived.Test.YtonmnfkibnflnaaGreatJ3
import Derived.Test.YtonmnfkibnflnaaGreatJ4
import Derived.Test.YtonmnfkibnflnaaGreatJ5
import Derived.Test.YtonmnfkibnflnaaGreatJ6
set_option linter.unusedVariables false
set_option linter.unusedSimpArgs false
set_option maxRecDepth 100000
set_option exponentiation.threshold 30000
namespace Go.Proofs.YtonmnfkibnflnaaGreat.R
open Go
noncomputable section
set_option maxHeartbeats 1000000
theorem Jv {z:Int} (h:EC z=true):z.natAbs<18446744073709551616 ^ 4:=by
 have:=EV.1 h
 have e:(18446744073709551616:Nat) ^ 4=2*57896044618658097711785492504343953926634992332820282019728792003956564819968:=rfl
 omega
theorem ME (x y:Int):AN [AF x,AF y]=AF (x*y):=by simp only [AN,B4]
theorem YP (x y:Int):CL [AF x,AF y]=AF (x-y):=by simp only [CL,B4]
theorem YM (x y:Int):Hp [AF x,AF y]=AF (x+y):=by simp only [Hp,B4]
theorem BL {z:Int} {n m:Nat} (h:z.natAbs<18446744073709551616 ^ n) (hm:n≤m):Aq m (AF z)=true:=B6 (Jp h hm)
theorem JQ {a0 a1 a2 a3 a4 a5 a6 a7 a8 a9 a10 a11:Int} (h:EL a0 a1 a2 a3 a4 a5 a6 a7 a8 a9 a10 a11=true):(Af a0 a1 a2 a3).natAbs<18446744073709551616 ^ 4∧(Af a4 a5 a6 a7).natAbs<18446744073709551616 ^ 4∧(Af a8 a9 a10 a11).natAbs<18446744073709551616 ^ 4:=by
 simp only [EL,Bool.and_eq_true] at h
 exact ⟨Jv (Mq h.1.1),Jv (Mq h.1.2),Jv (Mq h.2)⟩
/-! ### function 79 -/
def T79 {ρ:Type} (ret:(Int)→Option ρ) (a0:Int) (a1:Int) (a2:Int) (a3:Int) (a4:Int) (a5:Int) (a6:Int) (a7:Int) (a8:Int) (a9:Int) (a10:Int) (a11:Int) (b0:Int) (b1:Int) (b2:Int) (b3:Int) (b4:Int) (b5:Int) (b6:Int) (b7:Int) (b8:Int) (b9:Int) (b10:Int) (b11:Int):Option ρ :=
 (AD (a0==b0&&(a1==b1&&(a2==b2&&(a3==b3&&true)))&&(a4==b4&&(a5==b5&&(a6==b6&&(a7==b7&&true)))&&(a8==b8&&(a9==b9&&(a10==b10&&(a11==b11&&true)))&&true)))
 (ret (0))
 (AD (EL a0 a1 a2 a3 a4 a5 a6 a7 a8 a9 a10 a11)
 (AD (EL b0 b1 b2 b3 b4 b5 b6 b7 b8 b9 b10 b11)
 (AD (Aq 400 (AF (Af a0 a1 a2 a3))&&Aq 400 (AF (Af b8 b9 b10 b11)))
 (AD (Aq 400 (AF (Af b0 b1 b2 b3))&&Aq 400 (AF (Af a8 a9 a10 a11)))
 (AD (Aq 399 (AN [AF (Af a0 a1 a2 a3),AF (Af b8 b9 b10 b11)])&&Aq 399 (AN [AF (Af b0 b1 b2 b3),AF (Af a8 a9 a10 a11)]))
 (AD ((AG (AN [AF (Af a0 a1 a2 a3),AF (Af b8 b9 b10 b11)])-AG (AN [AF (Af b0 b1 b2 b3),AF (Af a8 a9 a10 a11)])).sign != 0)
 (ret ((AG (AN [AF (Af a0 a1 a2 a3),AF (Af b8 b9 b10 b11)])-AG (AN [AF (Af b0 b1 b2 b3),AF (Af a8 a9 a10 a11)])).sign))
 (AD (Aq 400 (AF (Af a4 a5 a6 a7))&&Aq 400 (AF (Af b8 b9 b10 b11)))
 (AD (Aq 400 (AF (Af b4 b5 b6 b7))&&Aq 400 (AF (Af a8 a9 a10 a11)))
 (AD (Aq 399 (AN [AF (Af a4 a5 a6 a7),AF (Af b8 b9 b10 b11)])&&Aq 399 (AN [AF (Af b4 b5 b6 b7),AF (Af a8 a9 a10 a11)]))
 (ret ((AG (AN [AF (Af a4 a5 a6 a7),AF (Af b8 b9 b10 b11)])-AG (AN [AF (Af b4 b5 b6 b7),AF (Af a8 a9 a10 a11)])).sign))
 none)
 none)
 none))
 none)
 none)
 none)
 none)
 none))
def G79 (a0:Int) (a1:Int) (a2:Int) (a3:Int) (a4:Int) (a5:Int) (a6:Int) (a7:Int) (a8:Int) (a9:Int) (a10:Int) (a11:Int) (b0:Int) (b1:Int) (b2:Int) (b3:Int) (b4:Int) (b5:Int) (b6:Int) (b7:Int) (b8:Int) (b9:Int) (b10:Int) (b11:Int):Option (Int):=T79 some a0 a1 a2 a3 a4 a5 a6 a7 a8 a9 a10 a11 b0 b1 b2 b3 b4 b5 b6 b7 b8 b9 b10 b11
theorem t79 (a0:Int) (a1:Int) (a2:Int) (a3:Int) (a4:Int) (a5:Int) (a6:Int) (a7:Int) (a8:Int) (a9:Int) (a10:Int) (a11:Int) (b0:Int) (b1:Int) (b2:Int) (b3:Int) (b4:Int) (b5:Int) (b6:Int) (b7:Int) (b8:Int) (b9:Int) (b10:Int) (b11:Int) (r:Int) (h:G79 a0 a1 a2 a3 a4 a5 a6 a7 a8 a9 a10 a11 b0 b1 b2 b3 b4 b5 b6 b7 b8 b9 b10 b11=some r):AX Tryz.prog Tryz.f79.results.toList [.code (AT Tryz.f79)] (start Tryz.f79.ntmps ([F.agg [F.int .u64 a0,F.int .u64 a1,F.int .u64 a2,F.int .u64 a3,F.int .u64 a4,F.int .u64 a5,F.int .u64 a6,F.int .u64 a7,F.int .u64 a8,F.int .u64 a9,F.int .u64 a10,F.int .u64 a11],F.agg [F.int .u64 b0,F.int .u64 b1,F.int .u64 b2,F.int .u64 b3,F.int .u64 b4,F.int .u64 b5,F.int .u64 b6,F.int .u64 b7,F.int .u64 b8,F.int .u64 b9,F.int .u64 b10,F.int .u64 b11]].map .f)) (F.int .i64 r):=by
 refine AX.of_run Au R8 (T:=[]) (n:=200) ?_
 refine gE (Y:=T79 (fun r=>some (.ret (F.int .i64 r))) a0 a1 a2 a3 a4 a5 a6 a7 a8 a9 a10 a11 b0 b1 b2 b3 b4 b5 b6 b7 b8 b9 b10 b11) (by kernel_rfl) ?_
 exact (gS h (fun _ h=>gR (by cases h;rfl)) (fun _ h=>(gS h (fun _ h=>(gS h (fun _ h=>(gS h (fun _ h=>(gS h (fun _ h=>(gS h (fun _ h=>(gS h (fun _ h=>gR (by cases h;rfl)) (fun _ h=>(gS h (fun _ h=>(gS h (fun _ h=>(gS h (fun _ h=>gR (by cases h;rfl)) gN)) gN)) gN)))) gN)) gN)) gN)) gN)) gN)))
theorem vW {a0 a1 a2 a3 a4 a5 a6 a7 a8 a9 a10 a11 b0 b1 b2 b3 b4 b5 b6 b7 b8 b9 b10 b11:Int} (ha:EL a0 a1 a2 a3 a4 a5 a6 a7 a8 a9 a10 a11=true) (hb:EL b0 b1 b2 b3 b4 b5 b6 b7 b8 b9 b10 b11=true) :
  G79 a0 a1 a2 a3 a4 a5 a6 a7 a8 a9 a10 a11 b0 b1 b2 b3 b4 b5 b6 b7 b8 b9 b10 b11=some (CZ (Af a0 a1 a2 a3) (Af a4 a5 a6 a7) (Af a8 a9 a10 a11) (Af b0 b1 b2 b3) (Af b4 b5 b6 b7) (Af b8 b9 b10 b11)):=by
 obtain ⟨x1,x2,x3⟩:=JQ ha
 obtain ⟨y1,y2,y3⟩:=JQ hb
 unfold G79 T79
 simp only [ha,hb,ME,B4,BL x1 (show 4≤400 by omega),BL x2 (show 4≤400 by omega),BL x3 (show 4≤400 by omega),BL y1 (show 4≤400 by omega),BL y2 (show 4≤400 by omega),BL y3 (show 4≤400 by omega),
  BL (CO x1 y3) (show 4+4≤399 by omega),BL (CO y1 x3) (show 4+4≤399 by omega),BL (CO x2 y3) (show 4+4≤399 by omega),BL (CO y2 x3) (show 4+4≤399 by omega),Bool.and_self,AH]
 unfold CZ
 cases hc:(a0==b0&&(a1==b1&&(a2==b2&&(a3==b3&&true)))&&(a4==b4&&(a5==b5&&(a6==b6&&(a7==b7&&true)))&&(a8==b8&&(a9==b9&&(a10==b10&&(a11==b11&&true)))&&true))) with
 | true =>
  simp only [Bool.and_eq_true,beq_iff_eq,Bool.and_true] at hc
  obtain ⟨⟨h0,h1,h2,h3⟩,⟨h4,h5,h6,h7⟩,h8,h9,h10,h11⟩:=hc
  subst h0 h1 h2 h3 h4 h5 h6 h7 h8 h9 h10 h11
  rw [AH,Int.sub_self,Int.sub_self]
  rfl
 | false =>
  rw [AJ]
  cases (Af a0 a1 a2 a3*Af b8 b9 b10 b11-Af b0 b1 b2 b3*Af a8 a9 a10 a11).sign != 0 <;> rfl
def cN:List F→Bool | [.agg [.int .u64 a0,.int .u64 a1,.int .u64 a2,.int .u64 a3,.int .u64 a4,.int .u64 a5,.int .u64 a6,.int .u64 a7,.int .u64 a8,.int .u64 a9,.int .u64 a10,.int .u64 a11],.agg [.int .u64 b0,.int .u64 b1,.int .u64 b2,.int .u64 b3,.int .u64 b4,.int .u64 b5,.int .u64 b6,.int .u64 b7,.int .u64 b8,.int .u64 b9,.int .u64 b10,.int .u64 b11]]=>EL a0 a1 a2 a3 a4 a5 a6 a7 a8 a9 a10 a11&&EL b0 b1 b2 b3 b4 b5 b6 b7 b8 b9 b10 b11 | _=>false
def gY:List F→F | [.agg [.int .u64 a0,.int .u64 a1,.int .u64 a2,.int .u64 a3,.int .u64 a4,.int .u64 a5,.int .u64 a6,.int .u64 a7,.int .u64 a8,.int .u64 a9,.int .u64 a10,.int .u64 a11],.agg [.int .u64 b0,.int .u64 b1,.int .u64 b2,.int .u64 b3,.int .u64 b4,.int .u64 b5,.int .u64 b6,.int .u64 b7,.int .u64 b8,.int .u64 b9,.int .u64 b10,.int .u64 b11]]=>.int .i64 (CZ (Af a0 a1 a2 a3) (Af a4 a5 a6 a7) (Af a8 a9 a10 a11) (Af b0 b1 b2 b3) (Af b4 b5 b6 b7) (Af b8 b9 b10 b11)) | _=>.dflt
theorem okCmpP:Ak Tryz.prog 79 cN gY :=
 B2 (c:=AT Tryz.f79) Tryz.func79 (by kernel_rfl) (by kernel_rfl) fun xs hp=>match xs,hp with
 | [.agg [.int .u64 a0,.int .u64 a1,.int .u64 a2,.int .u64 a3,.int .u64 a4,.int .u64 a5,.int .u64 a6,.int .u64 a7,.int .u64 a8,.int .u64 a9,.int .u64 a10,.int .u64 a11],.agg [.int .u64 b0,.int .u64 b1,.int .u64 b2,.int .u64 b3,.int .u64 b4,.int .u64 b5,.int .u64 b6,.int .u64 b7,.int .u64 b8,.int .u64 b9,.int .u64 b10,.int .u64 b11]],hp=>by
  simp only [cN,Bool.and_eq_true] at hp
  exact t79 a0 a1 a2 a3 a4 a5 a6 a7 a8 a9 a10 a11 b0 b1 b2 b3 b4 b5 b6 b7 b8 b9 b10 b11 _ (vW hp.1 hp.2)
theorem J1 {x y:Int} {n m:Nat} (hx:x.natAbs<18446744073709551616 ^ n) (hy:y.natAbs<18446744073709551616 ^ m):(x-y).natAbs<18446744073709551616 ^ (n+m+1):=by
 have:=TV (Jp hx (show n≤n+m by omega)) (Jp hy (show m≤n+m by omega))
 exact this
/-! ### function 53 -/
def T53 {ρ:Type} (ret:(F)→Option ρ) (x:Int) (y:Int) (w:Int):Option ρ :=
 (AD (Aq 400 (AF w))
 (AD ((AG (AF w)).sign==0)
 (ret (F.tup [F.agg [F.int .u64 0,F.int .u64 0,F.int .u64 0,F.int .u64 0,F.int .u64 0,F.int .u64 0,F.int .u64 0,F.int .u64 0,F.int .u64 0,F.int .u64 0,F.int .u64 0,F.int .u64 0],F.bool false]))
 (AD (LS 400 (F.sl 3 (Ar [AF x,AF y,AF w]))&&ZX (Ag (F.sl 3 (Ar [AF x,AF y,AF w]))))
 (AD (decide (w<0))
 (AD (Aq 400 (AF (↑(AY 0 (Ag (F.sl 3 (Ar [AF x,AF y,AF w])))):Int)))
 (AD (Aq 399 (AF x)&&Aq 399 (AF (-AG (AF (↑(AY 0 (Ag (F.sl 3 (Ar [AF x,AF y,AF w])))):Int))))&&KB (AG (AF x)) (AG (AF (-AG (AF (↑(AY 0 (Ag (F.sl 3 (Ar [AF x,AF y,AF w])))):Int))))))
 (AD (Aq 399 (AF y)&&Aq 399 (AF (-AG (AF (↑(AY 0 (Ag (F.sl 3 (Ar [AF x,AF y,AF w])))):Int))))&&KB (AG (AF y)) (AG (AF (-AG (AF (↑(AY 0 (Ag (F.sl 3 (Ar [AF x,AF y,AF w])))):Int))))))
 (AD (Aq 399 (AF w)&&Aq 399 (AF (-AG (AF (↑(AY 0 (Ag (F.sl 3 (Ar [AF x,AF y,AF w])))):Int))))&&KB (AG (AF w)) (AG (AF (-AG (AF (↑(AY 0 (Ag (F.sl 3 (Ar [AF x,AF y,AF w])))):Int))))))
 (AD (Aq 400 (AF (AG (AF x) / AG (AF (-AG (AF (↑(AY 0 (Ag (F.sl 3 (Ar [AF x,AF y,AF w])))):Int)))))))
 (AD (Aq 400 (AF (AG (AF y) / AG (AF (-AG (AF (↑(AY 0 (Ag (F.sl 3 (Ar [AF x,AF y,AF w])))):Int)))))))
 (AD (Aq 400 (AF (AG (AF w) / AG (AF (-AG (AF (↑(AY 0 (Ag (F.sl 3 (Ar [AF x,AF y,AF w])))):Int)))))))
 (AD (decide ((if true=true then if (↑(Go.Proofs.YtonmnfkibnflnaaGreat.R.AZ (AG (AF (AG (AF w) / AG (AF (-AG (AF (↑(AY 0 (Ag (F.sl 3 (Ar [AF x,AF y,AF w])))):Int))))))).natAbs):Int) > if true=true then if (↑(Go.Proofs.YtonmnfkibnflnaaGreat.R.AZ (AG (AF (AG (AF y) / AG (AF (-AG (AF (↑(AY 0 (Ag (F.sl 3 (Ar [AF x,AF y,AF w])))):Int))))))).natAbs):Int) > (↑(Go.Proofs.YtonmnfkibnflnaaGreat.R.AZ (AG (AF (AG (AF x) / AG (AF (-AG (AF (↑(AY 0 (Ag (F.sl 3 (Ar [AF x,AF y,AF w])))):Int))))))).natAbs):Int) then (↑(Go.Proofs.YtonmnfkibnflnaaGreat.R.AZ (AG (AF (AG (AF y) / AG (AF (-AG (AF (↑(AY 0 (Ag (F.sl 3 (Ar [AF x,AF y,AF w])))):Int))))))).natAbs):Int) else (↑(Go.Proofs.YtonmnfkibnflnaaGreat.R.AZ (AG (AF (AG (AF x) / AG (AF (-AG (AF (↑(AY 0 (Ag (F.sl 3 (Ar [AF x,AF y,AF w])))):Int))))))).natAbs):Int) else if (↑(Go.Proofs.YtonmnfkibnflnaaGreat.R.AZ (AG (AF (AG (AF y) / AG (AF (-AG (AF (↑(AY 0 (Ag (F.sl 3 (Ar [AF x,AF y,AF w])))):Int))))))).natAbs):Int)<(↑(Go.Proofs.YtonmnfkibnflnaaGreat.R.AZ (AG (AF (AG (AF x) / AG (AF (-AG (AF (↑(AY 0 (Ag (F.sl 3 (Ar [AF x,AF y,AF w])))):Int))))))).natAbs):Int) then (↑(Go.Proofs.YtonmnfkibnflnaaGreat.R.AZ (AG (AF (AG (AF y) / AG (AF (-AG (AF (↑(AY 0 (Ag (F.sl 3 (Ar [AF x,AF y,AF w])))):Int))))))).natAbs):Int) else (↑(Go.Proofs.YtonmnfkibnflnaaGreat.R.AZ (AG (AF (AG (AF x) / AG (AF (-AG (AF (↑(AY 0 (Ag (F.sl 3 (Ar [AF x,AF y,AF w])))):Int))))))).natAbs):Int) then (↑(Go.Proofs.YtonmnfkibnflnaaGreat.R.AZ (AG (AF (AG (AF w) / AG (AF (-AG (AF (↑(AY 0 (Ag (F.sl 3 (Ar [AF x,AF y,AF w])))):Int))))))).natAbs):Int) else if true=true then if (↑(Go.Proofs.YtonmnfkibnflnaaGreat.R.AZ (AG (AF (AG (AF y) / AG (AF (-AG (AF (↑(AY 0 (Ag (F.sl 3 (Ar [AF x,AF y,AF w])))):Int))))))).natAbs):Int) > (↑(Go.Proofs.YtonmnfkibnflnaaGreat.R.AZ (AG (AF (AG (AF x) / AG (AF (-AG (AF (↑(AY 0 (Ag (F.sl 3 (Ar [AF x,AF y,AF w])))):Int))))))).natAbs):Int) then (↑(Go.Proofs.YtonmnfkibnflnaaGreat.R.AZ (AG (AF (AG (AF y) / AG (AF (-AG (AF (↑(AY 0 (Ag (F.sl 3 (Ar [AF x,AF y,AF w])))):Int))))))).natAbs):Int) else (↑(Go.Proofs.YtonmnfkibnflnaaGreat.R.AZ (AG (AF (AG (AF x) / AG (AF (-AG (AF (↑(AY 0 (Ag (F.sl 3 (Ar [AF x,AF y,AF w])))):Int))))))).natAbs):Int) else if (↑(Go.Proofs.YtonmnfkibnflnaaGreat.R.AZ (AG (AF (AG (AF y) / AG (AF (-AG (AF (↑(AY 0 (Ag (F.sl 3 (Ar [AF x,AF y,AF w])))):Int))))))).natAbs):Int)<(↑(Go.Proofs.YtonmnfkibnflnaaGreat.R.AZ (AG (AF (AG (AF x) / AG (AF (-AG (AF (↑(AY 0 (Ag (F.sl 3 (Ar [AF x,AF y,AF w])))):Int))))))).natAbs):Int) then (↑(Go.Proofs.YtonmnfkibnflnaaGreat.R.AZ (AG (AF (AG (AF y) / AG (AF (-AG (AF (↑(AY 0 (Ag (F.sl 3 (Ar [AF x,AF y,AF w])))):Int))))))).natAbs):Int) else (↑(Go.Proofs.YtonmnfkibnflnaaGreat.R.AZ (AG (AF (AG (AF x) / AG (AF (-AG (AF (↑(AY 0 (Ag (F.sl 3 (Ar [AF x,AF y,AF w])))):Int))))))).natAbs):Int) else if (↑(Go.Proofs.YtonmnfkibnflnaaGreat.R.AZ (AG (AF (AG (AF w) / AG (AF (-AG (AF (↑(AY 0 (Ag (F.sl 3 (Ar [AF x,AF y,AF w])))):Int))))))).natAbs):Int)<if true=true then if (↑(Go.Proofs.YtonmnfkibnflnaaGreat.R.AZ (AG (AF (AG (AF y) / AG (AF (-AG (AF (↑(AY 0 (Ag (F.sl 3 (Ar [AF x,AF y,AF w])))):Int))))))).natAbs):Int) > (↑(Go.Proofs.YtonmnfkibnflnaaGreat.R.AZ (AG (AF (AG (AF x) / AG (AF (-AG (AF (↑(AY 0 (Ag (F.sl 3 (Ar [AF x,AF y,AF w])))):Int))))))).natAbs):Int) then (↑(Go.Proofs.YtonmnfkibnflnaaGreat.R.AZ (AG (AF (AG (AF y) / AG (AF (-AG (AF (↑(AY 0 (Ag (F.sl 3 (Ar [AF x,AF y,AF w])))):Int))))))).natAbs):Int) else (↑(Go.Proofs.YtonmnfkibnflnaaGreat.R.AZ (AG (AF (AG (AF x) / AG (AF (-AG (AF (↑(AY 0 (Ag (F.sl 3 (Ar [AF x,AF y,AF w])))):Int))))))).natAbs):Int) else if (↑(Go.Proofs.YtonmnfkibnflnaaGreat.R.AZ (AG (AF (AG (AF y) / AG (AF (-AG (AF (↑(AY 0 (Ag (F.sl 3 (Ar [AF x,AF y,AF w])))):Int))))))).natAbs):Int)<(↑(Go.Proofs.YtonmnfkibnflnaaGreat.R.AZ (AG (AF (AG (AF x) / AG (AF (-AG (AF (↑(AY 0 (Ag (F.sl 3 (Ar [AF x,AF y,AF w])))):Int))))))).natAbs):Int) then (↑(Go.Proofs.YtonmnfkibnflnaaGreat.R.AZ (AG (AF (AG (AF y) / AG (AF (-AG (AF (↑(AY 0 (Ag (F.sl 3 (Ar [AF x,AF y,AF w])))):Int))))))).natAbs):Int) else (↑(Go.Proofs.YtonmnfkibnflnaaGreat.R.AZ (AG (AF (AG (AF x) / AG (AF (-AG (AF (↑(AY 0 (Ag (F.sl 3 (Ar [AF x,AF y,AF w])))):Int))))))).natAbs):Int) then (↑(Go.Proofs.YtonmnfkibnflnaaGreat.R.AZ (AG (AF (AG (AF w) / AG (AF (-AG (AF (↑(AY 0 (Ag (F.sl 3 (Ar [AF x,AF y,AF w])))):Int))))))).natAbs):Int) else if true=true then if (↑(Go.Proofs.YtonmnfkibnflnaaGreat.R.AZ (AG (AF (AG (AF y) / AG (AF (-AG (AF (↑(AY 0 (Ag (F.sl 3 (Ar [AF x,AF y,AF w])))):Int))))))).natAbs):Int) > (↑(Go.Proofs.YtonmnfkibnflnaaGreat.R.AZ (AG (AF (AG (AF x) / AG (AF (-AG (AF (↑(AY 0 (Ag (F.sl 3 (Ar [AF x,AF y,AF w])))):Int))))))).natAbs):Int) then (↑(Go.Proofs.YtonmnfkibnflnaaGreat.R.AZ (AG (AF (AG (AF y) / AG (AF (-AG (AF (↑(AY 0 (Ag (F.sl 3 (Ar [AF x,AF y,AF w])))):Int))))))).natAbs):Int) else (↑(Go.Proofs.YtonmnfkibnflnaaGreat.R.AZ (AG (AF (AG (AF x) / AG (AF (-AG (AF (↑(AY 0 (Ag (F.sl 3 (Ar [AF x,AF y,AF w])))):Int))))))).natAbs):Int) else if (↑(Go.Proofs.YtonmnfkibnflnaaGreat.R.AZ (AG (AF (AG (AF y) / AG (AF (-AG (AF (↑(AY 0 (Ag (F.sl 3 (Ar [AF x,AF y,AF w])))):Int))))))).natAbs):Int)<(↑(Go.Proofs.YtonmnfkibnflnaaGreat.R.AZ (AG (AF (AG (AF x) / AG (AF (-AG (AF (↑(AY 0 (Ag (F.sl 3 (Ar [AF x,AF y,AF w])))):Int))))))).natAbs):Int) then (↑(Go.Proofs.YtonmnfkibnflnaaGreat.R.AZ (AG (AF (AG (AF y) / AG (AF (-AG (AF (↑(AY 0 (Ag (F.sl 3 (Ar [AF x,AF y,AF w])))):Int))))))).natAbs):Int) else (↑(Go.Proofs.YtonmnfkibnflnaaGreat.R.AZ (AG (AF (AG (AF x) / AG (AF (-AG (AF (↑(AY 0 (Ag (F.sl 3 (Ar [AF x,AF y,AF w])))):Int))))))).natAbs):Int)) > 80))
 (ret (F.tup [F.agg [F.int .u64 0,F.int .u64 0,F.int .u64 0,F.int .u64 0,F.int .u64 0,F.int .u64 0,F.int .u64 0,F.int .u64 0,F.int .u64 0,F.int .u64 0,F.int .u64 0,F.int .u64 0],F.bool false]))
 (AD (Aq 399 (AF (AG (AF x) / AG (AF (-AG (AF (↑(AY 0 (Ag (F.sl 3 (Ar [AF x,AF y,AF w])))):Int)))))))
 (AD (Aq 399 (AF (AG (AF y) / AG (AF (-AG (AF (↑(AY 0 (Ag (F.sl 3 (Ar [AF x,AF y,AF w])))):Int)))))))
 (AD (Aq 399 (AF (AG (AF w) / AG (AF (-AG (AF (↑(AY 0 (Ag (F.sl 3 (Ar [AF x,AF y,AF w])))):Int)))))))
 (ret (F.tup [F.agg [F.int .u64 (wd3 (AG (AF (AG (AF x) / AG (AF (-AG (AF (↑(AY 0 (Ag (F.sl 3 (Ar [AF x,AF y,AF w])))):Int)))))))),F.int .u64 (wd2 (AG (AF (AG (AF x) / AG (AF (-AG (AF (↑(AY 0 (Ag (F.sl 3 (Ar [AF x,AF y,AF w])))):Int)))))))),F.int .u64 (wd1 (AG (AF (AG (AF x) / AG (AF (-AG (AF (↑(AY 0 (Ag (F.sl 3 (Ar [AF x,AF y,AF w])))):Int)))))))),F.int .u64 (wd0 (AG (AF (AG (AF x) / AG (AF (-AG (AF (↑(AY 0 (Ag (F.sl 3 (Ar [AF x,AF y,AF w])))):Int)))))))),F.int .u64 (wd3 (AG (AF (AG (AF y) / AG (AF (-AG (AF (↑(AY 0 (Ag (F.sl 3 (Ar [AF x,AF y,AF w])))):Int)))))))),F.int .u64 (wd2 (AG (AF (AG (AF y) / AG (AF (-AG (AF (↑(AY 0 (Ag (F.sl 3 (Ar [AF x,AF y,AF w])))):Int)))))))),F.int .u64 (wd1 (AG (AF (AG (AF y) / AG (AF (-AG (AF (↑(AY 0 (Ag (F.sl 3 (Ar [AF x,AF y,AF w])))):Int)))))))),F.int .u64 (wd0 (AG (AF (AG (AF y) / AG (AF (-AG (AF (↑(AY 0 (Ag (F.sl 3 (Ar [AF x,AF y,AF w])))):Int)))))))),F.int .u64 (wd3 (AG (AF (AG (AF w) / AG (AF (-AG (AF (↑(AY 0 (Ag (F.sl 3 (Ar [AF x,AF y,AF w])))):Int)))))))),F.int .u64 (wd2 (AG (AF (AG (AF w) / AG (AF (-AG (AF (↑(AY 0 (Ag (F.sl 3 (Ar [AF x,AF y,AF w])))):Int)))))))),F.int .u64 (wd1 (AG (AF (AG (AF w) / AG (AF (-AG (AF (↑(AY 0 (Ag (F.sl 3 (Ar [AF x,AF y,AF w])))):Int)))))))),F.int .u64 (wd0 (AG (AF (AG (AF w) / AG (AF (-AG (AF (↑(AY 0 (Ag (F.sl 3 (Ar [AF x,AF y,AF w])))):Int))))))))],F.bool true]))
 none)
 none)
 none))
 none)
 none)
 none)
 none)
 none)
 none)
 none)
 (AD (Aq 399 (AF x)&&Aq 399 (AF (↑(AY 0 (Ag (F.sl 3 (Ar [AF x,AF y,AF w])))):Int))&&KB (AG (AF x)) (AG (AF (↑(AY 0 (Ag (F.sl 3 (Ar [AF x,AF y,AF w])))):Int))))
 (AD (Aq 399 (AF y)&&Aq 399 (AF (↑(AY 0 (Ag (F.sl 3 (Ar [AF x,AF y,AF w])))):Int))&&KB (AG (AF y)) (AG (AF (↑(AY 0 (Ag (F.sl 3 (Ar [AF x,AF y,AF w])))):Int))))
 (AD (Aq 399 (AF w)&&Aq 399 (AF (↑(AY 0 (Ag (F.sl 3 (Ar [AF x,AF y,AF w])))):Int))&&KB (AG (AF w)) (AG (AF (↑(AY 0 (Ag (F.sl 3 (Ar [AF x,AF y,AF w])))):Int))))
 (AD (Aq 400 (AF (AG (AF x) / AG (AF (↑(AY 0 (Ag (F.sl 3 (Ar [AF x,AF y,AF w])))):Int)))))
 (AD (Aq 400 (AF (AG (AF y) / AG (AF (↑(AY 0 (Ag (F.sl 3 (Ar [AF x,AF y,AF w])))):Int)))))
 (AD (Aq 400 (AF (AG (AF w) / AG (AF (↑(AY 0 (Ag (F.sl 3 (Ar [AF x,AF y,AF w])))):Int)))))
 (AD (decide ((if true=true then if (↑(Go.Proofs.YtonmnfkibnflnaaGreat.R.AZ (AG (AF (AG (AF w) / AG (AF (↑(AY 0 (Ag (F.sl 3 (Ar [AF x,AF y,AF w])))):Int))))).natAbs):Int) > if true=true then if (↑(Go.Proofs.YtonmnfkibnflnaaGreat.R.AZ (AG (AF (AG (AF y) / AG (AF (↑(AY 0 (Ag (F.sl 3 (Ar [AF x,AF y,AF w])))):Int))))).natAbs):Int) > (↑(Go.Proofs.YtonmnfkibnflnaaGreat.R.AZ (AG (AF (AG (AF x) / AG (AF (↑(AY 0 (Ag (F.sl 3 (Ar [AF x,AF y,AF w])))):Int))))).natAbs):Int) then (↑(Go.Proofs.YtonmnfkibnflnaaGreat.R.AZ (AG (AF (AG (AF y) / AG (AF (↑(AY 0 (Ag (F.sl 3 (Ar [AF x,AF y,AF w])))):Int))))).natAbs):Int) else (↑(Go.Proofs.YtonmnfkibnflnaaGreat.R.AZ (AG (AF (AG (AF x) / AG (AF (↑(AY 0 (Ag (F.sl 3 (Ar [AF x,AF y,AF w])))):Int))))).natAbs):Int) else if (↑(Go.Proofs.YtonmnfkibnflnaaGreat.R.AZ (AG (AF (AG (AF y) / AG (AF (↑(AY 0 (Ag (F.sl 3 (Ar [AF x,AF y,AF w])))):Int))))).natAbs):Int)<(↑(Go.Proofs.YtonmnfkibnflnaaGreat.R.AZ (AG (AF (AG (AF x) / AG (AF (↑(AY 0 (Ag (F.sl 3 (Ar [AF x,AF y,AF w])))):Int))))).natAbs):Int) then (↑(Go.Proofs.YtonmnfkibnflnaaGreat.R.AZ (AG (AF (AG (AF y) / AG (AF (↑(AY 0 (Ag (F.sl 3 (Ar [AF x,AF y,AF w])))):Int))))).natAbs):Int) else (↑(Go.Proofs.YtonmnfkibnflnaaGreat.R.AZ (AG (AF (AG (AF x) / AG (AF (↑(AY 0 (Ag (F.sl 3 (Ar [AF x,AF y,AF w])))):Int))))).natAbs):Int) then (↑(Go.Proofs.YtonmnfkibnflnaaGreat.R.AZ (AG (AF (AG (AF w) / AG (AF (↑(AY 0 (Ag (F.sl 3 (Ar [AF x,AF y,AF w])))):Int))))).natAbs):Int) else if true=true then if (↑(Go.Proofs.YtonmnfkibnflnaaGreat.R.AZ (AG (AF (AG (AF y) / AG (AF (↑(AY 0 (Ag (F.sl 3 (Ar [AF x,AF y,AF w])))):Int))))).natAbs):Int) > (↑(Go.Proofs.YtonmnfkibnflnaaGreat.R.AZ (AG (AF (AG (AF x) / AG (AF (↑(AY 0 (Ag (F.sl 3 (Ar [AF x,AF y,AF w])))):Int))))).natAbs):Int) then (↑(Go.Proofs.YtonmnfkibnflnaaGreat.R.AZ (AG (AF (AG (AF y) / AG (AF (↑(AY 0 (Ag (F.sl 3 (Ar [AF x,AF y,AF w])))):Int))))).natAbs):Int) else (↑(Go.Proofs.YtonmnfkibnflnaaGreat.R.AZ (AG (AF (AG (AF x) / AG (AF (↑(AY 0 (Ag (F.sl 3 (Ar [AF x,AF y,AF w])))):Int))))).natAbs):Int) else if (↑(Go.Proofs.YtonmnfkibnflnaaGreat.R.AZ (AG (AF (AG (AF y) / AG (AF (↑(AY 0 (Ag (F.sl 3 (Ar [AF x,AF y,AF w])))):Int))))).natAbs):Int)<(↑(Go.Proofs.YtonmnfkibnflnaaGreat.R.AZ (AG (AF (AG (AF x) / AG (AF (↑(AY 0 (Ag (F.sl 3 (Ar [AF x,AF y,AF w])))):Int))))).natAbs):Int) then (↑(Go.Proofs.YtonmnfkibnflnaaGreat.R.AZ (AG (AF (AG (AF y) / AG (AF (↑(AY 0 (Ag (F.sl 3 (Ar [AF x,AF y,AF w])))):Int))))).natAbs):Int) else (↑(Go.Proofs.YtonmnfkibnflnaaGreat.R.AZ (AG (AF (AG (AF x) / AG (AF (↑(AY 0 (Ag (F.sl 3 (Ar [AF x,AF y,AF w])))):Int))))).natAbs):Int) else if (↑(Go.Proofs.YtonmnfkibnflnaaGreat.R.AZ (AG (AF (AG (AF w) / AG (AF (↑(AY 0 (Ag (F.sl 3 (Ar [AF x,AF y,AF w])))):Int))))).natAbs):Int)<if true=true then if (↑(Go.Proofs.YtonmnfkibnflnaaGreat.R.AZ (AG (AF (AG (AF y) / AG (AF (↑(AY 0 (Ag (F.sl 3 (Ar [AF x,AF y,AF w])))):Int))))).natAbs):Int) > (↑(Go.Proofs.YtonmnfkibnflnaaGreat.R.AZ (AG (AF (AG (AF x) / AG (AF (↑(AY 0 (Ag (F.sl 3 (Ar [AF x,AF y,AF w])))):Int))))).natAbs):Int) then (↑(Go.Proofs.YtonmnfkibnflnaaGreat.R.AZ (AG (AF (AG (AF y) / AG (AF (↑(AY 0 (Ag (F.sl 3 (Ar [AF x,AF y,AF w])))):Int))))).natAbs):Int) else (↑(Go.Proofs.YtonmnfkibnflnaaGreat.R.AZ (AG (AF (AG (AF x) / AG (AF (↑(AY 0 (Ag (F.sl 3 (Ar [AF x,AF y,AF w])))):Int))))).natAbs):Int) else if (↑(Go.Proofs.YtonmnfkibnflnaaGreat.R.AZ (AG (AF (AG (AF y) / AG (AF (↑(AY 0 (Ag (F.sl 3 (Ar [AF x,AF y,AF w])))):Int))))).natAbs):Int)<(↑(Go.Proofs.YtonmnfkibnflnaaGreat.R.AZ (AG (AF (AG (AF x) / AG (AF (↑(AY 0 (Ag (F.sl 3 (Ar [AF x,AF y,AF w])))):Int))))).natAbs):Int) then (↑(Go.Proofs.YtonmnfkibnflnaaGreat.R.AZ (AG (AF (AG (AF y) / AG (AF (↑(AY 0 (Ag (F.sl 3 (Ar [AF x,AF y,AF w])))):Int))))).natAbs):Int) else (↑(Go.Proofs.YtonmnfkibnflnaaGreat.R.AZ (AG (AF (AG (AF x) / AG (AF (↑(AY 0 (Ag (F.sl 3 (Ar [AF x,AF y,AF w])))):Int))))).natAbs):Int) then (↑(Go.Proofs.YtonmnfkibnflnaaGreat.R.AZ (AG (AF (AG (AF w) / AG (AF (↑(AY 0 (Ag (F.sl 3 (Ar [AF x,AF y,AF w])))):Int))))).natAbs):Int) else if true=true then if (↑(Go.Proofs.YtonmnfkibnflnaaGreat.R.AZ (AG (AF (AG (AF y) / AG (AF (↑(AY 0 (Ag (F.sl 3 (Ar [AF x,AF y,AF w])))):Int))))).natAbs):Int) > (↑(Go.Proofs.YtonmnfkibnflnaaGreat.R.AZ (AG (AF (AG (AF x) / AG (AF (↑(AY 0 (Ag (F.sl 3 (Ar [AF x,AF y,AF w])))):Int))))).natAbs):Int) then (↑(Go.Proofs.YtonmnfkibnflnaaGreat.R.AZ (AG (AF (AG (AF y) / AG (AF (↑(AY 0 (Ag (F.sl 3 (Ar [AF x,AF y,AF w])))):Int))))).natAbs):Int) else (↑(Go.Proofs.YtonmnfkibnflnaaGreat.R.AZ (AG (AF (AG (AF x) / AG (AF (↑(AY 0 (Ag (F.sl 3 (Ar [AF x,AF y,AF w])))):Int))))).natAbs):Int) else if (↑(Go.Proofs.YtonmnfkibnflnaaGreat.R.AZ (AG (AF (AG (AF y) / AG (AF (↑(AY 0 (Ag (F.sl 3 (Ar [AF x,AF y,AF w])))):Int))))).natAbs):Int)<(↑(Go.Proofs.YtonmnfkibnflnaaGreat.R.AZ (AG (AF (AG (AF x) / AG (AF (↑(AY 0 (Ag (F.sl 3 (Ar [AF x,AF y,AF w])))):Int))))).natAbs):Int) then (↑(Go.Proofs.YtonmnfkibnflnaaGreat.R.AZ (AG (AF (AG (AF y) / AG (AF (↑(AY 0 (Ag (F.sl 3 (Ar [AF x,AF y,AF w])))):Int))))).natAbs):Int) else (↑(Go.Proofs.YtonmnfkibnflnaaGreat.R.AZ (AG (AF (AG (AF x) / AG (AF (↑(AY 0 (Ag (F.sl 3 (Ar [AF x,AF y,AF w])))):Int))))).natAbs):Int)) > 80))
 (ret (F.tup [F.agg [F.int .u64 0,F.int .u64 0,F.int .u64 0,F.int .u64 0,F.int .u64 0,F.int .u64 0,F.int .u64 0,F.int .u64 0,F.int .u64 0,F.int .u64 0,F.int .u64 0,F.int .u64 0],F.bool false]))
 (AD (Aq 399 (AF (AG (AF x) / AG (AF (↑(AY 0 (Ag (F.sl 3 (Ar [AF x,AF y,AF w])))):Int)))))
 (AD (Aq 399 (AF (AG (AF y) / AG (AF (↑(AY 0 (Ag (F.sl 3 (Ar [AF x,AF y,AF w])))):Int)))))
 (AD (Aq 399 (AF (AG (AF w) / AG (AF (↑(AY 0 (Ag (F.sl 3 (Ar [AF x,AF y,AF w])))):Int)))))
 (ret (F.tup [F.agg [F.int .u64 (wd3 (AG (AF (AG (AF x) / AG (AF (↑(AY 0 (Ag (F.sl 3 (Ar [AF x,AF y,AF w])))):Int)))))),F.int .u64 (wd2 (AG (AF (AG (AF x) / AG (AF (↑(AY 0 (Ag (F.sl 3 (Ar [AF x,AF y,AF w])))):Int)))))),F.int .u64 (wd1 (AG (AF (AG (AF x) / AG (AF (↑(AY 0 (Ag (F.sl 3 (Ar [AF x,AF y,AF w])))):Int)))))),F.int .u64 (wd0 (AG (AF (AG (AF x) / AG (AF (↑(AY 0 (Ag (F.sl 3 (Ar [AF x,AF y,AF w])))):Int)))))),F.int .u64 (wd3 (AG (AF (AG (AF y) / AG (AF (↑(AY 0 (Ag (F.sl 3 (Ar [AF x,AF y,AF w])))):Int)))))),F.int .u64 (wd2 (AG (AF (AG (AF y) / AG (AF (↑(AY 0 (Ag (F.sl 3 (Ar [AF x,AF y,AF w])))):Int)))))),F.int .u64 (wd1 (AG (AF (AG (AF y) / AG (AF (↑(AY 0 (Ag (F.sl 3 (Ar [AF x,AF y,AF w])))):Int)))))),F.int .u64 (wd0 (AG (AF (AG (AF y) / AG (AF (↑(AY 0 (Ag (F.sl 3 (Ar [AF x,AF y,AF w])))):Int)))))),F.int .u64 (wd3 (AG (AF (AG (AF w) / AG (AF (↑(AY 0 (Ag (F.sl 3 (Ar [AF x,AF y,AF w])))):Int)))))),F.int .u64 (wd2 (AG (AF (AG (AF w) / AG (AF (↑(AY 0 (Ag (F.sl 3 (Ar [AF x,AF y,AF w])))):Int)))))),F.int .u64 (wd1 (AG (AF (AG (AF w) / AG (AF (↑(AY 0 (Ag (F.sl 3 (Ar [AF x,AF y,AF w])))):Int)))))),F.int .u64 (wd0 (AG (AF (AG (AF w) / AG (AF (↑(AY 0 (Ag (F.sl 3 (Ar [AF x,AF y,AF w])))):Int))))))],F.bool true]))
 none)
 none)
 none))
 none)
 none)
 none)
 none)
 none)
 none))
 none))
 none)
def G53 (x:Int) (y:Int) (w:Int):Option (F):=T53 some x y w
theorem t53 (x:Int) (y:Int) (w:Int) (r:F) (h:G53 x y w=some r):AX Tryz.prog Tryz.f53.results.toList [.code (AT Tryz.f53)] (start Tryz.f53.ntmps ([F.agg [F.bool (decide (x<0)),AL (AM 18446744073709551616 x.natAbs),F.bool (decide (y<0)),AL (AM 18446744073709551616 y.natAbs),F.bool (decide (w<0)),AL (AM 18446744073709551616 w.natAbs)]].map .f)) (r):=by
 refine AX.of_run Au R8 (T:=[]) (n:=200) ?_
 refine gE (Y:=T53 (fun r=>some (.ret (r))) x y w) (by kernel_rfl) ?_
 exact (gS h (fun _ h=>(gS h (fun _ h=>gR (by cases h;rfl)) (fun _ h=>(gS h (fun _ h=>(gS h (fun _ h=>(gS h (fun _ h=>(gS h (fun _ h=>(gS h (fun _ h=>(gS h (fun _ h=>(gS h (fun _ h=>(gS h (fun _ h=>(gS h (fun _ h=>(gS h (fun _ h=>gR (by cases h;rfl)) (fun _ h=>(gS h (fun _ h=>(gS h (fun _ h=>(gS h (fun _ h=>gR (by cases h;rfl)) gN)) gN)) gN)))) gN)) gN)) gN)) gN)) gN)) gN)) gN)) (fun _ h=>(gS h (fun _ h=>(gS h (fun _ h=>(gS h (fun _ h=>(gS h (fun _ h=>(gS h (fun _ h=>(gS h (fun _ h=>(gS h (fun _ h=>gR (by cases h;rfl)) (fun _ h=>(gS h (fun _ h=>(gS h (fun _ h=>(gS h (fun _ h=>gR (by cases h;rfl)) gN)) gN)) gN)))) gN)) gN)) gN)) gN)) gN)) gN)))) gN)))) gN)
def ZK (X:Option F):Prop:=∃ (c0 c1 c2 c3 c4 c5 c6 c7 c8 c9 c10 c11:Int) (b:Bool),X=some (F.tup [.agg [.int .u64 c0,.int .u64 c1,.int .u64 c2,.int .u64 c3,.int .u64 c4,.int .u64 c5,.int .u64 c6,.int .u64 c7,.int .u64 c8,.int .u64 c9,.int .u64 c10,.int .u64 c11],.bool b])
theorem vL {c:Bool} {X Y:Option F} (h1:ZK X) (h2:ZK Y):ZK (AD c X Y):=by
 cases c
 ·exact h2
 ·exact h1
theorem Cu {x g:Int} {n:Nat} (h:x.natAbs<18446744073709551616 ^ n):(x / g).natAbs<18446744073709551616 ^ (n+1) :=
 Jp (Nat.lt_of_le_of_lt (Int.natAbs_ediv_le_natAbs x g) h) (by omega)
theorem lN {x y w:Int} (hx:x.natAbs<18446744073709551616 ^ 100) (hy:y.natAbs<18446744073709551616) (hw:w.natAbs<18446744073709551616):ZK (G53 x y w):=by
 have hy1:y.natAbs<18446744073709551616 ^ 1:=by rw [Nat.pow_one];exact hy
 have hw1:w.natAbs<18446744073709551616 ^ 1:=by rw [Nat.pow_one];exact hw
 have e1:Ag (F.sl 3 (Ar [AF x,AF y,AF w]))=[x,y,w]:=by
  show [AG (AF x),AG (AF y),AG (AF w)]=_
  rw [B4,B4,B4]
 have e0:LS 400 (F.sl 3 (Ar [AF x,AF y,AF w]))=true:=by
  simp only [LS,Dq,List.all_eq_true,List.mem_range]
  intro i hi
  match i,hi with
  | 0,_=>exact BL hx (by omega)
  | 1,_=>exact BL hy1 (by omega)
  | 2,_=>exact BL hw1 (by omega)
 have e2:ZX [x,y,w]=true:=VS.2 ⟨by simp,fun z hz=>by
  simp at hz
  rcases hz with rfl | rfl
  ·exact hy
  ·exact hw⟩
 have z:∀ {c0 c1 c2 c3 c4 c5 c6 c7 c8 c9 c10 c11:Int} {b:Bool},ZK (some (F.tup [.agg [.int .u64 c0,.int .u64 c1,.int .u64 c2,.int .u64 c3,.int .u64 c4,.int .u64 c5,.int .u64 c6,.int .u64 c7,.int .u64 c8,.int .u64 c9,.int .u64 c10,.int .u64 c11],.bool b])):=⟨_,_,_,_,_,_,_,_,_,_,_,_,_,rfl⟩
 unfold G53 T53
 simp only [e0,e1,e2,B4,BL hw1 (show 1≤400 by omega),Bool.and_self,AH]
 by_cases h0:w=0
 ·subst h0
  exact z
 ·have hs:(w.sign==0)=false:=by
   rw [Qx,beq_eq_false_iff_ne];exact h0
  have hg0:AY 0 [x,y,w] ≠ 0∧AY 0 [x,y,w]≤w.natAbs:=by
   have e:AY 0 [x,y,w]=Nat.gcd (Nat.gcd (Nat.gcd 0 x.natAbs) y.natAbs) w.natAbs:=rfl
   rw [e]
   have h1:=Nat.gcd_pos_of_pos_right (Nat.gcd (Nat.gcd 0 x.natAbs) y.natAbs) (show 0<w.natAbs by omega)
   have h2:=Nat.gcd_le_right (Nat.gcd (Nat.gcd 0 x.natAbs) y.natAbs) (show 0<w.natAbs by omega)
   omega
  generalize AY 0 [x,y,w]=g at hg0
  have hg1:((g:Nat):Int).natAbs<18446744073709551616 ^ 1:=by rw [Nat.pow_one];omega
  have hm1:(-((g:Nat):Int)).natAbs<18446744073709551616 ^ 1:=by rw [Nat.pow_one];omega
  have o1:∀ x:Int,KB x (g:Int)=true:=fun x=>HE.2 ⟨by omega,.inl (by omega)⟩
  have o2:∀ x:Int,KB x (-(g:Int))=true:=fun x=>HE.2 ⟨by omega,.inl (by omega)⟩
  rw [hs,AJ]
  refine vL ?_ ?_
  ·simp only [BL hg1 (show 1≤400 by omega),BL hx (show 100≤399 by omega),BL hy1 (show 1≤399 by omega),BL hw1 (show 1≤399 by omega),BL hm1 (show 1≤399 by omega),o2,BL (Cu (g:=-(g:Int)) hx) (show 100+1≤400 by omega),BL (Cu (g:=-(g:Int)) hy1) (show 1+1≤400 by omega),BL (Cu (g:=-(g:Int)) hw1) (show 1+1≤400 by omega),
    BL (Cu (g:=-(g:Int)) hx) (show 100+1≤399 by omega),BL (Cu (g:=-(g:Int)) hy1) (show 1+1≤399 by omega),BL (Cu (g:=-(g:Int)) hw1) (show 1+1≤399 by omega),Bool.and_self,AH]
   exact vL z z
  ·simp only [BL hg1 (show 1≤399 by omega),BL hx (show 100≤399 by omega),BL hy1 (show 1≤399 by omega),BL hw1 (show 1≤399 by omega),o1,BL (Cu (g:=(g:Int)) hx) (show 100+1≤400 by omega),BL (Cu (g:=(g:Int)) hy1) (show 1+1≤400 by omega),BL (Cu (g:=(g:Int)) hw1) (show 1+1≤400 by omega),
    BL (Cu (g:=(g:Int)) hx) (show 100+1≤399 by omega),BL (Cu (g:=(g:Int)) hy1) (show 1+1≤399 by omega),BL (Cu (g:=(g:Int)) hw1) (show 1+1≤399 by omega),Bool.and_self,AH]
   exact vL z z
def A8 (x y w:Int):F:=.agg [.bool (decide (x<0)),AL (AM 18446744073709551616 x.natAbs),.bool (decide (y<0)),AL (AM 18446744073709551616 y.natAbs),.bool (decide (w<0)),AL (AM 18446744073709551616 w.natAbs)]
def HK (n:Nat):F→Bool | .agg [a,b,c,d,e,f]=>Aq n (.agg [a,b])&&(Aq n (.agg [c,d])&&Aq n (.agg [e,f])) | _=>false
def Cb:F→Int | .agg [a,b,_,_,_,_]=>AG (.agg [a,b]) | _=>0
def Ca:F→Int | .agg [_,_,c,d,_,_]=>AG (.agg [c,d]) | _=>0
def Cc:F→Int | .agg [_,_,_,_,e,f]=>AG (.agg [e,f]) | _=>0
theorem S6 {n:Nat} {x y w:Int} (hx:x.natAbs<18446744073709551616 ^ n) (hy:y.natAbs<18446744073709551616 ^ n) (hw:w.natAbs<18446744073709551616 ^ n):HK n (A8 x y w)=true:=by
 have h1:=B6 hx
 have h2:=B6 hy
 have h3:=B6 hw
 unfold AF at h1 h2 h3
 simp only [HK,A8,h1,h2,h3,Bool.and_self]
theorem lF {n:Nat} {x:F} (h:HK n x=true):FLe x (A8 (Cb x) (Ca x) (Cc x)):=by
 unfold HK at h
 split at h
 ·rename_i a b c d e f
  rw [Bool.and_eq_true,Bool.and_eq_true] at h
  obtain ⟨s,y,e1,hy,f1⟩:=LM h.1
  obtain ⟨t,z,e2,hz,f2⟩:=LM h.2.1
  obtain ⟨r,o,e3,ho,f3⟩:=LM h.2.2
  cases e1;cases e2;cases e3
  have g:A8 (Cb (.agg [.bool s,b,.bool t,d,.bool r,f])) (Ca (.agg [.bool s,b,.bool t,d,.bool r,f])) (Cc (.agg [.bool s,b,.bool t,d,.bool r,f]))=.agg [.bool s,AL (AS b),.bool t,AL (AS d),.bool r,AL (AS f)]:=by
   unfold AF at f1 f2 f3
   injection f1 with f1
   injection f2 with f2
   injection f3 with f3
   simp only [List.cons.injEq,and_true] at f1 f2 f3
   show F.agg [_,_,_,_,_,_]=_
   rw [show Cb (.agg [.bool s,b,.bool t,d,.bool r,f])=AG (.agg [.bool s,b]) from rfl,show Ca (.agg [.bool s,b,.bool t,d,.bool r,f])=AG (.agg [.bool t,d]) from rfl,show Cc (.agg [.bool s,b,.bool t,d,.bool r,f])=AG (.agg [.bool r,f]) from rfl,f1.1,f1.2,f2.1,f2.2,f3.1,f3.2]
  rw [g]
  exact FLe.agg ⟨.refl _,(CC hy).1,.refl _,(CC hz).1,.refl _,(CC ho).1,trivial⟩
 ·cases h
theorem Xy {n:Nat} {x:F} (h:HK n x=true):(Cb x).natAbs<18446744073709551616 ^ n∧(Ca x).natAbs<18446744073709551616 ^ n∧(Cc x).natAbs<18446744073709551616 ^ n:=by
 unfold HK at h
 split at h
 ·rw [Bool.and_eq_true,Bool.and_eq_true] at h
  exact ⟨BA h.1,BA h.2.1,BA h.2.2⟩
 ·cases h
def intAt (l:List F) (i:Nat):Int:=match l[i]? with | some (.int _ n)=>n | _=>0
def Cz (i:Nat) (x y w:Int):Int:=match G53 x y w with | some (.tup [.agg l,_])=>intAt l i | _=>0
def Nr (x y w:Int):Bool:=match G53 x y w with | some (.tup [_,.bool b])=>b | _=>false
def Yk:List F→Bool | [x]=>HK 1 x | _=>false
def YL:List F→F | [x]=>.tup [.agg [.int .u64 (Cz 0 (Cb x) (Ca x) (Cc x)),.int .u64 (Cz 1 (Cb x) (Ca x) (Cc x)),.int .u64 (Cz 2 (Cb x) (Ca x) (Cc x)),.int .u64 (Cz 3 (Cb x) (Ca x) (Cc x)),.int .u64 (Cz 4 (Cb x) (Ca x) (Cc x)),.int .u64 (Cz 5 (Cb x) (Ca x) (Cc x)),.int .u64 (Cz 6 (Cb x) (Ca x) (Cc x)),.int .u64 (Cz 7 (Cb x) (Ca x) (Cc x)),.int .u64 (Cz 8 (Cb x) (Ca x) (Cc x)),.int .u64 (Cz 9 (Cb x) (Ca x) (Cc x)),.int .u64 (Cz 10 (Cb x) (Ca x) (Cc x)),.int .u64 (Cz 11 (Cb x) (Ca x) (Cc x))],.bool (Nr (Cb x) (Ca x) (Cc x))] | _=>.dflt
theorem okPoint:Ak Tryz.prog 53 Yk YL :=
 Ad (c:=AT Tryz.f53) Tryz.func53 (by kernel_rfl) (by kernel_rfl) fun xs hp=>match xs,hp with
 | [x],hp=>by
  obtain ⟨b1,b2,b3⟩:=Xy (n:=1) hp
  obtain ⟨c0,c1,c2,c3,c4,c5,c6,c7,c8,c9,c10,c11,b,e⟩:=lN (x:=Cb x) (y:=Ca x) (w:=Cc x) (Jp b1 (show 1≤100 by omega)) (by rwa [Nat.pow_one] at b2) (by rwa [Nat.pow_one] at b3)
  refine ⟨[A8 (Cb x) (Ca x) (Cc x)],_,⟨lF hp,trivial⟩,t53 _ _ _ _ e,?_⟩
  have e2:Nr (Cb x) (Ca x) (Cc x)=b:=by unfold Nr;rw [e]
  show FLe _ (.tup [.agg [.int .u64 (Cz 0 (Cb x) (Ca x) (Cc x)),.int .u64 (Cz 1 (Cb x) (Ca x) (Cc x)),.int .u64 (Cz 2 (Cb x) (Ca x) (Cc x)),.int .u64 (Cz 3 (Cb x) (Ca x) (Cc x)),.int .u64 (Cz 4 (Cb x) (Ca x) (Cc x)),.int .u64 (Cz 5 (Cb x) (Ca x) (Cc x)),.int .u64 (Cz 6 (Cb x) (Ca x) (Cc x)),.int .u64 (Cz 7 (Cb x) (Ca x) (Cc x)),.int .u64 (Cz 8 (Cb x) (Ca x) (Cc x)),.int .u64 (Cz 9 (Cb x) (Ca x) (Cc x)),.int .u64 (Cz 10 (Cb x) (Ca x) (Cc x)),.int .u64 (Cz 11 (Cb x) (Ca x) (Cc x))],.bool (Nr (Cb x) (Ca x) (Cc x))])
  simp only [Cz,e2,e]
  exact .refl _
def envH7:Env:=(envH6.add 79 (.pure cN gY)).add 53 (.pure Yk YL)
theorem Zv:Az Tryz.prog envH7:=(Env.add_ok (Env.add_ok R8 okCmpP.sp) okPoint.sp)
end
noncomputable section
theorem Bx {z:Int} (h:Ae z=true):EC z=true:=by
 have:=Bd.1 h
 rw [EV]
 omega
theorem Wi:Ae 1=true:=by decide
theorem Tr {x y:Int} (hx:Ae x=true) (hy:Ae y=true):EL (wd3 x) (wd2 x) (wd1 x) (wd0 x) (wd3 y) (wd2 y) (wd1 y) (wd0 y) (wd3 1) (wd2 1) (wd1 1) (wd0 1)=true:=by
 unfold EL
 rw [(CQ (Bx hx)).2,(CQ (Bx hy)).2,(CQ (Bx Wi)).2]
 rfl
/-! ### function 46 -/
def T46 {ρ:Type} (ret:(F)→Option ρ) :Option ρ :=
 (ret (F.tup [F.int .i64 0,F.agg [F.int .u64 0,F.int .u64 0,F.int .u64 0,F.int .u64 0,F.int .u64 0,F.int .u64 0,F.int .u64 0,F.int .u64 0,F.int .u64 0,F.int .u64 0,F.int .u64 0,F.int .u64 0],F.agg [F.int .u64 0,F.int .u64 0,F.int .u64 0,F.int .u64 0,F.int .u64 0,F.int .u64 0,F.int .u64 0,F.int .u64 0,F.int .u64 0,F.int .u64 0,F.int .u64 0,F.int .u64 0]]))
def G46 :Option (F):=T46 some
theorem t46  (r:F) (h:G46 =some r):AX Tryz.prog Tryz.f46.results.toList [.code (AT Tryz.f46)] (start Tryz.f46.ntmps ([].map .f)) (r):=by
 refine AX.of_run Au Zv (T:=[]) (n:=200) ?_
 refine gE (Y:=T46 (fun r=>some (.ret (r))) ) (by kernel_rfl) ?_
 exact gR (by cases h;rfl)
def iD:List F→Bool | []=>true | _=>false
def gI:List F→F:=fun _=>.tup [.int .i64 0,.agg [.int .u64 0,.int .u64 0,.int .u64 0,.int .u64 0,.int .u64 0,.int .u64 0,.int .u64 0,.int .u64 0,.int .u64 0,.int .u64 0,.int .u64 0,.int .u64 0],.agg [.int .u64 0,.int .u64 0,.int .u64 0,.int .u64 0,.int .u64 0,.int .u64 0,.int .u64 0,.int .u64 0,.int .u64 0,.int .u64 0,.int .u64 0,.int .u64 0]]
theorem okNone:Ak Tryz.prog 46 iD gI :=
 B2 (c:=AT Tryz.f46) Tryz.func46 (by kernel_rfl) (by kernel_rfl) fun xs hp=>match xs,hp with
 | [],hp=>t46 _ rfl
def vC:Env:=envH7.add 46 (.pure iD gI)
theorem R7:Az Tryz.prog vC:=(Env.add_ok Zv okNone.sp)
end
noncomputable section
set_option maxHeartbeats 2000000
/-! ### function 34 -/
def T34 {ρ:Type} (ret:(F)→Option ρ) (x0:Int) (y0:Int) (x1:Int) (y1:Int) (u0:Int) (v0:Int) (u1:Int) (v1:Int):Option ρ :=
 (AD (decide ((if true=true then if u0 > x0 then u0 else x0 else if u0<x0 then u0 else x0) > if false=true then if u1 > x1 then u1 else x1 else if u1<x1 then u1 else x1)==false)
 (AD (decide ((if true=true then if (if false=true then if v1 > v0 then v1 else v0 else if v1<v0 then v1 else v0) > if false=true then if y1 > y0 then y1 else y0 else if y1<y0 then y1 else y0 then if false=true then if v1 > v0 then v1 else v0 else if v1<v0 then v1 else v0 else if false=true then if y1 > y0 then y1 else y0 else if y1<y0 then y1 else y0 else if (if false=true then if v1 > v0 then v1 else v0 else if v1<v0 then v1 else v0)<if false=true then if y1 > y0 then y1 else y0 else if y1<y0 then y1 else y0 then if false=true then if v1 > v0 then v1 else v0 else if v1<v0 then v1 else v0 else if false=true then if y1 > y0 then y1 else y0 else if y1<y0 then y1 else y0) > if false=true then if (if true=true then if v1 > v0 then v1 else v0 else if v1<v0 then v1 else v0) > if true=true then if y1 > y0 then y1 else y0 else if y1<y0 then y1 else y0 then if true=true then if v1 > v0 then v1 else v0 else if v1<v0 then v1 else v0 else if true=true then if y1 > y0 then y1 else y0 else if y1<y0 then y1 else y0 else if (if true=true then if v1 > v0 then v1 else v0 else if v1<v0 then v1 else v0)<if true=true then if y1 > y0 then y1 else y0 else if y1<y0 then y1 else y0 then if true=true then if v1 > v0 then v1 else v0 else if v1<v0 then v1 else v0 else if true=true then if y1 > y0 then y1 else y0 else if y1<y0 then y1 else y0))
 (ret (F.tup [F.int .i64 0,F.agg [F.int .u64 0,F.int .u64 0,F.int .u64 0,F.int .u64 0,F.int .u64 0,F.int .u64 0,F.int .u64 0,F.int .u64 0,F.int .u64 0,F.int .u64 0,F.int .u64 0,F.int .u64 0],F.agg [F.int .u64 0,F.int .u64 0,F.int .u64 0,F.int .u64 0,F.int .u64 0,F.int .u64 0,F.int .u64 0,F.int .u64 0,F.int .u64 0,F.int .u64 0,F.int .u64 0,F.int .u64 0]]))
 (AD ((AE x0 y0 x1 y1 u0 v0==0)==true)
 (AD (AE x0 y0 x1 y1 u1 v1==0)
 (AD (decide (I9 u0 v0 x0 y0 > 0))
 (AD (decide (I9 u1 v1 x1 y1<0))
 (AD (decide (I9 u0 v0 u1 v1 > 0))
 (ret (F.tup [F.int .i64 0,F.agg [F.int .u64 0,F.int .u64 0,F.int .u64 0,F.int .u64 0,F.int .u64 0,F.int .u64 0,F.int .u64 0,F.int .u64 0,F.int .u64 0,F.int .u64 0,F.int .u64 0,F.int .u64 0],F.agg [F.int .u64 0,F.int .u64 0,F.int .u64 0,F.int .u64 0,F.int .u64 0,F.int .u64 0,F.int .u64 0,F.int .u64 0,F.int .u64 0,F.int .u64 0,F.int .u64 0,F.int .u64 0]]))
 (AD (I9 u0 v0 u1 v1==0)
 (AD (Ae u0&&Ae v0)
 (ret (F.tup [F.int .i64 1,F.agg [F.int .u64 (wd3 u0),F.int .u64 (wd2 u0),F.int .u64 (wd1 u0),F.int .u64 (wd0 u0),F.int .u64 (wd3 v0),F.int .u64 (wd2 v0),F.int .u64 (wd1 v0),F.int .u64 (wd0 v0),F.int .u64 (wd3 1),F.int .u64 (wd2 1),F.int .u64 (wd1 1),F.int .u64 (wd0 1)],F.agg [F.int .u64 0,F.int .u64 0,F.int .u64 0,F.int .u64 0,F.int .u64 0,F.int .u64 0,F.int .u64 0,F.int .u64 0,F.int .u64 0,F.int .u64 0,F.int .u64 0,F.int .u64 0]]))
 none)
 (AD (Ae u0&&Ae v0)
 (AD (Ae u1&&Ae v1)
 (ret (F.tup [F.int .i64 2,F.agg [F.int .u64 (wd3 u0),F.int .u64 (wd2 u0),F.int .u64 (wd1 u0),F.int .u64 (wd0 u0),F.int .u64 (wd3 v0),F.int .u64 (wd2 v0),F.int .u64 (wd1 v0),F.int .u64 (wd0 v0),F.int .u64 (wd3 1),F.int .u64 (wd2 1),F.int .u64 (wd1 1),F.int .u64 (wd0 1)],F.agg [F.int .u64 (wd3 u1),F.int .u64 (wd2 u1),F.int .u64 (wd1 u1),F.int .u64 (wd0 u1),F.int .u64 (wd3 v1),F.int .u64 (wd2 v1),F.int .u64 (wd1 v1),F.int .u64 (wd0 v1),F.int .u64 (wd3 1),F.int .u64 (wd2 1),F.int .u64 (wd1 1),F.int .u64 (wd0 1)]]))
 none)
 none)))
 (AD (decide (I9 u0 v0 x1 y1 > 0))
 (ret (F.tup [F.int .i64 0,F.agg [F.int .u64 0,F.int .u64 0,F.int .u64 0,F.int .u64 0,F.int .u64 0,F.int .u64 0,F.int .u64 0,F.int .u64 0,F.int .u64 0,F.int .u64 0,F.int .u64 0,F.int .u64 0],F.agg [F.int .u64 0,F.int .u64 0,F.int .u64 0,F.int .u64 0,F.int .u64 0,F.int .u64 0,F.int .u64 0,F.int .u64 0,F.int .u64 0,F.int .u64 0,F.int .u64 0,F.int .u64 0]]))
 (AD (I9 u0 v0 x1 y1==0)
 (AD (Ae u0&&Ae v0)
 (ret (F.tup [F.int .i64 1,F.agg [F.int .u64 (wd3 u0),F.int .u64 (wd2 u0),F.int .u64 (wd1 u0),F.int .u64 (wd0 u0),F.int .u64 (wd3 v0),F.int .u64 (wd2 v0),F.int .u64 (wd1 v0),F.int .u64 (wd0 v0),F.int .u64 (wd3 1),F.int .u64 (wd2 1),F.int .u64 (wd1 1),F.int .u64 (wd0 1)],F.agg [F.int .u64 0,F.int .u64 0,F.int .u64 0,F.int .u64 0,F.int .u64 0,F.int .u64 0,F.int .u64 0,F.int .u64 0,F.int .u64 0,F.int .u64 0,F.int .u64 0,F.int .u64 0]]))
 none)
 (AD (Ae u0&&Ae v0)
 (AD (Ae x1&&Ae y1)
 (ret (F.tup [F.int .i64 2,F.agg [F.int .u64 (wd3 u0),F.int .u64 (wd2 u0),F.int .u64 (wd1 u0),F.int .u64 (wd0 u0),F.int .u64 (wd3 v0),F.int .u64 (wd2 v0),F.int .u64 (wd1 v0),F.int .u64 (wd0 v0),F.int .u64 (wd3 1),F.int .u64 (wd2 1),F.int .u64 (wd1 1),F.int .u64 (wd0 1)],F.agg [F.int .u64 (wd3 x1),F.int .u64 (wd2 x1),F.int .u64 (wd1 x1),F.int .u64 (wd0 x1),F.int .u64 (wd3 y1),F.int .u64 (wd2 y1),F.int .u64 (wd1 y1),F.int .u64 (wd0 y1),F.int .u64 (wd3 1),F.int .u64 (wd2 1),F.int .u64 (wd1 1),F.int .u64 (wd0 1)]]))
 none)
 none))))
 (AD (decide (I9 u1 v1 x1 y1<0))
 (AD (decide (I9 x0 y0 u1 v1 > 0))
 (ret (F.tup [F.int .i64 0,F.agg [F.int .u64 0,F.int .u64 0,F.int .u64 0,F.int .u64 0,F.int .u64 0,F.int .u64 0,F.int .u64 0,F.int .u64 0,F.int .u64 0,F.int .u64 0,F.int .u64 0,F.int .u64 0],F.agg [F.int .u64 0,F.int .u64 0,F.int .u64 0,F.int .u64 0,F.int .u64 0,F.int .u64 0,F.int .u64 0,F.int .u64 0,F.int .u64 0,F.int .u64 0,F.int .u64 0,F.int .u64 0]]))
 (AD (I9 x0 y0 u1 v1==0)
 (AD (Ae x0&&Ae y0)
 (ret (F.tup [F.int .i64 1,F.agg [F.int .u64 (wd3 x0),F.int .u64 (wd2 x0),F.int .u64 (wd1 x0),F.int .u64 (wd0 x0),F.int .u64 (wd3 y0),F.int .u64 (wd2 y0),F.int .u64 (wd1 y0),F.int .u64 (wd0 y0),F.int .u64 (wd3 1),F.int .u64 (wd2 1),F.int .u64 (wd1 1),F.int .u64 (wd0 1)],F.agg [F.int .u64 0,F.int .u64 0,F.int .u64 0,F.int .u64 0,F.int .u64 0,F.int .u64 0,F.int .u64 0,F.int .u64 0,F.int .u64 0,F.int .u64 0,F.int .u64 0,F.int .u64 0]]))
 none)
 (AD (Ae x0&&Ae y0)
 (AD (Ae u1&&Ae v1)
 (ret (F.tup [F.int .i64 2,F.agg [F.int .u64 (wd3 x0),F.int .u64 (wd2 x0),F.int .u64 (wd1 x0),F.int .u64 (wd0 x0),F.int .u64 (wd3 y0),F.int .u64 (wd2 y0),F.int .u64 (wd1 y0),F.int .u64 (wd0 y0),F.int .u64 (wd3 1),F.int .u64 (wd2 1),F.int .u64 (wd1 1),F.int .u64 (wd0 1)],F.agg [F.int .u64 (wd3 u1),F.int .u64 (wd2 u1),F.int .u64 (wd1 u1),F.int .u64 (wd0 u1),F.int .u64 (wd3 v1),F.int .u64 (wd2 v1),F.int .u64 (wd1 v1),F.int .u64 (wd0 v1),F.int .u64 (wd3 1),F.int .u64 (wd2 1),F.int .u64 (wd1 1),F.int .u64 (wd0 1)]]))
 none)
 none)))
 (AD (decide (I9 x0 y0 x1 y1 > 0))
 (ret (F.tup [F.int .i64 0,F.agg [F.int .u64 0,F.int .u64 0,F.int .u64 0,F.int .u64 0,F.int .u64 0,F.int .u64 0,F.int .u64 0,F.int .u64 0,F.int .u64 0,F.int .u64 0,F.int .u64 0,F.int .u64 0],F.agg [F.int .u64 0,F.int .u64 0,F.int .u64 0,F.int .u64 0,F.int .u64 0,F.int .u64 0,F.int .u64 0,F.int .u64 0,F.int .u64 0,F.int .u64 0,F.int .u64 0,F.int .u64 0]]))
 (AD (I9 x0 y0 x1 y1==0)
 (AD (Ae x0&&Ae y0)
 (ret (F.tup [F.int .i64 1,F.agg [F.int .u64 (wd3 x0),F.int .u64 (wd2 x0),F.int .u64 (wd1 x0),F.int .u64 (wd0 x0),F.int .u64 (wd3 y0),F.int .u64 (wd2 y0),F.int .u64 (wd1 y0),F.int .u64 (wd0 y0),F.int .u64 (wd3 1),F.int .u64 (wd2 1),F.int .u64 (wd1 1),F.int .u64 (wd0 1)],F.agg [F.int .u64 0,F.int .u64 0,F.int .u64 0,F.int .u64 0,F.int .u64 0,F.int .u64 0,F.int .u64 0,F.int .u64 0,F.int .u64 0,F.int .u64 0,F.int .u64 0,F.int .u64 0]]))
 none)
 (AD (Ae x0&&Ae y0)
 (AD (Ae x1&&Ae y1)
 (ret (F.tup [F.int .i64 2,F.agg [F.int .u64 (wd3 x0),F.int .u64 (wd2 x0),F.int .u64 (wd1 x0),F.int .u64 (wd0 x0),F.int .u64 (wd3 y0),F.int .u64 (wd2 y0),F.int .u64 (wd1 y0),F.int .u64 (wd0 y0),F.int .u64 (wd3 1),F.int .u64 (wd2 1),F.int .u64 (wd1 1),F.int .u64 (wd0 1)],F.agg [F.int .u64 (wd3 x1),F.int .u64 (wd2 x1),F.int .u64 (wd1 x1),F.int .u64 (wd0 x1),F.int .u64 (wd3 y1),F.int .u64 (wd2 y1),F.int .u64 (wd1 y1),F.int .u64 (wd0 y1),F.int .u64 (wd3 1),F.int .u64 (wd2 1),F.int .u64 (wd1 1),F.int .u64 (wd0 1)]]))
 none)
 none)))))
 (AD (decide (IntKind.i64.wrap (IF (AE x0 y0 x1 y1 u0 v0)*IF (AE x0 y0 x1 y1 u1 v1)) > 0)==false)
 (AD (decide (IntKind.i64.wrap (IF (AE u0 v0 u1 v1 x0 y0)*IF (AE u0 v0 u1 v1 x1 y1)) > 0))
 (ret (F.tup [F.int .i64 0,F.agg [F.int .u64 0,F.int .u64 0,F.int .u64 0,F.int .u64 0,F.int .u64 0,F.int .u64 0,F.int .u64 0,F.int .u64 0,F.int .u64 0,F.int .u64 0,F.int .u64 0,F.int .u64 0],F.agg [F.int .u64 0,F.int .u64 0,F.int .u64 0,F.int .u64 0,F.int .u64 0,F.int .u64 0,F.int .u64 0,F.int .u64 0,F.int .u64 0,F.int .u64 0,F.int .u64 0,F.int .u64 0]]))
 (AD (Ae (IntKind.i64.wrap (AE x0 y0 x1 y1 u0 v0-AE x0 y0 x1 y1 u1 v1)))
 (AD (Ae u0)
 (AD (Aq 400 (AC [F.int .i64 u0])&&Aq 400 (AF (IntKind.i64.wrap (AE x0 y0 x1 y1 u0 v0-AE x0 y0 x1 y1 u1 v1))))
 (AD (Ae (AE x0 y0 x1 y1 u0 v0))
 (AD (Ae (IntKind.i64.wrap (u1-u0)))
 (AD (Aq 400 (AC [F.int .i64 (AE x0 y0 x1 y1 u0 v0)])&&Aq 400 (AC [F.int .i64 (IntKind.i64.wrap (u1-u0))]))
 (AD (Aq 400 (AN [AC [F.int .i64 u0],AF (IntKind.i64.wrap (AE x0 y0 x1 y1 u0 v0-AE x0 y0 x1 y1 u1 v1))])&&Aq 400 (AN [AC [F.int .i64 (AE x0 y0 x1 y1 u0 v0)],AC [F.int .i64 (IntKind.i64.wrap (u1-u0))]]))
 (AD (Ae v0)
 (AD (Aq 400 (AC [F.int .i64 v0])&&Aq 400 (AF (IntKind.i64.wrap (AE x0 y0 x1 y1 u0 v0-AE x0 y0 x1 y1 u1 v1))))
 (AD (Ae (AE x0 y0 x1 y1 u0 v0))
 (AD (Ae (IntKind.i64.wrap (v1-v0)))
 (AD (Aq 400 (AC [F.int .i64 (AE x0 y0 x1 y1 u0 v0)])&&Aq 400 (AC [F.int .i64 (IntKind.i64.wrap (v1-v0))]))
 (AD (Aq 400 (AN [AC [F.int .i64 v0],AF (IntKind.i64.wrap (AE x0 y0 x1 y1 u0 v0-AE x0 y0 x1 y1 u1 v1))])&&Aq 400 (AN [AC [F.int .i64 (AE x0 y0 x1 y1 u0 v0)],AC [F.int .i64 (IntKind.i64.wrap (v1-v0))]]))
 (AD (HK 1 (A8 (AG (AN [AC [F.int .i64 u0],AF (IntKind.i64.wrap (AE x0 y0 x1 y1 u0 v0-AE x0 y0 x1 y1 u1 v1))])+AG (AN [AC [F.int .i64 (AE x0 y0 x1 y1 u0 v0)],AC [F.int .i64 (IntKind.i64.wrap (u1-u0))]])) (AG (AN [AC [F.int .i64 v0],AF (IntKind.i64.wrap (AE x0 y0 x1 y1 u0 v0-AE x0 y0 x1 y1 u1 v1))])+AG (AN [AC [F.int .i64 (AE x0 y0 x1 y1 u0 v0)],AC [F.int .i64 (IntKind.i64.wrap (v1-v0))]])) (IntKind.i64.wrap (AE x0 y0 x1 y1 u0 v0-AE x0 y0 x1 y1 u1 v1))))
 (ret (F.tup [F.int .i64 1,F.agg [F.int .u64 (Cz 0 (Cb (A8 (AG (AN [AC [F.int .i64 u0],AF (IntKind.i64.wrap (AE x0 y0 x1 y1 u0 v0-AE x0 y0 x1 y1 u1 v1))])+AG (AN [AC [F.int .i64 (AE x0 y0 x1 y1 u0 v0)],AC [F.int .i64 (IntKind.i64.wrap (u1-u0))]])) (AG (AN [AC [F.int .i64 v0],AF (IntKind.i64.wrap (AE x0 y0 x1 y1 u0 v0-AE x0 y0 x1 y1 u1 v1))])+AG (AN [AC [F.int .i64 (AE x0 y0 x1 y1 u0 v0)],AC [F.int .i64 (IntKind.i64.wrap (v1-v0))]])) (IntKind.i64.wrap (AE x0 y0 x1 y1 u0 v0-AE x0 y0 x1 y1 u1 v1)))) (Ca (A8 (AG (AN [AC [F.int .i64 u0],AF (IntKind.i64.wrap (AE x0 y0 x1 y1 u0 v0-AE x0 y0 x1 y1 u1 v1))])+AG (AN [AC [F.int .i64 (AE x0 y0 x1 y1 u0 v0)],AC [F.int .i64 (IntKind.i64.wrap (u1-u0))]])) (AG (AN [AC [F.int .i64 v0],AF (IntKind.i64.wrap (AE x0 y0 x1 y1 u0 v0-AE x0 y0 x1 y1 u1 v1))])+AG (AN [AC [F.int .i64 (AE x0 y0 x1 y1 u0 v0)],AC [F.int .i64 (IntKind.i64.wrap (v1-v0))]])) (IntKind.i64.wrap (AE x0 y0 x1 y1 u0 v0-AE x0 y0 x1 y1 u1 v1)))) (Cc (A8 (AG (AN [AC [F.int .i64 u0],AF (IntKind.i64.wrap (AE x0 y0 x1 y1 u0 v0-AE x0 y0 x1 y1 u1 v1))])+AG (AN [AC [F.int .i64 (AE x0 y0 x1 y1 u0 v0)],AC [F.int .i64 (IntKind.i64.wrap (u1-u0))]])) (AG (AN [AC [F.int .i64 v0],AF (IntKind.i64.wrap (AE x0 y0 x1 y1 u0 v0-AE x0 y0 x1 y1 u1 v1))])+AG (AN [AC [F.int .i64 (AE x0 y0 x1 y1 u0 v0)],AC [F.int .i64 (IntKind.i64.wrap (v1-v0))]])) (IntKind.i64.wrap (AE x0 y0 x1 y1 u0 v0-AE x0 y0 x1 y1 u1 v1))))),F.int .u64 (Cz 1 (Cb (A8 (AG (AN [AC [F.int .i64 u0],AF (IntKind.i64.wrap (AE x0 y0 x1 y1 u0 v0-AE x0 y0 x1 y1 u1 v1))])+AG (AN [AC [F.int .i64 (AE x0 y0 x1 y1 u0 v0)],AC [F.int .i64 (IntKind.i64.wrap (u1-u0))]])) (AG (AN [AC [F.int .i64 v0],AF (IntKind.i64.wrap (AE x0 y0 x1 y1 u0 v0-AE x0 y0 x1 y1 u1 v1))])+AG (AN [AC [F.int .i64 (AE x0 y0 x1 y1 u0 v0)],AC [F.int .i64 (IntKind.i64.wrap (v1-v0))]])) (IntKind.i64.wrap (AE x0 y0 x1 y1 u0 v0-AE x0 y0 x1 y1 u1 v1)))) (Ca (A8 (AG (AN [AC [F.int .i64 u0],AF (IntKind.i64.wrap (AE x0 y0 x1 y1 u0 v0-AE x0 y0 x1 y1 u1 v1))])+AG (AN [AC [F.int .i64 (AE x0 y0 x1 y1 u0 v0)],AC [F.int .i64 (IntKind.i64.wrap (u1-u0))]])) (AG (AN [AC [F.int .i64 v0],AF (IntKind.i64.wrap (AE x0 y0 x1 y1 u0 v0-AE x0 y0 x1 y1 u1 v1))])+AG (AN [AC [F.int .i64 (AE x0 y0 x1 y1 u0 v0)],AC [F.int .i64 (IntKind.i64.wrap (v1-v0))]])) (IntKind.i64.wrap (AE x0 y0 x1 y1 u0 v0-AE x0 y0 x1 y1 u1 v1)))) (Cc (A8 (AG (AN [AC [F.int .i64 u0],AF (IntKind.i64.wrap (AE x0 y0 x1 y1 u0 v0-AE x0 y0 x1 y1 u1 v1))])+AG (AN [AC [F.int .i64 (AE x0 y0 x1 y1 u0 v0)],AC [F.int .i64 (IntKind.i64.wrap (u1-u0))]])) (AG (AN [AC [F.int .i64 v0],AF (IntKind.i64.wrap (AE x0 y0 x1 y1 u0 v0-AE x0 y0 x1 y1 u1 v1))])+AG (AN [AC [F.int .i64 (AE x0 y0 x1 y1 u0 v0)],AC [F.int .i64 (IntKind.i64.wrap (v1-v0))]])) (IntKind.i64.wrap (AE x0 y0 x1 y1 u0 v0-AE x0 y0 x1 y1 u1 v1))))),F.int .u64 (Cz 2 (Cb (A8 (AG (AN [AC [F.int .i64 u0],AF (IntKind.i64.wrap (AE x0 y0 x1 y1 u0 v0-AE x0 y0 x1 y1 u1 v1))])+AG (AN [AC [F.int .i64 (AE x0 y0 x1 y1 u0 v0)],AC [F.int .i64 (IntKind.i64.wrap (u1-u0))]])) (AG (AN [AC [F.int .i64 v0],AF (IntKind.i64.wrap (AE x0 y0 x1 y1 u0 v0-AE x0 y0 x1 y1 u1 v1))])+AG (AN [AC [F.int .i64 (AE x0 y0 x1 y1 u0 v0)],AC [F.int .i64 (IntKind.i64.wrap (v1-v0))]])) (IntKind.i64.wrap (AE x0 y0 x1 y1 u0 v0-AE x0 y0 x1 y1 u1 v1)))) (Ca (A8 (AG (AN [AC [F.int .i64 u0],AF (IntKind.i64.wrap (AE x0 y0 x1 y1 u0 v0-AE x0 y0 x1 y1 u1 v1))])+AG (AN [AC [F.int .i64 (AE x0 y0 x1 y1 u0 v0)],AC [F.int .i64 (IntKind.i64.wrap (u1-u0))]])) (AG (AN [AC [F.int .i64 v0],AF (IntKind.i64.wrap (AE x0 y0 x1 y1 u0 v0-AE x0 y0 x1 y1 u1 v1))])+AG (AN [AC [F.int .i64 (AE x0 y0 x1 y1 u0 v0)],AC [F.int .i64 (IntKind.i64.wrap (v1-v0))]])) (IntKind.i64.wrap (AE x0 y0 x1 y1 u0 v0-AE x0 y0 x1 y1 u1 v1)))) (Cc (A8 (AG (AN [AC [F.int .i64 u0],AF (IntKind.i64.wrap (AE x0 y0 x1 y1 u0 v0-AE x0 y0 x1 y1 u1 v1))])+AG (AN [AC [F.int .i64 (AE x0 y0 x1 y1 u0 v0)],AC [F.int .i64 (IntKind.i64.wrap (u1-u0))]])) (AG (AN [AC [F.int .i64 v0],AF (IntKind.i64.wrap (AE x0 y0 x1 y1 u0 v0-AE x0 y0 x1 y1 u1 v1))])+AG (AN [AC [F.int .i64 (AE x0 y0 x1 y1 u0 v0)],AC [F.int .i64 (IntKind.i64.wrap (v1-v0))]])) (IntKind.i64.wrap (AE x0 y0 x1 y1 u0 v0-AE x0 y0 x1 y1 u1 v1))))),F.int .u64 (Cz 3 (Cb (A8 (AG (AN [AC [F.int .i64 u0],AF (IntKind.i64.wrap (AE x0 y0 x1 y1 u0 v0-AE x0 y0 x1 y1 u1 v1))])+AG (AN [AC [F.int .i64 (AE x0 y0 x1 y1 u0 v0)],AC [F.int .i64 (IntKind.i64.wrap (u1-u0))]])) (AG (AN [AC [F.int .i64 v0],AF (IntKind.i64.wrap (AE x0 y0 x1 y1 u0 v0-AE x0 y0 x1 y1 u1 v1))])+AG (AN [AC [F.int .i64 (AE x0 y0 x1 y1 u0 v0)],AC [F.int .i64 (IntKind.i64.wrap (v1-v0))]])) (IntKind.i64.wrap (AE x0 y0 x1 y1 u0 v0-AE x0 y0 x1 y1 u1 v1)))) (Ca (A8 (AG (AN [AC [F.int .i64 u0],AF (IntKind.i64.wrap (AE x0 y0 x1 y1 u0 v0-AE x0 y0 x1 y1 u1 v1))])+AG (AN [AC [F.int .i64 (AE x0 y0 x1 y1 u0 v0)],AC [F.int .i64 (IntKind.i64.wrap (u1-u0))]])) (AG (AN [AC [F.int .i64 v0],AF (IntKind.i64.wrap (AE x0 y0 x1 y1 u0 v0-AE x0 y0 x1 y1 u1 v1))])+AG (AN [AC [F.int .i64 (AE x0 y0 x1 y1 u0 v0)],AC [F.int .i64 (IntKind.i64.wrap (v1-v0))]])) (IntKind.i64.wrap (AE x0 y0 x1 y1 u0 v0-AE x0 y0 x1 y1 u1 v1)))) (Cc (A8 (AG (AN [AC [F.int .i64 u0],AF (IntKind.i64.wrap (AE x0 y0 x1 y1 u0 v0-AE x0 y0 x1 y1 u1 v1))])+AG (AN [AC [F.int .i64 (AE x0 y0 x1 y1 u0 v0)],AC [F.int .i64 (IntKind.i64.wrap (u1-u0))]])) (AG (AN [AC [F.int .i64 v0],AF (IntKind.i64.wrap (AE x0 y0 x1 y1 u0 v0-AE x0 y0 x1 y1 u1 v1))])+AG (AN [AC [F.int .i64 (AE x0 y0 x1 y1 u0 v0)],AC [F.int .i64 (IntKind.i64.wrap (v1-v0))]])) (IntKind.i64.wrap (AE x0 y0 x1 y1 u0 v0-AE x0 y0 x1 y1 u1 v1))))),F.int .u64 (Cz 4 (Cb (A8 (AG (AN [AC [F.int .i64 u0],AF (IntKind.i64.wrap (AE x0 y0 x1 y1 u0 v0-AE x0 y0 x1 y1 u1 v1))])+AG (AN [AC [F.int .i64 (AE x0 y0 x1 y1 u0 v0)],AC [F.int .i64 (IntKind.i64.wrap (u1-u0))]])) (AG (AN [AC [F.int .i64 v0],AF (IntKind.i64.wrap (AE x0 y0 x1 y1 u0 v0-AE x0 y0 x1 y1 u1 v1))])+AG (AN [AC [F.int .i64 (AE x0 y0 x1 y1 u0 v0)],AC [F.int .i64 (IntKind.i64.wrap (v1-v0))]])) (IntKind.i64.wrap (AE x0 y0 x1 y1 u0 v0-AE x0 y0 x1 y1 u1 v1)))) (Ca (A8 (AG (AN [AC [F.int .i64 u0],AF (IntKind.i64.wrap (AE x0 y0 x1 y1 u0 v0-AE x0 y0 x1 y1 u1 v1))])+AG (AN [AC [F.int .i64 (AE x0 y0 x1 y1 u0 v0)],AC [F.int .i64 (IntKind.i64.wrap (u1-u0))]])) (AG (AN [AC [F.int .i64 v0],AF (IntKind.i64.wrap (AE x0 y0 x1 y1 u0 v0-AE x0 y0 x1 y1 u1 v1))])+AG (AN [AC [F.int .i64 (AE x0 y0 x1 y1 u0 v0)],AC [F.int .i64 (IntKind.i64.wrap (v1-v0))]])) (IntKind.i64.wrap (AE x0 y0 x1 y1 u0 v0-AE x0 y0 x1 y1 u1 v1)))) (Cc (A8 (AG (AN [AC [F.int .i64 u0],AF (IntKind.i64.wrap (AE x0 y0 x1 y1 u0 v0-AE x0 y0 x1 y1 u1 v1))])+AG (AN [AC [F.int .i64 (AE x0 y0 x1 y1 u0 v0)],AC [F.int .i64 (IntKind.i64.wrap (u1-u0))]])) (AG (AN [AC [F.int .i64 v0],AF (IntKind.i64.wrap (AE x0 y0 x1 y1 u0 v0-AE x0 y0 x1 y1 u1 v1))])+AG (AN [AC [F.int .i64 (AE x0 y0 x1 y1 u0 v0)],AC [F.int .i64 (IntKind.i64.wrap (v1-v0))]])) (IntKind.i64.wrap (AE x0 y0 x1 y1 u0 v0-AE x0 y0 x1 y1 u1 v1))))),F.int .u64 (Cz 5 (Cb (A8 (AG (AN [AC [F.int .i64 u0],AF (IntKind.i64.wrap (AE x0 y0 x1 y1 u0 v0-AE x0 y0 x1 y1 u1 v1))])+AG (AN [AC [F.int .i64 (AE x0 y0 x1 y1 u0 v0)],AC [F.int .i64 (IntKind.i64.wrap (u1-u0))]])) (AG (AN [AC [F.int .i64 v0],AF (IntKind.i64.wrap (AE x0 y0 x1 y1 u0 v0-AE x0 y0 x1 y1 u1 v1))])+AG (AN [AC [F.int .i64 (AE x0 y0 x1 y1 u0 v0)],AC [F.int .i64 (IntKind.i64.wrap (v1-v0))]])) (IntKind.i64.wrap (AE x0 y0 x1 y1 u0 v0-AE x0 y0 x1 y1 u1 v1)))) (Ca (A8 (AG (AN [AC [F.int .i64 u0],AF (IntKind.i64.wrap (AE x0 y0 x1 y1 u0 v0-AE x0 y0 x1 y1 u1 v1))])+AG (AN [AC [F.int .i64 (AE x0 y0 x1 y1 u0 v0)],AC [F.int .i64 (IntKind.i64.wrap (u1-u0))]])) (AG (AN [AC [F.int .i64 v0],AF (IntKind.i64.wrap (AE x0 y0 x1 y1 u0 v0-AE x0 y0 x1 y1 u1 v1))])+AG (AN [AC [F.int .i64 (AE x0 y0 x1 y1 u0 v0)],AC [F.int .i64 (IntKind.i64.wrap (v1-v0))]])) (IntKind.i64.wrap (AE x0 y0 x1 y1 u0 v0-AE x0 y0 x1 y1 u1 v1)))) (Cc (A8 (AG (AN [AC [F.int .i64 u0],AF (IntKind.i64.wrap (AE x0 y0 x1 y1 u0 v0-AE x0 y0 x1 y1 u1 v1))])+AG (AN [AC [F.int .i64 (AE x0 y0 x1 y1 u0 v0)],AC [F.int .i64 (IntKind.i64.wrap (u1-u0))]])) (AG (AN [AC [F.int .i64 v0],AF (IntKind.i64.wrap (AE x0 y0 x1 y1 u0 v0-AE x0 y0 x1 y1 u1 v1))])+AG (AN [AC [F.int .i64 (AE x0 y0 x1 y1 u0 v0)],AC [F.int .i64 (IntKind.i64.wrap (v1-v0))]])) (IntKind.i64.wrap (AE x0 y0 x1 y1 u0 v0-AE x0 y0 x1 y1 u1 v1))))),F.int .u64 (Cz 6 (Cb (A8 (AG (AN [AC [F.int .i64 u0],AF (IntKind.i64.wrap (AE x0 y0 x1 y1 u0 v0-AE x0 y0 x1 y1 u1 v1))])+AG (AN [AC [F.int .i64 (AE x0 y0 x1 y1 u0 v0)],AC [F.int .i64 (IntKind.i64.wrap (u1-u0))]])) (AG (AN [AC [F.int .i64 v0],AF (IntKind.i64.wrap (AE x0 y0 x1 y1 u0 v0-AE x0 y0 x1 y1 u1 v1))])+AG (AN [AC [F.int .i64 (AE x0 y0 x1 y1 u0 v0)],AC [F.int .i64 (IntKind.i64.wrap (v1-v0))]])) (IntKind.i64.wrap (AE x0 y0 x1 y1 u0 v0-AE x0 y0 x1 y1 u1 v1)))) (Ca (A8 (AG (AN [AC [F.int .i64 u0],AF (IntKind.i64.wrap (AE x0 y0 x1 y1 u0 v0-AE x0 y0 x1 y1 u1 v1))])+AG (AN [AC [F.int .i64 (AE x0 y0 x1 y1 u0 v0)],AC [F.int .i64 (IntKind.i64.wrap (u1-u0))]])) (AG (AN [AC [F.int .i64 v0],AF (IntKind.i64.wrap (AE x0 y0 x1 y1 u0 v0-AE x0 y0 x1 y1 u1 v1))])+AG (AN [AC [F.int .i64 (AE x0 y0 x1 y1 u0 v0)],AC [F.int .i64 (IntKind.i64.wrap (v1-v0))]])) (IntKind.i64.wrap (AE x0 y0 x1 y1 u0 v0-AE x0 y0 x1 y1 u1 v1)))) (Cc (A8 (AG (AN [AC [F.int .i64 u0],AF (IntKind.i64.wrap (AE x0 y0 x1 y1 u0 v0-AE x0 y0 x1 y1 u1 v1))])+AG (AN [AC [F.int .i64 (AE x0 y0 x1 y1 u0 v0)],AC [F.int .i64 (IntKind.i64.wrap (u1-u0))]])) (AG (AN [AC [F.int .i64 v0],AF (IntKind.i64.wrap (AE x0 y0 x1 y1 u0 v0-AE x0 y0 x1 y1 u1 v1))])+AG (AN [AC [F.int .i64 (AE x0 y0 x1 y1 u0 v0)],AC [F.int .i64 (IntKind.i64.wrap (v1-v0))]])) (IntKind.i64.wrap (AE x0 y0 x1 y1 u0 v0-AE x0 y0 x1 y1 u1 v1))))),F.int .u64 (Cz 7 (Cb (A8 (AG (AN [AC [F.int .i64 u0],AF (IntKind.i64.wrap (AE x0 y0 x1 y1 u0 v0-AE x0 y0 x1 y1 u1 v1))])+AG (AN [AC [F.int .i64 (AE x0 y0 x1 y1 u0 v0)],AC [F.int .i64 (IntKind.i64.wrap (u1-u0))]])) (AG (AN [AC [F.int .i64 v0],AF (IntKind.i64.wrap (AE x0 y0 x1 y1 u0 v0-AE x0 y0 x1 y1 u1 v1))])+AG (AN [AC [F.int .i64 (AE x0 y0 x1 y1 u0 v0)],AC [F.int .i64 (IntKind.i64.wrap (v1-v0))]])) (IntKind.i64.wrap (AE x0 y0 x1 y1 u0 v0-AE x0 y0 x1 y1 u1 v1)))) (Ca (A8 (AG (AN [AC [F.int .i64 u0],AF (IntKind.i64.wrap (AE x0 y0 x1 y1 u0 v0-AE x0 y0 x1 y1 u1 v1))])+AG (AN [AC [F.int .i64 (AE x0 y0 x1 y1 u0 v0)],AC [F.int .i64 (IntKind.i64.wrap (u1-u0))]])) (AG (AN [AC [F.int .i64 v0],AF (IntKind.i64.wrap (AE x0 y0 x1 y1 u0 v0-AE x0 y0 x1 y1 u1 v1))])+AG (AN [AC [F.int .i64 (AE x0 y0 x1 y1 u0 v0)],AC [F.int .i64 (IntKind.i64.wrap (v1-v0))]])) (IntKind.i64.wrap (AE x0 y0 x1 y1 u0 v0-AE x0 y0 x1 y1 u1 v1)))) (Cc (A8 (AG (AN [AC [F.int .i64 u0],AF (IntKind.i64.wrap (AE x0 y0 x1 y1 u0 v0-AE x0 y0 x1 y1 u1 v1))])+AG (AN [AC [F.int .i64 (AE x0 y0 x1 y1 u0 v0)],AC [F.int .i64 (IntKind.i64.wrap (u1-u0))]])) (AG (AN [AC [F.int .i64 v0],AF (IntKind.i64.wrap (AE x0 y0 x1 y1 u0 v0-AE x0 y0 x1 y1 u1 v1))])+AG (AN [AC [F.int .i64 (AE x0 y0 x1 y1 u0 v0)],AC [F.int .i64 (IntKind.i64.wrap (v1-v0))]])) (IntKind.i64.wrap (AE x0 y0 x1 y1 u0 v0-AE x0 y0 x1 y1 u1 v1))))),F.int .u64 (Cz 8 (Cb (A8 (AG (AN [AC [F.int .i64 u0],AF (IntKind.i64.wrap (AE x0 y0 x1 y1 u0 v0-AE x0 y0 x1 y1 u1 v1))])+AG (AN [AC [F.int .i64 (AE x0 y0 x1 y1 u0 v0)],AC [F.int .i64 (IntKind.i64.wrap (u1-u0))]])) (AG (AN [AC [F.int .i64 v0],AF (IntKind.i64.wrap (AE x0 y0 x1 y1 u0 v0-AE x0 y0 x1 y1 u1 v1))])+AG (AN [AC [F.int .i64 (AE x0 y0 x1 y1 u0 v0)],AC [F.int .i64 (IntKind.i64.wrap (v1-v0))]])) (IntKind.i64.wrap (AE x0 y0 x1 y1 u0 v0-AE x0 y0 x1 y1 u1 v1)))) (Ca (A8 (AG (AN [AC [F.int .i64 u0],AF (IntKind.i64.wrap (AE x0 y0 x1 y1 u0 v0-AE x0 y0 x1 y1 u1 v1))])+AG (AN [AC [F.int .i64 (AE x0 y0 x1 y1 u0 v0)],AC [F.int .i64 (IntKind.i64.wrap (u1-u0))]])) (AG (AN [AC [F.int .i64 v0],AF (IntKind.i64.wrap (AE x0 y0 x1 y1 u0 v0-AE x0 y0 x1 y1 u1 v1))])+AG (AN [AC [F.int .i64 (AE x0 y0 x1 y1 u0 v0)],AC [F.int .i64 (IntKind.i64.wrap (v1-v0))]])) (IntKind.i64.wrap (AE x0 y0 x1 y1 u0 v0-AE x0 y0 x1 y1 u1 v1)))) (Cc (A8 (AG (AN [AC [F.int .i64 u0],AF (IntKind.i64.wrap (AE x0 y0 x1 y1 u0 v0-AE x0 y0 x1 y1 u1 v1))])+AG (AN [AC [F.int .i64 (AE x0 y0 x1 y1 u0 v0)],AC [F.int .i64 (IntKind.i64.wrap (u1-u0))]])) (AG (AN [AC [F.int .i64 v0],AF (IntKind.i64.wrap (AE x0 y0 x1 y1 u0 v0-AE x0 y0 x1 y1 u1 v1))])+AG (AN [AC [F.int .i64 (AE x0 y0 x1 y1 u0 v0)],AC [F.int .i64 (IntKind.i64.wrap (v1-v0))]])) (IntKind.i64.wrap (AE x0 y0 x1 y1 u0 v0-AE x0 y0 x1 y1 u1 v1))))),F.int .u64 (Cz 9 (Cb (A8 (AG (AN [AC [F.int .i64 u0],AF (IntKind.i64.wrap (AE x0 y0 x1 y1 u0 v0-AE x0 y0 x1 y1 u1 v1))])+AG (AN [AC [F.int .i64 (AE x0 y0 x1 y1 u0 v0)],AC [F.int .i64 (IntKind.i64.wrap (u1-u0))]])) (AG (AN [AC [F.int .i64 v0],AF (IntKind.i64.wrap (AE x0 y0 x1 y1 u0 v0-AE x0 y0 x1 y1 u1 v1))])+AG (AN [AC [F.int .i64 (AE x0 y0 x1 y1 u0 v0)],AC [F.int .i64 (IntKind.i64.wrap (v1-v0))]])) (IntKind.i64.wrap (AE x0 y0 x1 y1 u0 v0-AE x0 y0 x1 y1 u1 v1)))) (Ca (A8 (AG (AN [AC [F.int .i64 u0],AF (IntKind.i64.wrap (AE x0 y0 x1 y1 u0 v0-AE x0 y0 x1 y1 u1 v1))])+AG (AN [AC [F.int .i64 (AE x0 y0 x1 y1 u0 v0)],AC [F.int .i64 (IntKind.i64.wrap (u1-u0))]])) (AG (AN [AC [F.int .i64 v0],AF (IntKind.i64.wrap (AE x0 y0 x1 y1 u0 v0-AE x0 y0 x1 y1 u1 v1))])+AG (AN [AC [F.int .i64 (AE x0 y0 x1 y1 u0 v0)],AC [F.int .i64 (IntKind.i64.wrap (v1-v0))]])) (IntKind.i64.wrap (AE x0 y0 x1 y1 u0 v0-AE x0 y0 x1 y1 u1 v1)))) (Cc (A8 (AG (AN [AC [F.int .i64 u0],AF (IntKind.i64.wrap (AE x0 y0 x1 y1 u0 v0-AE x0 y0 x1 y1 u1 v1))])+AG (AN [AC [F.int .i64 (AE x0 y0 x1 y1 u0 v0)],AC [F.int .i64 (IntKind.i64.wrap (u1-u0))]])) (AG (AN [AC [F.int .i64 v0],AF (IntKind.i64.wrap (AE x0 y0 x1 y1 u0 v0-AE x0 y0 x1 y1 u1 v1))])+AG (AN [AC [F.int .i64 (AE x0 y0 x1 y1 u0 v0)],AC [F.int .i64 (IntKind.i64.wrap (v1-v0))]])) (IntKind.i64.wrap (AE x0 y0 x1 y1 u0 v0-AE x0 y0 x1 y1 u1 v1))))),F.int .u64 (Cz 10 (Cb (A8 (AG (AN [AC [F.int .i64 u0],AF (IntKind.i64.wrap (AE x0 y0 x1 y1 u0 v0-AE x0 y0 x1 y1 u1 v1))])+AG (AN [AC [F.int .i64 (AE x0 y0 x1 y1 u0 v0)],AC [F.int .i64 (IntKind.i64.wrap (u1-u0))]])) (AG (AN [AC [F.int .i64 v0],AF (IntKind.i64.wrap (AE x0 y0 x1 y1 u0 v0-AE x0 y0 x1 y1 u1 v1))])+AG (AN [AC [F.int .i64 (AE x0 y0 x1 y1 u0 v0)],AC [F.int .i64 (IntKind.i64.wrap (v1-v0))]])) (IntKind.i64.wrap (AE x0 y0 x1 y1 u0 v0-AE x0 y0 x1 y1 u1 v1)))) (Ca (A8 (AG (AN [AC [F.int .i64 u0],AF (IntKind.i64.wrap (AE x0 y0 x1 y1 u0 v0-AE x0 y0 x1 y1 u1 v1))])+AG (AN [AC [F.int .i64 (AE x0 y0 x1 y1 u0 v0)],AC [F.int .i64 (IntKind.i64.wrap (u1-u0))]])) (AG (AN [AC [F.int .i64 v0],AF (IntKind.i64.wrap (AE x0 y0 x1 y1 u0 v0-AE x0 y0 x1 y1 u1 v1))])+AG (AN [AC [F.int .i64 (AE x0 y0 x1 y1 u0 v0)],AC [F.int .i64 (IntKind.i64.wrap (v1-v0))]])) (IntKind.i64.wrap (AE x0 y0 x1 y1 u0 v0-AE x0 y0 x1 y1 u1 v1)))) (Cc (A8 (AG (AN [AC [F.int .i64 u0],AF (IntKind.i64.wrap (AE x0 y0 x1 y1 u0 v0-AE x0 y0 x1 y1 u1 v1))])+AG (AN [AC [F.int .i64 (AE x0 y0 x1 y1 u0 v0)],AC [F.int .i64 (IntKind.i64.wrap (u1-u0))]])) (AG (AN [AC [F.int .i64 v0],AF (IntKind.i64.wrap (AE x0 y0 x1 y1 u0 v0-AE x0 y0 x1 y1 u1 v1))])+AG (AN [AC [F.int .i64 (AE x0 y0 x1 y1 u0 v0)],AC [F.int .i64 (IntKind.i64.wrap (v1-v0))]])) (IntKind.i64.wrap (AE x0 y0 x1 y1 u0 v0-AE x0 y0 x1 y1 u1 v1))))),F.int .u64 (Cz 11 (Cb (A8 (AG (AN [AC [F.int .i64 u0],AF (IntKind.i64.wrap (AE x0 y0 x1 y1 u0 v0-AE x0 y0 x1 y1 u1 v1))])+AG (AN [AC [F.int .i64 (AE x0 y0 x1 y1 u0 v0)],AC [F.int .i64 (IntKind.i64.wrap (u1-u0))]])) (AG (AN [AC [F.int .i64 v0],AF (IntKind.i64.wrap (AE x0 y0 x1 y1 u0 v0-AE x0 y0 x1 y1 u1 v1))])+AG (AN [AC [F.int .i64 (AE x0 y0 x1 y1 u0 v0)],AC [F.int .i64 (IntKind.i64.wrap (v1-v0))]])) (IntKind.i64.wrap (AE x0 y0 x1 y1 u0 v0-AE x0 y0 x1 y1 u1 v1)))) (Ca (A8 (AG (AN [AC [F.int .i64 u0],AF (IntKind.i64.wrap (AE x0 y0 x1 y1 u0 v0-AE x0 y0 x1 y1 u1 v1))])+AG (AN [AC [F.int .i64 (AE x0 y0 x1 y1 u0 v0)],AC [F.int .i64 (IntKind.i64.wrap (u1-u0))]])) (AG (AN [AC [F.int .i64 v0],AF (IntKind.i64.wrap (AE x0 y0 x1 y1 u0 v0-AE x0 y0 x1 y1 u1 v1))])+AG (AN [AC [F.int .i64 (AE x0 y0 x1 y1 u0 v0)],AC [F.int .i64 (IntKind.i64.wrap (v1-v0))]])) (IntKind.i64.wrap (AE x0 y0 x1 y1 u0 v0-AE x0 y0 x1 y1 u1 v1)))) (Cc (A8 (AG (AN [AC [F.int .i64 u0],AF (IntKind.i64.wrap (AE x0 y0 x1 y1 u0 v0-AE x0 y0 x1 y1 u1 v1))])+AG (AN [AC [F.int .i64 (AE x0 y0 x1 y1 u0 v0)],AC [F.int .i64 (IntKind.i64.wrap (u1-u0))]])) (AG (AN [AC [F.int .i64 v0],AF (IntKind.i64.wrap (AE x0 y0 x1 y1 u0 v0-AE x0 y0 x1 y1 u1 v1))])+AG (AN [AC [F.int .i64 (AE x0 y0 x1 y1 u0 v0)],AC [F.int .i64 (IntKind.i64.wrap (v1-v0))]])) (IntKind.i64.wrap (AE x0 y0 x1 y1 u0 v0-AE x0 y0 x1 y1 u1 v1)))))],F.agg [F.int .u64 0,F.int .u64 0,F.int .u64 0,F.int .u64 0,F.int .u64 0,F.int .u64 0,F.int .u64 0,F.int .u64 0,F.int .u64 0,F.int .u64 0,F.int .u64 0,F.int .u64 0]]))
 none)
 none)
 none)
 none)
 none)
 none)
 none)
 none)
 none)
 none)
 none)
 none)
 none)
 none))
 (ret (F.tup [F.int .i64 0,F.agg [F.int .u64 0,F.int .u64 0,F.int .u64 0,F.int .u64 0,F.int .u64 0,F.int .u64 0,F.int .u64 0,F.int .u64 0,F.int .u64 0,F.int .u64 0,F.int .u64 0,F.int .u64 0],F.agg [F.int .u64 0,F.int .u64 0,F.int .u64 0,F.int .u64 0,F.int .u64 0,F.int .u64 0,F.int .u64 0,F.int .u64 0,F.int .u64 0,F.int .u64 0,F.int .u64 0,F.int .u64 0]]))))
 (AD (decide (IntKind.i64.wrap (IF (AE x0 y0 x1 y1 u0 v0)*IF (AE x0 y0 x1 y1 u1 v1)) > 0)==false)
 (AD (decide (IntKind.i64.wrap (IF (AE u0 v0 u1 v1 x0 y0)*IF (AE u0 v0 u1 v1 x1 y1)) > 0))
 (ret (F.tup [F.int .i64 0,F.agg [F.int .u64 0,F.int .u64 0,F.int .u64 0,F.int .u64 0,F.int .u64 0,F.int .u64 0,F.int .u64 0,F.int .u64 0,F.int .u64 0,F.int .u64 0,F.int .u64 0,F.int .u64 0],F.agg [F.int .u64 0,F.int .u64 0,F.int .u64 0,F.int .u64 0,F.int .u64 0,F.int .u64 0,F.int .u64 0,F.int .u64 0,F.int .u64 0,F.int .u64 0,F.int .u64 0,F.int .u64 0]]))
 (AD (Ae (IntKind.i64.wrap (AE x0 y0 x1 y1 u0 v0-AE x0 y0 x1 y1 u1 v1)))
 (AD (Ae u0)
 (AD (Aq 400 (AC [F.int .i64 u0])&&Aq 400 (AF (IntKind.i64.wrap (AE x0 y0 x1 y1 u0 v0-AE x0 y0 x1 y1 u1 v1))))
 (AD (Ae (AE x0 y0 x1 y1 u0 v0))
 (AD (Ae (IntKind.i64.wrap (u1-u0)))
 (AD (Aq 400 (AC [F.int .i64 (AE x0 y0 x1 y1 u0 v0)])&&Aq 400 (AC [F.int .i64 (IntKind.i64.wrap (u1-u0))]))
 (AD (Aq 400 (AN [AC [F.int .i64 u0],AF (IntKind.i64.wrap (AE x0 y0 x1 y1 u0 v0-AE x0 y0 x1 y1 u1 v1))])&&Aq 400 (AN [AC [F.int .i64 (AE x0 y0 x1 y1 u0 v0)],AC [F.int .i64 (IntKind.i64.wrap (u1-u0))]]))
 (AD (Ae v0)
 (AD (Aq 400 (AC [F.int .i64 v0])&&Aq 400 (AF (IntKind.i64.wrap (AE x0 y0 x1 y1 u0 v0-AE x0 y0 x1 y1 u1 v1))))
 (AD (Ae (AE x0 y0 x1 y1 u0 v0))
 (AD (Ae (IntKind.i64.wrap (v1-v0)))
 (AD (Aq 400 (AC [F.int .i64 (AE x0 y0 x1 y1 u0 v0)])&&Aq 400 (AC [F.int .i64 (IntKind.i64.wrap (v1-v0))]))
 (AD (Aq 400 (AN [AC [F.int .i64 v0],AF (IntKind.i64.wrap (AE x0 y0 x1 y1 u0 v0-AE x0 y0 x1 y1 u1 v1))])&&Aq 400 (AN [AC [F.int .i64 (AE x0 y0 x1 y1 u0 v0)],AC [F.int .i64 (IntKind.i64.wrap (v1-v0))]]))
 (AD (HK 1 (A8 (AG (AN [AC [F.int .i64 u0],AF (IntKind.i64.wrap (AE x0 y0 x1 y1 u0 v0-AE x0 y0 x1 y1 u1 v1))])+AG (AN [AC [F.int .i64 (AE x0 y0 x1 y1 u0 v0)],AC [F.int .i64 (IntKind.i64.wrap (u1-u0))]])) (AG (AN [AC [F.int .i64 v0],AF (IntKind.i64.wrap (AE x0 y0 x1 y1 u0 v0-AE x0 y0 x1 y1 u1 v1))])+AG (AN [AC [F.int .i64 (AE x0 y0 x1 y1 u0 v0)],AC [F.int .i64 (IntKind.i64.wrap (v1-v0))]])) (IntKind.i64.wrap (AE x0 y0 x1 y1 u0 v0-AE x0 y0 x1 y1 u1 v1))))
 (ret (F.tup [F.int .i64 1,F.agg [F.int .u64 (Cz 0 (Cb (A8 (AG (AN [AC [F.int .i64 u0],AF (IntKind.i64.wrap (AE x0 y0 x1 y1 u0 v0-AE x0 y0 x1 y1 u1 v1))])+AG (AN [AC [F.int .i64 (AE x0 y0 x1 y1 u0 v0)],AC [F.int .i64 (IntKind.i64.wrap (u1-u0))]])) (AG (AN [AC [F.int .i64 v0],AF (IntKind.i64.wrap (AE x0 y0 x1 y1 u0 v0-AE x0 y0 x1 y1 u1 v1))])+AG (AN [AC [F.int .i64 (AE x0 y0 x1 y1 u0 v0)],AC [F.int .i64 (IntKind.i64.wrap (v1-v0))]])) (IntKind.i64.wrap (AE x0 y0 x1 y1 u0 v0-AE x0 y0 x1 y1 u1 v1)))) (Ca (A8 (AG (AN [AC [F.int .i64 u0],AF (IntKind.i64.wrap (AE x0 y0 x1 y1 u0 v0-AE x0 y0 x1 y1 u1 v1))])+AG (AN [AC [F.int .i64 (AE x0 y0 x1 y1 u0 v0)],AC [F.int .i64 (IntKind.i64.wrap (u1-u0))]])) (AG (AN [AC [F.int .i64 v0],AF (IntKind.i64.wrap (AE x0 y0 x1 y1 u0 v0-AE x0 y0 x1 y1 u1 v1))])+AG (AN [AC [F.int .i64 (AE x0 y0 x1 y1 u0 v0)],AC [F.int .i64 (IntKind.i64.wrap (v1-v0))]])) (IntKind.i64.wrap (AE x0 y0 x1 y1 u0 v0-AE x0 y0 x1 y1 u1 v1)))) (Cc (A8 (AG (AN [AC [F.int .i64 u0],AF (IntKind.i64.wrap (AE x0 y0 x1 y1 u0 v0-AE x0 y0 x1 y1 u1 v1))])+AG (AN [AC [F.int .i64 (AE x0 y0 x1 y1 u0 v0)],AC [F.int .i64 (IntKind.i64.wrap (u1-u0))]])) (AG (AN [AC [F.int .i64 v0],AF (IntKind.i64.wrap (AE x0 y0 x1 y1 u0 v0-AE x0 y0 x1 y1 u1 v1))])+AG (AN [AC [F.int .i64 (AE x0 y0 x1 y1 u0 v0)],AC [F.int .i64 (IntKind.i64.wrap (v1-v0))]])) (IntKind.i64.wrap (AE x0 y0 x1 y1 u0 v0-AE x0 y0 x1 y1 u1 v1))))),F.int .u64 (Cz 1 (Cb (A8 (AG (AN [AC [F.int .i64 u0],AF (IntKind.i64.wrap (AE x0 y0 x1 y1 u0 v0-AE x0 y0 x1 y1 u1 v1))])+AG (AN [AC [F.int .i64 (AE x0 y0 x1 y1 u0 v0)],AC [F.int .i64 (IntKind.i64.wrap (u1-u0))]])) (AG (AN [AC [F.int .i64 v0],AF (IntKind.i64.wrap (AE x0 y0 x1 y1 u0 v0-AE x0 y0 x1 y1 u1 v1))])+AG (AN [AC [F.int .i64 (AE x0 y0 x1 y1 u0 v0)],AC [F.int .i64 (IntKind.i64.wrap (v1-v0))]])) (IntKind.i64.wrap (AE x0 y0 x1 y1 u0 v0-AE x0 y0 x1 y1 u1 v1)))) (Ca (A8 (AG (AN [AC [F.int .i64 u0],AF (IntKind.i64.wrap (AE x0 y0 x1 y1 u0 v0-AE x0 y0 x1 y1 u1 v1))])+AG (AN [AC [F.int .i64 (AE x0 y0 x1 y1 u0 v0)],AC [F.int .i64 (IntKind.i64.wrap (u1-u0))]])) (AG (AN [AC [F.int .i64 v0],AF (IntKind.i64.wrap (AE x0 y0 x1 y1 u0 v0-AE x0 y0 x1 y1 u1 v1))])+AG (AN [AC [F.int .i64 (AE x0 y0 x1 y1 u0 v0)],AC [F.int .i64 (IntKind.i64.wrap (v1-v0))]])) (IntKind.i64.wrap (AE x0 y0 x1 y1 u0 v0-AE x0 y0 x1 y1 u1 v1)))) (Cc (A8 (AG (AN [AC [F.int .i64 u0],AF (IntKind.i64.wrap (AE x0 y0 x1 y1 u0 v0-AE x0 y0 x1 y1 u1 v1))])+AG (AN [AC [F.int .i64 (AE x0 y0 x1 y1 u0 v0)],AC [F.int .i64 (IntKind.i64.wrap (u1-u0))]])) (AG (AN [AC [F.int .i64 v0],AF (IntKind.i64.wrap (AE x0 y0 x1 y1 u0 v0-AE x0 y0 x1 y1 u1 v1))])+AG (AN [AC [F.int .i64 (AE x0 y0 x1 y1 u0 v0)],AC [F.int .i64 (IntKind.i64.wrap (v1-v0))]])) (IntKind.i64.wrap (AE x0 y0 x1 y1 u0 v0-AE x0 y0 x1 y1 u1 v1))))),F.int .u64 (Cz 2 (Cb (A8 (AG (AN [AC [F.int .i64 u0],AF (IntKind.i64.wrap (AE x0 y0 x1 y1 u0 v0-AE x0 y0 x1 y1 u1 v1))])+AG (AN [AC [F.int .i64 (AE x0 y0 x1 y1 u0 v0)],AC [F.int .i64 (IntKind.i64.wrap (u1-u0))]])) (AG (AN [AC [F.int .i64 v0],AF (IntKind.i64.wrap (AE x0 y0 x1 y1 u0 v0-AE x0 y0 x1 y1 u1 v1))])+AG (AN [AC [F.int .i64 (AE x0 y0 x1 y1 u0 v0)],AC [F.int .i64 (IntKind.i64.wrap (v1-v0))]])) (IntKind.i64.wrap (AE x0 y0 x1 y1 u0 v0-AE x0 y0 x1 y1 u1 v1)))) (Ca (A8 (AG (AN [AC [F.int .i64 u0],AF (IntKind.i64.wrap (AE x0 y0 x1 y1 u0 v0-AE x0 y0 x1 y1 u1 v1))])+AG (AN [AC [F.int .i64 (AE x0 y0 x1 y1 u0 v0)],AC [F.int .i64 (IntKind.i64.wrap (u1-u0))]])) (AG (AN [AC [F.int .i64 v0],AF (IntKind.i64.wrap (AE x0 y0 x1 y1 u0 v0-AE x0 y0 x1 y1 u1 v1))])+AG (AN [AC [F.int .i64 (AE x0 y0 x1 y1 u0 v0)],AC [F.int .i64 (IntKind.i64.wrap (v1-v0))]])) (IntKind.i64.wrap (AE x0 y0 x1 y1 u0 v0-AE x0 y0 x1 y1 u1 v1)))) (Cc (A8 (AG (AN [AC [F.int .i64 u0],AF (IntKind.i64.wrap (AE x0 y0 x1 y1 u0 v0-AE x0 y0 x1 y1 u1 v1))])+AG (AN [AC [F.int .i64 (AE x0 y0 x1 y1 u0 v0)],AC [F.int .i64 (IntKind.i64.wrap (u1-u0))]])) (AG (AN [AC [F.int .i64 v0],AF (IntKind.i64.wrap (AE x0 y0 x1 y1 u0 v0-AE x0 y0 x1 y1 u1 v1))])+AG (AN [AC [F.int .i64 (AE x0 y0 x1 y1 u0 v0)],AC [F.int .i64 (IntKind.i64.wrap (v1-v0))]])) (IntKind.i64.wrap (AE x0 y0 x1 y1 u0 v0-AE x0 y0 x1 y1 u1 v1))))),F.int .u64 (Cz 3 (Cb (A8 (AG (AN [AC [F.int .i64 u0],AF (IntKind.i64.wrap (AE x0 y0 x1 y1 u0 v0-AE x0 y0 x1 y1 u1 v1))])+AG (AN [AC [F.int .i64 (AE x0 y0 x1 y1 u0 v0)],AC [F.int .i64 (IntKind.i64.wrap (u1-u0))]])) (AG (AN [AC [F.int .i64 v0],AF (IntKind.i64.wrap (AE x0 y0 x1 y1 u0 v0-AE x0 y0 x1 y1 u1 v1))])+AG (AN [AC [F.int .i64 (AE x0 y0 x1 y1 u0 v0)],AC [F.int .i64 (IntKind.i64.wrap (v1-v0))]])) (IntKind.i64.wrap (AE x0 y0 x1 y1 u0 v0-AE x0 y0 x1 y1 u1 v1)))) (Ca (A8 (AG (AN [AC [F.int .i64 u0],AF (IntKind.i64.wrap (AE x0 y0 x1 y1 u0 v0-AE x0 y0 x1 y1 u1 v1))])+AG (AN [AC [F.int .i64 (AE x0 y0 x1 y1 u0 v0)],AC [F.int .i64 (IntKind.i64.wrap (u1-u0))]])) (AG (AN [AC [F.int .i64 v0],AF (IntKind.i64.wrap (AE x0 y0 x1 y1 u0 v0-AE x0 y0 x1 y1 u1 v1))])+AG (AN [AC [F.int .i64 (AE x0 y0 x1 y1 u0 v0)],AC [F.int .i64 (IntKind.i64.wrap (v1-v0))]])) (IntKind.i64.wrap (AE x0 y0 x1 y1 u0 v0-AE x0 y0 x1 y1 u1 v1)))) (Cc (A8 (AG (AN [AC [F.int .i64 u0],AF (IntKind.i64.wrap (AE x0 y0 x1 y1 u0 v0-AE x0 y0 x1 y1 u1 v1))])+AG (AN [AC [F.int .i64 (AE x0 y0 x1 y1 u0 v0)],AC [F.int .i64 (IntKind.i64.wrap (u1-u0))]])) (AG (AN [AC [F.int .i64 v0],AF (IntKind.i64.wrap (AE x0 y0 x1 y1 u0 v0-AE x0 y0 x1 y1 u1 v1))])+AG (AN [AC [F.int .i64 (AE x0 y0 x1 y1 u0 v0)],AC [F.int .i64 (IntKind.i64.wrap (v1-v0))]])) (IntKind.i64.wrap (AE x0 y0 x1 y1 u0 v0-AE x0 y0 x1 y1 u1 v1))))),F.int .u64 (Cz 4 (Cb (A8 (AG (AN [AC [F.int .i64 u0],AF (IntKind.i64.wrap (AE x0 y0 x1 y1 u0 v0-AE x0 y0 x1 y1 u1 v1))])+AG (AN [AC [F.int .i64 (AE x0 y0 x1 y1 u0 v0)],AC [F.int .i64 (IntKind.i64.wrap (u1-u0))]])) (AG (AN [AC [F.int .i64 v0],AF (IntKind.i64.wrap (AE x0 y0 x1 y1 u0 v0-AE x0 y0 x1 y1 u1 v1))])+AG (AN [AC [F.int .i64 (AE x0 y0 x1 y1 u0 v0)],AC [F.int .i64 (IntKind.i64.wrap (v1-v0))]])) (IntKind.i64.wrap (AE x0 y0 x1 y1 u0 v0-AE x0 y0 x1 y1 u1 v1)))) (Ca (A8 (AG (AN [AC [F.int .i64 u0],AF (IntKind.i64.wrap (AE x0 y0 x1 y1 u0 v0-AE x0 y0 x1 y1 u1 v1))])+AG (AN [AC [F.int .i64 (AE x0 y0 x1 y1 u0 v0)],AC [F.int .i64 (IntKind.i64.wrap (u1-u0))]])) (AG (AN [AC [F.int .i64 v0],AF (IntKind.i64.wrap (AE x0 y0 x1 y1 u0 v0-AE x0 y0 x1 y1 u1 v1))])+AG (AN [AC [F.int .i64 (AE x0 y0 x1 y1 u0 v0)],AC [F.int .i64 (IntKind.i64.wrap (v1-v0))]])) (IntKind.i64.wrap (AE x0 y0 x1 y1 u0 v0-AE x0 y0 x1 y1 u1 v1)))) (Cc (A8 (AG (AN [AC [F.int .i64 u0],AF (IntKind.i64.wrap (AE x0 y0 x1 y1 u0 v0-AE x0 y0 x1 y1 u1 v1))])+AG (AN [AC [F.int .i64 (AE x0 y0 x1 y1 u0 v0)],AC [F.int .i64 (IntKind.i64.wrap (u1-u0))]])) (AG (AN [AC [F.int .i64 v0],AF (IntKind.i64.wrap (AE x0 y0 x1 y1 u0 v0-AE x0 y0 x1 y1 u1 v1))])+AG (AN [AC [F.int .i64 (AE x0 y0 x1 y1 u0 v0)],AC [F.int .i64 (IntKind.i64.wrap (v1-v0))]])) (IntKind.i64.wrap (AE x0 y0 x1 y1 u0 v0-AE x0 y0 x1 y1 u1 v1))))),F.int .u64 (Cz 5 (Cb (A8 (AG (AN [AC [F.int .i64 u0],AF (IntKind.i64.wrap (AE x0 y0 x1 y1 u0 v0-AE x0 y0 x1 y1 u1 v1))])+AG (AN [AC [F.int .i64 (AE x0 y0 x1 y1 u0 v0)],AC [F.int .i64 (IntKind.i64.wrap (u1-u0))]])) (AG (AN [AC [F.int .i64 v0],AF (IntKind.i64.wrap (AE x0 y0 x1 y1 u0 v0-AE x0 y0 x1 y1 u1 v1))])+AG (AN [AC [F.int .i64 (AE x0 y0 x1 y1 u0 v0)],AC [F.int .i64 (IntKind.i64.wrap (v1-v0))]])) (IntKind.i64.wrap (AE x0 y0 x1 y1 u0 v0-AE x0 y0 x1 y1 u1 v1)))) (Ca (A8 (AG (AN [AC [F.int .i64 u0],AF (IntKind.i64.wrap (AE x0 y0 x1 y1 u0 v0-AE x0 y0 x1 y1 u1 v1))])+AG (AN [AC [F.int .i64 (AE x0 y0 x1 y1 u0 v0)],AC [F.int .i64 (IntKind.i64.wrap (u1-u0))]])) (AG (AN [AC [F.int .i64 v0],AF (IntKind.i64.wrap (AE x0 y0 x1 y1 u0 v0-AE x0 y0 x1 y1 u1 v1))])+AG (AN [AC [F.int .i64 (AE x0 y0 x1 y1 u0 v0)],AC [F.int .i64 (IntKind.i64.wrap (v1-v0))]])) (IntKind.i64.wrap (AE x0 y0 x1 y1 u0 v0-AE x0 y0 x1 y1 u1 v1)))) (Cc (A8 (AG (AN [AC [F.int .i64 u0],AF (IntKind.i64.wrap (AE x0 y0 x1 y1 u0 v0-AE x0 y0 x1 y1 u1 v1))])+AG (AN [AC [F.int .i64 (AE x0 y0 x1 y1 u0 v0)],AC [F.int .i64 (IntKind.i64.wrap (u1-u0))]])) (AG (AN [AC [F.int .i64 v0],AF (IntKind.i64.wrap (AE x0 y0 x1 y1 u0 v0-AE x0 y0 x1 y1 u1 v1))])+AG (AN [AC [F.int .i64 (AE x0 y0 x1 y1 u0 v0)],AC [F.int .i64 (IntKind.i64.wrap (v1-v0))]])) (IntKind.i64.wrap (AE x0 y0 x1 y1 u0 v0-AE x0 y0 x1 y1 u1 v1))))),F.int .u64 (Cz 6 (Cb (A8 (AG (AN [AC [F.int .i64 u0],AF (IntKind.i64.wrap (AE x0 y0 x1 y1 u0 v0-AE x0 y0 x1 y1 u1 v1))])+AG (AN [AC [F.int .i64 (AE x0 y0 x1 y1 u0 v0)],AC [F.int .i64 (IntKind.i64.wrap (u1-u0))]])) (AG (AN [AC [F.int .i64 v0],AF (IntKind.i64.wrap (AE x0 y0 x1 y1 u0 v0-AE x0 y0 x1 y1 u1 v1))])+AG (AN [AC [F.int .i64 (AE x0 y0 x1 y1 u0 v0)],AC [F.int .i64 (IntKind.i64.wrap (v1-v0))]])) (IntKind.i64.wrap (AE x0 y0 x1 y1 u0 v0-AE x0 y0 x1 y1 u1 v1)))) (Ca (A8 (AG (AN [AC [F.int .i64 u0],AF (IntKind.i64.wrap (AE x0 y0 x1 y1 u0 v0-AE x0 y0 x1 y1 u1 v1))])+AG (AN [AC [F.int .i64 (AE x0 y0 x1 y1 u0 v0)],AC [F.int .i64 (IntKind.i64.wrap (u1-u0))]])) (AG (AN [AC [F.int .i64 v0],AF (IntKind.i64.wrap (AE x0 y0 x1 y1 u0 v0-AE x0 y0 x1 y1 u1 v1))])+AG (AN [AC [F.int .i64 (AE x0 y0 x1 y1 u0 v0)],AC [F.int .i64 (IntKind.i64.wrap (v1-v0))]])) (IntKind.i64.wrap (AE x0 y0 x1 y1 u0 v0-AE x0 y0 x1 y1 u1 v1)))) (Cc (A8 (AG (AN [AC [F.int .i64 u0],AF (IntKind.i64.wrap (AE x0 y0 x1 y1 u0 v0-AE x0 y0 x1 y1 u1 v1))])+AG (AN [AC [F.int .i64 (AE x0 y0 x1 y1 u0 v0)],AC [F.int .i64 (IntKind.i64.wrap (u1-u0))]])) (AG (AN [AC [F.int .i64 v0],AF (IntKind.i64.wrap (AE x0 y0 x1 y1 u0 v0-AE x0 y0 x1 y1 u1 v1))])+AG (AN [AC [F.int .i64 (AE x0 y0 x1 y1 u0 v0)],AC [F.int .i64 (IntKind.i64.wrap (v1-v0))]])) (IntKind.i64.wrap (AE x0 y0 x1 y1 u0 v0-AE x0 y0 x1 y1 u1 v1))))),F.int .u64 (Cz 7 (Cb (A8 (AG (AN [AC [F.int .i64 u0],AF (IntKind.i64.wrap (AE x0 y0 x1 y1 u0 v0-AE x0 y0 x1 y1 u1 v1))])+AG (AN [AC [F.int .i64 (AE x0 y0 x1 y1 u0 v0)],AC [F.int .i64 (IntKind.i64.wrap (u1-u0))]])) (AG (AN [AC [F.int .i64 v0],AF (IntKind.i64.wrap (AE x0 y0 x1 y1 u0 v0-AE x0 y0 x1 y1 u1 v1))])+AG (AN [AC [F.int .i64 (AE x0 y0 x1 y1 u0 v0)],AC [F.int .i64 (IntKind.i64.wrap (v1-v0))]])) (IntKind.i64.wrap (AE x0 y0 x1 y1 u0 v0-AE x0 y0 x1 y1 u1 v1)))) (Ca (A8 (AG (AN [AC [F.int .i64 u0],AF (IntKind.i64.wrap (AE x0 y0 x1 y1 u0 v0-AE x0 y0 x1 y1 u1 v1))])+AG (AN [AC [F.int .i64 (AE x0 y0 x1 y1 u0 v0)],AC [F.int .i64 (IntKind.i64.wrap (u1-u0))]])) (AG (AN [AC [F.int .i64 v0],AF (IntKind.i64.wrap (AE x0 y0 x1 y1 u0 v0-AE x0 y0 x1 y1 u1 v1))])+AG (AN [AC [F.int .i64 (AE x0 y0 x1 y1 u0 v0)],AC [F.int .i64 (IntKind.i64.wrap (v1-v0))]])) (IntKind.i64.wrap (AE x0 y0 x1 y1 u0 v0-AE x0 y0 x1 y1 u1 v1)))) (Cc (A8 (AG (AN [AC [F.int .i64 u0],AF (IntKind.i64.wrap (AE x0 y0 x1 y1 u0 v0-AE x0 y0 x1 y1 u1 v1))])+AG (AN [AC [F.int .i64 (AE x0 y0 x1 y1 u0 v0)],AC [F.int .i64 (IntKind.i64.wrap (u1-u0))]])) (AG (AN [AC [F.int .i64 v0],AF (IntKind.i64.wrap (AE x0 y0 x1 y1 u0 v0-AE x0 y0 x1 y1 u1 v1))])+AG (AN [AC [F.int .i64 (AE x0 y0 x1 y1 u0 v0)],AC [F.int .i64 (IntKind.i64.wrap (v1-v0))]])) (IntKind.i64.wrap (AE x0 y0 x1 y1 u0 v0-AE x0 y0 x1 y1 u1 v1))))),F.int .u64 (Cz 8 (Cb (A8 (AG (AN [AC [F.int .i64 u0],AF (IntKind.i64.wrap (AE x0 y0 x1 y1 u0 v0-AE x0 y0 x1 y1 u1 v1))])+AG (AN [AC [F.int .i64 (AE x0 y0 x1 y1 u0 v0)],AC [F.int .i64 (IntKind.i64.wrap (u1-u0))]])) (AG (AN [AC [F.int .i64 v0],AF (IntKind.i64.wrap (AE x0 y0 x1 y1 u0 v0-AE x0 y0 x1 y1 u1 v1))])+AG (AN [AC [F.int .i64 (AE x0 y0 x1 y1 u0 v0)],AC [F.int .i64 (IntKind.i64.wrap (v1-v0))]])) (IntKind.i64.wrap (AE x0 y0 x1 y1 u0 v0-AE x0 y0 x1 y1 u1 v1)))) (Ca (A8 (AG (AN [AC [F.int .i64 u0],AF (IntKind.i64.wrap (AE x0 y0 x1 y1 u0 v0-AE x0 y0 x1 y1 u1 v1))])+AG (AN [AC [F.int .i64 (AE x0 y0 x1 y1 u0 v0)],AC [F.int .i64 (IntKind.i64.wrap (u1-u0))]])) (AG (AN [AC [F.int .i64 v0],AF (IntKind.i64.wrap (AE x0 y0 x1 y1 u0 v0-AE x0 y0 x1 y1 u1 v1))])+AG (AN [AC [F.int .i64 (AE x0 y0 x1 y1 u0 v0)],AC [F.int .i64 (IntKind.i64.wrap (v1-v0))]])) (IntKind.i64.wrap (AE x0 y0 x1 y1 u0 v0-AE x0 y0 x1 y1 u1 v1)))) (Cc (A8 (AG (AN [AC [F.int .i64 u0],AF (IntKind.i64.wrap (AE x0 y0 x1 y1 u0 v0-AE x0 y0 x1 y1 u1 v1))])+AG (AN [AC [F.int .i64 (AE x0 y0 x1 y1 u0 v0)],AC [F.int .i64 (IntKind.i64.wrap (u1-u0))]])) (AG (AN [AC [F.int .i64 v0],AF (IntKind.i64.wrap (AE x0 y0 x1 y1 u0 v0-AE x0 y0 x1 y1 u1 v1))])+AG (AN [AC [F.int .i64 (AE x0 y0 x1 y1 u0 v0)],AC [F.int .i64 (IntKind.i64.wrap (v1-v0))]])) (IntKind.i64.wrap (AE x0 y0 x1 y1 u0 v0-AE x0 y0 x1 y1 u1 v1))))),F.int .u64 (Cz 9 (Cb (A8 (AG (AN [AC [F.int .i64 u0],AF (IntKind.i64.wrap (AE x0 y0 x1 y1 u0 v0-AE x0 y0 x1 y1 u1 v1))])+AG (AN [AC [F.int .i64 (AE x0 y0 x1 y1 u0 v0)],AC [F.int .i64 (IntKind.i64.wrap (u1-u0))]])) (AG (AN [AC [F.int .i64 v0],AF (IntKind.i64.wrap (AE x0 y0 x1 y1 u0 v0-AE x0 y0 x1 y1 u1 v1))])+AG (AN [AC [F.int .i64 (AE x0 y0 x1 y1 u0 v0)],AC [F.int .i64 (IntKind.i64.wrap (v1-v0))]])) (IntKind.i64.wrap (AE x0 y0 x1 y1 u0 v0-AE x0 y0 x1 y1 u1 v1)))) (Ca (A8 (AG (AN [AC [F.int .i64 u0],AF (IntKind.i64.wrap (AE x0 y0 x1 y1 u0 v0-AE x0 y0 x1 y1 u1 v1))])+AG (AN [AC [F.int .i64 (AE x0 y0 x1 y1 u0 v0)],AC [F.int .i64 (IntKind.i64.wrap (u1-u0))]])) (AG (AN [AC [F.int .i64 v0],AF (IntKind.i64.wrap (AE x0 y0 x1 y1 u0 v0-AE x0 y0 x1 y1 u1 v1))])+AG (AN [AC [F.int .i64 (AE x0 y0 x1 y1 u0 v0)],AC [F.int .i64 (IntKind.i64.wrap (v1-v0))]])) (IntKind.i64.wrap (AE x0 y0 x1 y1 u0 v0-AE x0 y0 x1 y1 u1 v1)))) (Cc (A8 (AG (AN [AC [F.int .i64 u0],AF (IntKind.i64.wrap (AE x0 y0 x1 y1 u0 v0-AE x0 y0 x1 y1 u1 v1))])+AG (AN [AC [F.int .i64 (AE x0 y0 x1 y1 u0 v0)],AC [F.int .i64 (IntKind.i64.wrap (u1-u0))]])) (AG (AN [AC [F.int .i64 v0],AF (IntKind.i64.wrap (AE x0 y0 x1 y1 u0 v0-AE x0 y0 x1 y1 u1 v1))])+AG (AN [AC [F.int .i64 (AE x0 y0 x1 y1 u0 v0)],AC [F.int .i64 (IntKind.i64.wrap (v1-v0))]])) (IntKind.i64.wrap (AE x0 y0 x1 y1 u0 v0-AE x0 y0 x1 y1 u1 v1))))),F.int .u64 (Cz 10 (Cb (A8 (AG (AN [AC [F.int .i64 u0],AF (IntKind.i64.wrap (AE x0 y0 x1 y1 u0 v0-AE x0 y0 x1 y1 u1 v1))])+AG (AN [AC [F.int .i64 (AE x0 y0 x1 y1 u0 v0)],AC [F.int .i64 (IntKind.i64.wrap (u1-u0))]])) (AG (AN [AC [F.int .i64 v0],AF (IntKind.i64.wrap (AE x0 y0 x1 y1 u0 v0-AE x0 y0 x1 y1 u1 v1))])+AG (AN [AC [F.int .i64 (AE x0 y0 x1 y1 u0 v0)],AC [F.int .i64 (IntKind.i64.wrap (v1-v0))]])) (IntKind.i64.wrap (AE x0 y0 x1 y1 u0 v0-AE x0 y0 x1 y1 u1 v1)))) (Ca (A8 (AG (AN [AC [F.int .i64 u0],AF (IntKind.i64.wrap (AE x0 y0 x1 y1 u0 v0-AE x0 y0 x1 y1 u1 v1))])+AG (AN [AC [F.int .i64 (AE x0 y0 x1 y1 u0 v0)],AC [F.int .i64 (IntKind.i64.wrap (u1-u0))]])) (AG (AN [AC [F.int .i64 v0],AF (IntKind.i64.wrap (AE x0 y0 x1 y1 u0 v0-AE x0 y0 x1 y1 u1 v1))])+AG (AN [AC [F.int .i64 (AE x0 y0 x1 y1 u0 v0)],AC [F.int .i64 (IntKind.i64.wrap (v1-v0))]])) (IntKind.i64.wrap (AE x0 y0 x1 y1 u0 v0-AE x0 y0 x1 y1 u1 v1)))) (Cc (A8 (AG (AN [AC [F.int .i64 u0],AF (IntKind.i64.wrap (AE x0 y0 x1 y1 u0 v0-AE x0 y0 x1 y1 u1 v1))])+AG (AN [AC [F.int .i64 (AE x0 y0 x1 y1 u0 v0)],AC [F.int .i64 (IntKind.i64.wrap (u1-u0))]])) (AG (AN [AC [F.int .i64 v0],AF (IntKind.i64.wrap (AE x0 y0 x1 y1 u0 v0-AE x0 y0 x1 y1 u1 v1))])+AG (AN [AC [F.int .i64 (AE x0 y0 x1 y1 u0 v0)],AC [F.int .i64 (IntKind.i64.wrap (v1-v0))]])) (IntKind.i64.wrap (AE x0 y0 x1 y1 u0 v0-AE x0 y0 x1 y1 u1 v1))))),F.int .u64 (Cz 11 (Cb (A8 (AG (AN [AC [F.int .i64 u0],AF (IntKind.i64.wrap (AE x0 y0 x1 y1 u0 v0-AE x0 y0 x1 y1 u1 v1))])+AG (AN [AC [F.int .i64 (AE x0 y0 x1 y1 u0 v0)],AC [F.int .i64 (IntKind.i64.wrap (u1-u0))]])) (AG (AN [AC [F.int .i64 v0],AF (IntKind.i64.wrap (AE x0 y0 x1 y1 u0 v0-AE x0 y0 x1 y1 u1 v1))])+AG (AN [AC [F.int .i64 (AE x0 y0 x1 y1 u0 v0)],AC [F.int .i64 (IntKind.i64.wrap (v1-v0))]])) (IntKind.i64.wrap (AE x0 y0 x1 y1 u0 v0-AE x0 y0 x1 y1 u1 v1)))) (Ca (A8 (AG (AN [AC [F.int .i64 u0],AF (IntKind.i64.wrap (AE x0 y0 x1 y1 u0 v0-AE x0 y0 x1 y1 u1 v1))])+AG (AN [AC [F.int .i64 (AE x0 y0 x1 y1 u0 v0)],AC [F.int .i64 (IntKind.i64.wrap (u1-u0))]])) (AG (AN [AC [F.int .i64 v0],AF (IntKind.i64.wrap (AE x0 y0 x1 y1 u0 v0-AE x0 y0 x1 y1 u1 v1))])+AG (AN [AC [F.int .i64 (AE x0 y0 x1 y1 u0 v0)],AC [F.int .i64 (IntKind.i64.wrap (v1-v0))]])) (IntKind.i64.wrap (AE x0 y0 x1 y1 u0 v0-AE x0 y0 x1 y1 u1 v1)))) (Cc (A8 (AG (AN [AC [F.int .i64 u0],AF (IntKind.i64.wrap (AE x0 y0 x1 y1 u0 v0-AE x0 y0 x1 y1 u1 v1))])+AG (AN [AC [F.int .i64 (AE x0 y0 x1 y1 u0 v0)],AC [F.int .i64 (IntKind.i64.wrap (u1-u0))]])) (AG (AN [AC [F.int .i64 v0],AF (IntKind.i64.wrap (AE x0 y0 x1 y1 u0 v0-AE x0 y0 x1 y1 u1 v1))])+AG (AN [AC [F.int .i64 (AE x0 y0 x1 y1 u0 v0)],AC [F.int .i64 (IntKind.i64.wrap (v1-v0))]])) (IntKind.i64.wrap (AE x0 y0 x1 y1 u0 v0-AE x0 y0 x1 y1 u1 v1)))))],F.agg [F.int .u64 0,F.int .u64 0,F.int .u64 0,F.int .u64 0,F.int .u64 0,F.int .u64 0,F.int .u64 0,F.int .u64 0,F.int .u64 0,F.int .u64 0,F.int .u64 0,F.int .u64 0]]))
 none)
 none)
 none)
 none)
 none)
 none)
 none)
 none)
 none)
 none)
 none)
 none)
 none)
 none))
 (ret (F.tup [F.int .i64 0,F.agg [F.int .u64 0,F.int .u64 0,F.int .u64 0,F.int .u64 0,F.int .u64 0,F.int .u64 0,F.int .u64 0,F.int .u64 0,F.int .u64 0,F.int .u64 0,F.int .u64 0,F.int .u64 0],F.agg [F.int .u64 0,F.int .u64 0,F.int .u64 0,F.int .u64 0,F.int .u64 0,F.int .u64 0,F.int .u64 0,F.int .u64 0,F.int .u64 0,F.int .u64 0,F.int .u64 0,F.int .u64 0]])))))
 (ret (F.tup [F.int .i64 0,F.agg [F.int .u64 0,F.int .u64 0,F.int .u64 0,F.int .u64 0,F.int .u64 0,F.int .u64 0,F.int .u64 0,F.int .u64 0,F.int .u64 0,F.int .u64 0,F.int .u64 0,F.int .u64 0],F.agg [F.int .u64 0,F.int .u64 0,F.int .u64 0,F.int .u64 0,F.int .u64 0,F.int .u64 0,F.int .u64 0,F.int .u64 0,F.int .u64 0,F.int .u64 0,F.int .u64 0,F.int .u64 0]])))
def G34 (x0:Int) (y0:Int) (x1:Int) (y1:Int) (u0:Int) (v0:Int) (u1:Int) (v1:Int):Option (F):=T34 some x0 y0 x1 y1 u0 v0 u1 v1
theorem t34 (x0:Int) (y0:Int) (x1:Int) (y1:Int) (u0:Int) (v0:Int) (u1:Int) (v1:Int) (r:F) (h:G34 x0 y0 x1 y1 u0 v0 u1 v1=some r):AX Tryz.prog Tryz.f34.results.toList [.code (AT Tryz.f34)] (start Tryz.f34.ntmps ([F.agg [F.int .i64 x0,F.int .i64 y0,F.int .i64 x1,F.int .i64 y1],F.agg [F.int .i64 u0,F.int .i64 v0,F.int .i64 u1,F.int .i64 v1]].map .f)) (r):=by
 refine AX.of_run Au R7 (T:=[]) (n:=200) ?_
 refine gE (Y:=T34 (fun r=>some (.ret (r))) x0 y0 x1 y1 u0 v0 u1 v1) (by kernel_rfl) ?_
 exact (gS h (fun _ h=>(gS h (fun _ h=>gR (by cases h;rfl)) (fun _ h=>(gS h (fun _ h=>(gS h (fun _ h=>(gS h (fun _ h=>(gS h (fun _ h=>(gS h (fun _ h=>gR (by cases h;rfl)) (fun _ h=>(gS h (fun _ h=>(gS h (fun _ h=>gR (by cases h;rfl)) gN)) (fun _ h=>(gS h (fun _ h=>(gS h (fun _ h=>gR (by cases h;rfl)) gN)) gN)))))) (fun _ h=>(gS h (fun _ h=>gR (by cases h;rfl)) (fun _ h=>(gS h (fun _ h=>(gS h (fun _ h=>gR (by cases h;rfl)) gN)) (fun _ h=>(gS h (fun _ h=>(gS h (fun _ h=>gR (by cases h;rfl)) gN)) gN)))))))) (fun _ h=>(gS h (fun _ h=>(gS h (fun _ h=>gR (by cases h;rfl)) (fun _ h=>(gS h (fun _ h=>(gS h (fun _ h=>gR (by cases h;rfl)) gN)) (fun _ h=>(gS h (fun _ h=>(gS h (fun _ h=>gR (by cases h;rfl)) gN)) gN)))))) (fun _ h=>(gS h (fun _ h=>gR (by cases h;rfl)) (fun _ h=>(gS h (fun _ h=>(gS h (fun _ h=>gR (by cases h;rfl)) gN)) (fun _ h=>(gS h (fun _ h=>(gS h (fun _ h=>gR (by cases h;rfl)) gN)) gN)))))))))) (fun _ h=>(gS h (fun _ h=>(gS h (fun _ h=>gR (by cases h;rfl)) (fun _ h=>(gS h (fun _ h=>(gS h (fun _ h=>(gS h (fun _ h=>(gS h (fun _ h=>(gS h (fun _ h=>(gS h (fun _ h=>(gS h (fun _ h=>(gS h (fun _ h=>(gS h (fun _ h=>(gS h (fun _ h=>(gS h (fun _ h=>(gS h (fun _ h=>(gS h (fun _ h=>(gS h (fun _ h=>gR (by cases h;rfl)) gN)) gN)) gN)) gN)) gN)) gN)) gN)) gN)) gN)) gN)) gN)) gN)) gN)) gN)))) (fun _ h=>gR (by cases h;rfl)))))) (fun _ h=>(gS h (fun _ h=>(gS h (fun _ h=>gR (by cases h;rfl)) (fun _ h=>(gS h (fun _ h=>(gS h (fun _ h=>(gS h (fun _ h=>(gS h (fun _ h=>(gS h (fun _ h=>(gS h (fun _ h=>(gS h (fun _ h=>(gS h (fun _ h=>(gS h (fun _ h=>(gS h (fun _ h=>(gS h (fun _ h=>(gS h (fun _ h=>(gS h (fun _ h=>(gS h (fun _ h=>gR (by cases h;rfl)) gN)) gN)) gN)) gN)) gN)) gN)) gN)) gN)) gN)) gN)) gN)) gN)) gN)) gN)))) (fun _ h=>gR (by cases h;rfl)))))))) (fun _ h=>gR (by cases h;rfl)))
def Pu (X:Option F) (M S:Prop):Prop:=∃ (k a0 a1 a2 a3 a4 a5 a6 a7 a8 a9 a10 a11 b0 b1 b2 b3 b4 b5 b6 b7 b8 b9 b10 b11:Int),X=some (F.tup [.int .i64 k,.agg [.int .u64 a0,.int .u64 a1,.int .u64 a2,.int .u64 a3,.int .u64 a4,.int .u64 a5,.int .u64 a6,.int .u64 a7,.int .u64 a8,.int .u64 a9,.int .u64 a10,.int .u64 a11],.agg [.int .u64 b0,.int .u64 b1,.int .u64 b2,.int .u64 b3,.int .u64 b4,.int .u64 b5,.int .u64 b6,.int .u64 b7,.int .u64 b8,.int .u64 b9,.int .u64 b10,.int .u64 b11]])∧GE k M S
theorem HW {k a0 a1 a2 a3 a4 a5 a6 a7 a8 a9 a10 a11 b0 b1 b2 b3 b4 b5 b6 b7 b8 b9 b10 b11:Int} {M S:Prop} (h:GE k M S):Pu (some (F.tup [.int .i64 k,.agg [.int .u64 a0,.int .u64 a1,.int .u64 a2,.int .u64 a3,.int .u64 a4,.int .u64 a5,.int .u64 a6,.int .u64 a7,.int .u64 a8,.int .u64 a9,.int .u64 a10,.int .u64 a11],.agg [.int .u64 b0,.int .u64 b1,.int .u64 b2,.int .u64 b3,.int .u64 b4,.int .u64 b5,.int .u64 b6,.int .u64 b7,.int .u64 b8,.int .u64 b9,.int .u64 b10,.int .u64 b11]])) M S:=⟨_,_,_,_,_,_,_,_,_,_,_,_,_,_,_,_,_,_,_,_,_,_,_,_,_,rfl,h⟩
theorem mP {c:Bool} {X Y:Option F} {M S:Prop} (h1:c=true→Pu X M S) (h2:c=false→Pu Y M S):Pu (AD c X Y) M S:=by
 cases c
 ·exact h2 rfl
 ·exact h1 rfl
theorem Xz {x0 y0 x1 y1 u0 v0 u1 v1:Int} (h:Dx x0 y0 x1 y1 u0 v0 u1 v1):Cr x0 y0 x1 y1 u0 v0 u1 v1:=by
 obtain ⟨h1,h2,h3,h4⟩:=h
 refine .inl ⟨h1,h2,?_⟩
 unfold BP at h3 h4
 unfold C8
 omega
theorem Wp {x0 y0 x1 y1 u0 v0 u1 v1:Int} (h:¬ Cr x0 y0 x1 y1 u0 v0 u1 v1):GE 0 (Cr x0 y0 x1 y1 u0 v0 u1 v1) (Dx x0 y0 x1 y1 u0 v0 u1 v1):=⟨.inl rfl,by simp [h],⟨fun e=>by omega,fun g=>absurd (Xz g) h⟩⟩
theorem Y9 (a b:Int):(if b > a then b else a)=max a b:=by
 rw [Int.max_def]
 split <;> split <;> omega
theorem ZB (a b:Int):(if b<a then b else a)=min a b:=by
 rw [Int.min_def]
 split <;> split <;> omega
theorem vV (x0 y0 x1 y1:Int):decide (I9 x0 y0 x1 y1<0)=(DX x0 y0 x1 y1):=by
 unfold I9
 cases h1:(x0==x1&&y0==y1) with
 | true =>
  simp only [Bool.and_eq_true,beq_iff_eq] at h1
  cases h2:DX x0 y0 x1 y1 with
  | false=>rfl
  | true =>
   have:=EH.1 h2
   unfold BP at this
   omega
 | false=>cases DX x0 y0 x1 y1 <;> rfl
theorem nR (x0 y0 x1 y1:Int):(I9 x0 y0 x1 y1==0)=(x0==x1&&y0==y1):=by
 unfold I9
 cases (x0==x1&&y0==y1) <;> cases DX x0 y0 x1 y1 <;> rfl
theorem sU {x0 y0 x1 y1 u0 v0 u1 v1:Int} (h0:BD x0 y0) (h1:BD x1 y1) (k0:BD u0 v0) (k1:BD u1 v1) (hs:BP x0 y0 x1 y1) (ht:BP u0 v0 u1 v1) (ha:AK x0 y0 x1 y1 u0 v0=0) (hb:AK x0 y0 x1 y1 u1 v1=0)
  (hA:¬ (max x0 u0 > min x1 u1)) (hB:¬ (max (min y0 y1) (min v0 v1) > min (max y0 y1) (max v0 v1))):Pu (G34 x0 y0 x1 y1 u0 v0 u1 v1) (Cr x0 y0 x1 y1 u0 v0 u1 v1) (Dx x0 y0 x1 y1 u0 v0 u1 v1):=by
 have i:∀ {x y:Int},BD x y→Ae x=true∧Ae y=true:=fun h=>by
  unfold BD at h
  exact ⟨Bd.2 (by omega),Bd.2 (by omega)⟩
 have hm:Cr x0 y0 x1 y1 u0 v0 u1 v1 ↔ (C8 u0 v0 x1 y1∧C8 x0 y0 u1 v1):=by
  unfold Cr
  rw [ha,hb]
  constructor
  ·rintro (⟨_,_,h⟩ | ⟨h,_⟩)
   ·exact h
   ·exact absurd ⟨rfl,rfl⟩ h
  ·exact fun h=>.inl ⟨rfl,rfl,h⟩
 have hsp:Dx x0 y0 x1 y1 u0 v0 u1 v1 ↔ (BP u0 v0 x1 y1∧BP x0 y0 u1 v1):=by
  unfold Dx
  rw [ha,hb]
  exact ⟨fun h=>h.2.2,fun h=>⟨rfl,rfl,h⟩⟩
 unfold G34 T34
 rw [(Ds h0 h1 k0).1,(Ds h0 h1 k1).1,ha,hb]
 simp only [if_true,Bool.false_eq_true,if_false,Y9,ZB,decide_eq_false hA,decide_eq_false hB,beq_self_eq_true,AH,AJ,aM,vV,nR,i h0,i h1,i k0,i k1,Bool.and_self]
 clear hA hB
 unfold BP at hs ht
 repeat' first
  | (refine HW ?_;refine MQ fun j hj=>?_;rw [hm,hsp];clear hm hsp ha hb i h0 h1 k0 k1;simp only [EH,IN,Bool.and_true,Bool.and_eq_true,Bool.and_eq_false_iff,beq_iff_eq,beq_eq_false_iff_ne,ne_eq] at *;unfold C8 at *;unfold BP at *;omega)
  | (refine mP (fun _=>?_) (fun _=>?_))
theorem sT {x0 y0 x1 y1 u0 v0 u1 v1:Int} (h0:BD x0 y0) (h1:BD x1 y1) (k0:BD u0 v0) (k1:BD u1 v1) (hn:¬ (AK x0 y0 x1 y1 u0 v0=0∧AK x0 y0 x1 y1 u1 v1=0))
  (ho:¬ (apart (AK x0 y0 x1 y1 u0 v0) (AK x0 y0 x1 y1 u1 v1)∧apart (AK u0 v0 u1 v1 x0 y0) (AK u0 v0 u1 v1 x1 y1)))
  (hA:¬ (max x0 u0 > min x1 u1)) (hB:¬ (max (min y0 y1) (min v0 v1) > min (max y0 y1) (max v0 v1))):Pu (G34 x0 y0 x1 y1 u0 v0 u1 v1) (Cr x0 y0 x1 y1 u0 v0 u1 v1) (Dx x0 y0 x1 y1 u0 v0 u1 v1):=by
 have hm:¬ Cr x0 y0 x1 y1 u0 v0 u1 v1:=by
  unfold Cr
  rintro (⟨a,b,_⟩ | ⟨_,h⟩)
  ·exact hn ⟨a,b⟩
  ·exact ho h
 have z:=Wp hm
 have tt:(true==true)=true:=rfl
 have ft:(false==true)=false:=rfl
 have tf:(true==false)=false:=rfl
 have ff:(false==false)=true:=rfl
 unfold G34 T34
 rw [(Ds h0 h1 k0).1,(Ds h0 h1 k1).1,(Ds k0 k1 h0).1,(Ds k0 k1 h1).1]
 simp only [if_true,Bool.false_eq_true,if_false,Y9,ZB,decide_eq_false hA,decide_eq_false hB,ff,AH,AJ,Ms]
 clear hA hB
 generalize AK x0 y0 x1 y1 u0 v0=A at *
 generalize AK x0 y0 x1 y1 u1 v1=B at *
 generalize AK u0 v0 u1 v1 x0 y0=C at *
 generalize AK u0 v0 u1 v1 x1 y1=D at *
 by_cases ap:apart A B
 ·have cd:¬ apart C D:=fun h=>ho ⟨ap,h⟩
  rw [H6 ap,OQ cd]
  by_cases hA:A=0
  ·have hB:¬ B=0:=fun h=>hn ⟨hA,h⟩
   rw [show (A==0)=true from beq_iff_eq.2 hA,show (B==0)=false from beq_eq_false_iff_ne.2 hB]
   simp only [tt,ff,AH,AJ]
   exact HW z
  ·rw [show (A==0)=false from beq_eq_false_iff_ne.2 hA]
   simp only [ft,ff,AH,AJ]
   exact HW z
 ·rw [OQ ap]
  by_cases hA:A=0
  ·exact absurd (show apart A B by unfold apart;omega) ap
  ·rw [show (A==0)=false from beq_eq_false_iff_ne.2 hA]
   simp only [ft,tf,AH,AJ]
   exact HW z
theorem mulC {a b:Int} (ha:-1000000≤a∧a≤1000000) (hb:-8000000000000≤b∧b≤8000000000000):-8000000000000000000≤a*b∧a*b≤8000000000000000000:=by
 have h:(a*b).natAbs≤1000000*8000000000000:=by rw [Int.natAbs_mul];exact Nat.mul_le_mul (by omega) (by omega)
 omega
theorem meet_in {x0 y0 x1 y1 u0 v0 u1 v1:Int} (h0:BD x0 y0) (h1:BD x1 y1) (k0:BD u0 v0) (k1:BD u1 v1) (hn:¬ (AK x0 y0 x1 y1 u0 v0=0∧AK x0 y0 x1 y1 u1 v1=0))
  (ho:apart (AK x0 y0 x1 y1 u0 v0) (AK x0 y0 x1 y1 u1 v1)∧apart (AK u0 v0 u1 v1 x0 y0) (AK u0 v0 u1 v1 x1 y1))
  (hA:¬ (max x0 u0 > min x1 u1)) (hB:¬ (max (min y0 y1) (min v0 v1) > min (max y0 y1) (max v0 v1))):Pu (G34 x0 y0 x1 y1 u0 v0 u1 v1) (Cr x0 y0 x1 y1 u0 v0 u1 v1) (Dx x0 y0 x1 y1 u0 v0 u1 v1):=by
 have hm:Cr x0 y0 x1 y1 u0 v0 u1 v1:=.inr ⟨hn,ho⟩
 have hsp:¬ Dx x0 y0 x1 y1 u0 v0 u1 v1:=fun h=>hn ⟨h.1,h.2.1⟩
 have z:GE 1 (Cr x0 y0 x1 y1 u0 v0 u1 v1) (Dx x0 y0 x1 y1 u0 v0 u1 v1):=⟨.inr (.inl rfl),by simp [hm],by simp [hsp]⟩
 have tt:(true==true)=true:=rfl
 have ft:(false==true)=false:=rfl
 have ff:(false==false)=true:=rfl
 obtain ⟨e0,l0,g0⟩:=Ds h0 h1 k0
 obtain ⟨e1,l1,g1⟩:=Ds h0 h1 k1
 have s0:=h0
 have s1:=h1
 have t0:=k0
 have t1:=k1
 unfold BD at s0 s1 t0 t1
 have r:∀ n:Int,AC [F.int .i64 n]=AF n:=fun _=>rfl
 unfold G34 T34
 rw [e0,e1,(Ds k0 k1 h0).1,(Ds k0 k1 h1).1]
 simp only [if_true,Bool.false_eq_true,if_false,Y9,ZB,decide_eq_false hA,decide_eq_false hB,ff,AH,AJ,Ms,H6 ho.1,H6 ho.2]
 clear hA hB hm hsp
 have wx:IntKind.i64.wrap (u1-u0)=u1-u0:=As (by omega) (by omega)
 have wy:IntKind.i64.wrap (v1-v0)=v1-v0:=As (by omega) (by omega)
 have ho1:=ho.1
 generalize AK x0 y0 x1 y1 u0 v0=A at *
 generalize AK x0 y0 x1 y1 u1 v1=B at *
 have wd:IntKind.i64.wrap (A-B)=A-B:=As (by omega) (by omega)
 have n1:∀ {w:Int},Ae w=true→w.natAbs<18446744073709551616 ^ 1:=fun h=>by have:=Bd.1 h;omega
 have iA:Ae A=true:=Bd.2 (by omega)
 have id:Ae (A-B)=true:=Bd.2 (by omega)
 have iu:Ae u0=true:=Bd.2 (by omega)
 have iv:Ae v0=true:=Bd.2 (by omega)
 have ix:Ae (u1-u0)=true:=Bd.2 (by omega)
 have iy:Ae (v1-v0)=true:=Bd.2 (by omega)
 have bx:(u0*(A-B)+A*(u1-u0)).natAbs<18446744073709551616 ^ 1:=by
  have e:u0*(A-B)+A*(u1-u0)=u1*A-u0*B:=by grind
  have m1:=mulC (a:=u1) (b:=A) (by omega) (by omega)
  have m2:=mulC (a:=u0) (b:=B) (by omega) (by omega)
  rw [e,Nat.pow_one]
  omega
 have by':(v0*(A-B)+A*(v1-v0)).natAbs<18446744073709551616 ^ 1:=by
  have e:v0*(A-B)+A*(v1-v0)=v1*A-v0*B:=by grind
  have m1:=mulC (a:=v1) (b:=A) (by omega) (by omega)
  have m2:=mulC (a:=v0) (b:=B) (by omega) (by omega)
  rw [e,Nat.pow_one]
  omega
 have hsp3:HK 1 (A8 (u0*(A-B)+A*(u1-u0)) (v0*(A-B)+A*(v1-v0)) (A-B))=true:=S6 bx by' (n1 id)
 simp only [wx,wy,wd,r,ME,B4,iA,id,iu,iv,ix,iy,BL (n1 iA) (show 1≤400 by omega),BL (n1 id) (show 1≤400 by omega),BL (n1 iu) (show 1≤400 by omega),BL (n1 iv) (show 1≤400 by omega),BL (n1 ix) (show 1≤400 by omega),BL (n1 iy) (show 1≤400 by omega),
  BL (CO (n1 iu) (n1 id)) (show 1+1≤400 by omega),BL (CO (n1 iv) (n1 id)) (show 1+1≤400 by omega),BL (CO (n1 iA) (n1 ix)) (show 1+1≤400 by omega),BL (CO (n1 iA) (n1 iy)) (show 1+1≤400 by omega),hsp3,Bool.and_self,AH]
 by_cases hA:A=0
 ·have hB:¬ B=0:=fun h=>hn ⟨hA,h⟩
  rw [show (A==0)=true from beq_iff_eq.2 hA,show (B==0)=false from beq_eq_false_iff_ne.2 hB]
  simp only [tt,ff,AH,AJ]
  exact HW z
 ·rw [show (A==0)=false from beq_eq_false_iff_ne.2 hA]
  simp only [ft,ff,AH,AJ]
  exact HW z
theorem ZC {x0 y0 x1 y1 u0 v0 u1 v1:Int} (h0:BD x0 y0) (h1:BD x1 y1) (k0:BD u0 v0) (k1:BD u1 v1) (hs:BP x0 y0 x1 y1) (ht:BP u0 v0 u1 v1):Pu (G34 x0 y0 x1 y1 u0 v0 u1 v1) (Cr x0 y0 x1 y1 u0 v0 u1 v1) (Dx x0 y0 x1 y1 u0 v0 u1 v1):=by
 have box:=mF (x0:=x0) (y0:=y0) (x1:=x1) (y1:=y1) (u0:=u0) (v0:=v0) (u1:=u1) (v1:=v1) hs ht
 have ff:(false==false)=true:=rfl
 have tf:(true==false)=false:=rfl
 by_cases hA:max x0 u0 > min x1 u1
 ·have hm:¬ Cr x0 y0 x1 y1 u0 v0 u1 v1:=fun h=>by
   have:=(box h).1
   unfold BP at hs ht
   omega
  unfold G34 T34
  simp only [if_true,Bool.false_eq_true,if_false,Y9,ZB,decide_eq_true hA,tf,AJ]
  exact HW (Wp hm)
 ·by_cases hB:max (min y0 y1) (min v0 v1) > min (max y0 y1) (max v0 v1)
  ·have hm:¬ Cr x0 y0 x1 y1 u0 v0 u1 v1:=fun h=>by
    have:=(box h).2
    omega
   unfold G34 T34
   simp only [if_true,Bool.false_eq_true,if_false,Y9,ZB,decide_eq_false hA,decide_eq_true hB,ff,AH]
   exact HW (Wp hm)
  ·by_cases hn:AK x0 y0 x1 y1 u0 v0=0∧AK x0 y0 x1 y1 u1 v1=0
   ·exact sU h0 h1 k0 k1 hs ht hn.1 hn.2 hA hB
   ·by_cases ho:apart (AK x0 y0 x1 y1 u0 v0) (AK x0 y0 x1 y1 u1 v1)∧apart (AK u0 v0 u1 v1 x0 y0) (AK u0 v0 u1 v1 x1 y1)
    ·exact meet_in h0 h1 k0 k1 hn ho hA hB
    ·exact sT h0 h1 k0 k1 hn ho hA hB
def EA (x0 y0 x1 y1 u0 v0 u1 v1:Int):Int:=match G34 x0 y0 x1 y1 u0 v0 u1 v1 with | some (.tup [.int _ k,_,_])=>k | _=>0
def C1 (i:Nat) (x0 y0 x1 y1 u0 v0 u1 v1:Int):Int:=match G34 x0 y0 x1 y1 u0 v0 u1 v1 with | some (.tup [_,.agg l,.agg m])=>intAt (l++m) i | _=>0
theorem tF {x0 y0 x1 y1 u0 v0 u1 v1:Int} (hs:Df x0 y0 x1 y1=true) (ht:Df u0 v0 u1 v1=true):GE (EA x0 y0 x1 y1 u0 v0 u1 v1) (Cr x0 y0 x1 y1 u0 v0 u1 v1) (Dx x0 y0 x1 y1 u0 v0 u1 v1):=by
 obtain ⟨h0,h1,h2⟩:=EO hs
 obtain ⟨k0,k1,k2⟩:=EO ht
 obtain ⟨_,_,_,_,_,_,_,_,_,_,_,_,_,_,_,_,_,_,_,_,_,_,_,_,_,e,h⟩:=ZC h0 h1 k0 k1 h2 k2
 unfold EA
 rw [e]
 exact h
theorem kindI_3 {x0 y0 x1 y1 u0 v0 u1 v1:Int} (hs:Df x0 y0 x1 y1=true) (ht:Df u0 v0 u1 v1=true):EA x0 y0 x1 y1 u0 v0 u1 v1=EB x0 y0 x1 y1 u0 v0 u1 v1:=mM (tF hs ht) (Jc hs ht)
def Q8:List F→F | [.agg [.int .i64 a,.int .i64 b,.int .i64 c,.int .i64 d],.agg [.int .i64 e,.int .i64 f,.int .i64 g,.int .i64 h]]=>.tup [.int .i64 (EA a b c d e f g h),.agg [.int .u64 (C1 0 a b c d e f g h),.int .u64 (C1 1 a b c d e f g h),.int .u64 (C1 2 a b c d e f g h),.int .u64 (C1 3 a b c d e f g h),.int .u64 (C1 4 a b c d e f g h),.int .u64 (C1 5 a b c d e f g h),.int .u64 (C1 6 a b c d e f g h),.int .u64 (C1 7 a b c d e f g h),.int .u64 (C1 8 a b c d e f g h),.int .u64 (C1 9 a b c d e f g h),.int .u64 (C1 10 a b c d e f g h),.int .u64 (C1 11 a b c d e f g h)],.agg [.int .u64 (C1 12 a b c d e f g h),.int .u64 (C1 13 a b c d e f g h),.int .u64 (C1 14 a b c d e f g h),.int .u64 (C1 15 a b c d e f g h),.int .u64 (C1 16 a b c d e f g h),.int .u64 (C1 17 a b c d e f g h),.int .u64 (C1 18 a b c d e f g h),.int .u64 (C1 19 a b c d e f g h),.int .u64 (C1 20 a b c d e f g h),.int .u64 (C1 21 a b c d e f g h),.int .u64 (C1 22 a b c d e f g h),.int .u64 (C1 23 a b c d e f g h)]] | _=>.dflt
theorem okMeetI:Ak Tryz.prog 34 JS Q8 :=
 B2 (c:=AT Tryz.f34) Tryz.func34 (by kernel_rfl) (by kernel_rfl) fun xs hp=>match xs,hp with
 | [.agg [.int .i64 a,.int .i64 b,.int .i64 c,.int .i64 d],.agg [.int .i64 e,.int .i64 f,.int .i64 g,.int .i64 h]],hp=>by
  simp only [JS,Bool.and_eq_true] at hp
  obtain ⟨h0,h1,h2⟩:=EO hp.1
  obtain ⟨k0,k1,k2⟩:=EO hp.2
  obtain ⟨k,p0,p1,p2,p3,p4,p5,p6,p7,p8,p9,p10,p11,q0,q1,q2,q3,q4,q5,q6,q7,q8,q9,q10,q11,e1,hk⟩:=ZC h0 h1 k0 k1 h2 k2
  have t:=t34 a b c d e f g h _ e1
  have r:Q8 [.agg [.int .i64 a,.int .i64 b,.int .i64 c,.int .i64 d],.agg [.int .i64 e,.int .i64 f,.int .i64 g,.int .i64 h]]=.tup [.int .i64 k,.agg [.int .u64 p0,.int .u64 p1,.int .u64 p2,.int .u64 p3,.int .u64 p4,.int .u64 p5,.int .u64 p6,.int .u64 p7,.int .u64 p8,.int .u64 p9,.int .u64 p10,.int .u64 p11],.agg [.int .u64 q0,.int .u64 q1,.int .u64 q2,.int .u64 q3,.int .u64 q4,.int .u64 q5,.int .u64 q6,.int .u64 q7,.int .u64 q8,.int .u64 q9,.int .u64 q10,.int .u64 q11]]:=by
   show F.tup [.int .i64 (EA a b c d e f g h),.agg [.int .u64 (C1 0 a b c d e f g h),.int .u64 (C1 1 a b c d e f g h),.int .u64 (C1 2 a b c d e f g h),.int .u64 (C1 3 a b c d e f g h),.int .u64 (C1 4 a b c d e f g h),.int .u64 (C1 5 a b c d e f g h),.int .u64 (C1 6 a b c d e f g h),.int .u64 (C1 7 a b c d e f g h),.int .u64 (C1 8 a b c d e f g h),.int .u64 (C1 9 a b c d e f g h),.int .u64 (C1 10 a b c d e f g h),.int .u64 (C1 11 a b c d e f g h)],.agg [.int .u64 (C1 12 a b c d e f g h),.int .u64 (C1 13 a b c d e f g h),.int .u64 (C1 14 a b c d e f g h),.int .u64 (C1 15 a b c d e f g h),.int .u64 (C1 16 a b c d e f g h),.int .u64 (C1 17 a b c d e f g h),.int .u64 (C1 18 a b c d e f g h),.int .u64 (C1 19 a b c d e f g h),.int .u64 (C1 20 a b c d e f g h),.int .u64 (C1 21 a b c d e f g h),.int .u64 (C1 22 a b c d e f g h),.int .u64 (C1 23 a b c d e f g h)]]=_
   simp only [EA,C1,e1]
   rfl
  rw [r]
  exact t
def envH9:Env:=vC.add 34 (.pure JS Q8)
theorem vB:Az Tryz.prog envH9:=(Env.add_ok R7 okMeetI.sp)
end
noncomputable section
def vI:Env:=vC
theorem nG:Az Tryz.prog vI:=R7
end
noncomputable section
set_option maxHeartbeats 1000000
def gA (h:Nat→Nat→Bool) (m n:Nat):Bool:=DJ (fun i=>DJ (fun j=>!h i j) 0 m) 0 n
theorem Cs {α:Type} {l:List α} {d:α} {i:Nat} (h:i<l.length):l.getD i d ∈ l:=by
 rw [List.getD_eq_getElem?_getD,List.getElem?_eq_getElem h]
 exact List.getElem_mem h
def vH:Env:=vI
theorem nF:Az Tryz.prog vH:=nG
end
noncomputable section
def vG:Env:=vH.or envH9
theorem nE:Az Tryz.prog vG:=Env.or_ok nF vB
end
noncomputable section
set_option maxHeartbeats 1000000
theorem leg_ok {a b:Pt} (ha:BD a.x a.y) (hb:BD b.x b.y) (h:a ≠ b):Df (GL a b).x0 (GL a b).y0 (GL a b).x1 (GL a b).y1=true:=by
 have oa:=IE.2 ha
 have ob:=IE.2 hb
 unfold Df
 rcases JZ a b h with ⟨h1,h2⟩ | ⟨h1,h2⟩ <;> rw [h2] <;> simp only [oa,ob,EH.2 h1,Bool.and_self]
/-! Both tell the same. -/
def vF:Env:=vG
theorem nD:Az Tryz.prog vF:=nE
end
noncomputable section
def uD:Env:=envZ3.or vF
theorem mY:Az Tryz.prog uD:=Env.or_ok uE nD
end
noncomputable section
def envZ5:Env:=uD
theorem Jh:Az Tryz.prog envZ5:=mY
end
noncomputable section
variable {P:Program}
def OM (dec:List U→Option (Nat × F)) (pre:List F→F→Bool) (us:List U) (H:List HO):Bool:=match dec us with
 | some (o,x)=>(match H[o]? with
  | some (.box cu)=>(match Bf [] cu with
   | some cs=>pre cs x
   | none=>false)
  | _=>false)
 | none=>false
def Mm (dec:List U→Option (Nat × F)) (res:List F→F→F × List F) (us:List U) (H:List HO):U × List HO:=match dec us with
 | some (o,x)=>(match H[o]? with
  | some (.box cu)=>(match Bf [] cu with
   | some cs=>(.f (res cs x).1,H.set o (BE (res cs x).2))
   | none=>(.bad,H))
  | _=>(.bad,H))
 | none=>(.bad,H)
theorem eV {f:FuncId} {dec:List U→Option (Nat × F)} {mk:F→List U} {pre:List F→F→Bool} {res:List F→F→F × List F}
  (hdec:∀ us o x,dec us=some (o,x)→∀ (w:World) (Z:Nat→Prop) (m:Nat→Nat) (H:List HO) (cu:List U) (cs:List F) (args:List Value),H[o]?=some (.box cu)→Ck w Z m H us args→Ck w Z (fun _=>m o) [BE cs] (mk x) args)
  (h:∀ cs x,pre cs x=true→wT P f (mk x) [BE cs] (res cs x).1 [(res cs x).2]):Gk P f (.shared (OM dec pre) (Mm dec res)):=by
 intro us H hp w Z m args hH hL
 unfold OM at hp
 split at hp
 ·rename_i o x hd
  split at hp
  ·rename_i cu ho
   split at hp
   ·rename_i cs hcs
    have hres:Mm dec res us H=(.f (res cs x).1,H.set o (BE (res cs x).2)):=by simp only [Mm,hd,ho,hcs]
    rw [hres]
    obtain ⟨hl1,hg1⟩:=Bk cu cs hcs
    have hlo:A0 H o:=⟨_,ho,rfl⟩
    have hobk:=hH.ob o _ ho
    have hHsub:HOK w Z (fun _=>m o) [BE cs]:=by
     refine ⟨hH.zlt,fun _ _=>hH.apart o hlo,fun a b ha hb _=>?_,fun k ob hk=>?_⟩
     ·obtain ⟨_,ha,_⟩:=ha
      obtain ⟨_,hb,_⟩:=hb
      have:=(List.getElem?_eq_some_iff.1 ha).1
      have:=(List.getElem?_eq_some_iff.1 hb).1
      simp at *
      omega
     ·have hk0:=(List.getElem?_eq_some_iff.1 hk).1
      obtain rfl:k=0:=by simp at hk0;exact hk0
      simp at hk;subst hk
      obtain ⟨c,el,fr,q1,q2,q3,q4⟩:=hobk
      refine ⟨c,el,fr,q1,q2,by rw [List.length_map,← hl1];exact q3,fun j u hu=>?_⟩
      rw [List.getElem?_map] at hu
      cases hxj:cs[j]? with
      | none=>rw [hxj] at hu;cases hu
      | some y =>
       rw [hxj] at hu;cases hu
       have hj:=(List.getElem?_eq_some_iff.1 hxj).1
       have huj:cu[j]?=some cu[j]:=List.getElem?_eq_getElem (by omega)
       obtain ⟨v,hv,hr⟩:=q4 j _ huj
       exact ⟨v,hv,.f _ _ (C6 hH hr (hg1 j _ y huj hxj))⟩
    have hLsub:=hdec us o x hd w Z m H cu cs args.toList ho hL
    refine (h cs x hp w Z (fun _=>m o) args hHsub hLsub).mono fun v w' ⟨Z',m',hE,hH',hr⟩=>?_
    have hm0:m' 0=m o:=by
     have:=hE.evol 0 (BE cs) (BE (res cs x).2) rfl rfl
     simp only [BE,CA] at this
     exact this.2
    have hlen:(res cs x).2.length=cs.length:=by
     have:=hE.evol 0 (BE cs) (BE (res cs x).2) rfl rfl
     simp only [BE,CA,List.length_map] at this
     exact this.1
    have hlt:o<H.length:=(List.getElem?_eq_some_iff.1 ho).1
    have hlive:∀ k,A0 (H.set o (BE (res cs x).2)) k→A0 H k:=by
     intro k ⟨ob1,h1,hd⟩
     by_cases hk:o=k
     ·subst hk;exact hlo
     ·rw [List.getElem?_set_ne hk] at h1;exact ⟨ob1,h1,hd⟩
    have hkeep:∀ k,A0 H k→k ≠ o→w'.heap[m k]?=w.heap[m k]?:=by
     intro k hk hne
     refine hE.rest _ (hH.blk_lt hk) fun o' ho' e=>hne (hH.inj k o hk hlo e.symm)
    have hEE:Ext w Z m H w' Z' m (H.set o (BE (res cs x).2)):=by
     refine ⟨hE.os,hE.tape,hE.output,hE.size,hE.sub,?_,hE.kept,?_,by simp,?_,fun k hk=>.inl ⟨hlive k hk,rfl⟩⟩
     ·intro b hb
      rcases hE.back b hb with h1 | h1 | ⟨o',ho',e⟩
      ·exact .inl h1
      ·exact .inr (.inl h1)
      ·exact .inr (.inr ⟨o,hlo,e⟩)
     ·intro b hb hn
      exact hE.rest b hb fun o' ho' e=>hn o hlo e
     ·intro k ob ob' hk hk'
      by_cases hko:o=k
      ·subst hko
       rw [List.getElem?_set_self hlt] at hk'
       rw [ho] at hk
       cases hk;cases hk'
       simp only [BE,CA,List.length_map]
       exact ⟨by rw [hlen,hl1],trivial⟩
      ·rw [List.getElem?_set_ne hko,hk] at hk'
       cases hk'
       cases ob with
       | arr sz n g =>
        refine ⟨rfl,Nat.le_refl _,fun _=>⟨rfl,?_⟩⟩
        simp only [A4,hkeep k ⟨_,hk,rfl⟩ (fun e=>hko e.symm)]
       | _=>simp [CA]
    refine ⟨Z',m,hEE,⟨hH'.zlt,?_,fun a b ha hb e=>hH.inj a b (hlive a ha) (hlive b hb) e,?_⟩,.f _ _ hr⟩
    ·intro k hk hz
     have hk':=hlive k hk
     by_cases hko:k=o
     ·subst hko
      exact hH'.apart 0 ⟨_,rfl,rfl⟩ (by rw [hm0];exact hz)
     ·rcases hE.back _ hz with h1 | h1 | ⟨o',ho',e⟩
      ·exact hH.apart k hk' h1
      ·have:=hH.blk_lt hk';omega
      ·exact hko (hH.inj k o hk' hlo e.symm)
    ·intro k ob hk
     by_cases hko:o=k
     ·subst hko
      rw [List.getElem?_set_self hlt] at hk
      cases hk
      obtain ⟨c,el,fr,q1,q2,q3,q4⟩:=hH'.ob 0 _ rfl
      rw [hm0] at q1 q2
      refine ⟨c,el,fr,q1,q2,q3,fun j u hu=>?_⟩
      obtain ⟨v,hv,hr⟩:=q4 j u hu
      refine ⟨v,hv,?_⟩
      rw [List.getElem?_map] at hu
      cases hxj:(res cs x).2[j]? with
      | none=>rw [hxj] at hu;cases hu
      | some y=>rw [hxj] at hu;cases hu;cases hr with | f _ _ hr=>exact .f _ _ hr
     ·rw [List.getElem?_set_ne hko] at hk
      by_cases hd:ob.live=true
      ·exact (hH.ob k ob hk).mono hEE (hkeep k ⟨_,hk,hd⟩ (fun e=>hko e.symm))
      ·cases ob <;> simp_all [Ij,HO.live]
   ·cases hp
  ·cases hp
 ·cases hp
theorem hU {w:World} {Z:Nat→Prop} {m:Nat→Nat} {H:List HO} {o:Nat} {v:Value} {cu:List U} {cs:List F} (ho:H[o]?=some (.box cu)) (h:RepU w Z m H (.hp o 0) v):RepU w Z (fun _=>m o) [BE cs] (.hp 0 0) v:=by
 cases h with
 | hp _ _ _ h1 hk hvv=>exact .hp 0 0 v h1 ⟨_,rfl,by simp [BE]⟩ fun cs' _=>hvv _ ho
theorem qW {w:World} {Z:Nat→Prop} {m m':Nat→Nat} {H H':List HO} {x:F} {v:Value} (h:RepU w Z m H (.f x) v):RepU w Z m' H' (.f x) v:=by
 cases h with
 | f _ _ h=>exact .f _ _ h
def PK:List U→Option (Nat × F)
 | [.f x,.hp o 0]=>some (o,x)
 | _=>none
theorem nN:∀ us o x,PK us=some (o,x)→∀ (w:World) (Z:Nat→Prop) (m:Nat→Nat) (H:List HO) (cu:List U) (cs:List F) (args:List Value),H[o]?=some (.box cu)→Ck w Z m H us args→Ck w Z (fun _=>m o) [BE cs] [.f x,.hp 0 0] args:=by
 intro us o x hd w Z m H cu cs args ho hL
 unfold PK at hd
 split at hd
 ·rename_i y q
  cases hd
  refine ⟨hL.1,fun j u v hu hv=>?_⟩
  match j,hu with
  | 0,hu=>cases hu;exact qW (hL.2 0 _ v rfl hv)
  | 1,hu=>cases hu;exact hU ho (hL.2 1 _ v rfl hv)
  | j+2,hu=>simp at hu
 ·cases hd
def Ml (g:FuncId):List U→Option (Nat × F)
 | [.f x,.fn g' [.hp o 0]]=>if g'=g then some (o,x) else none
 | _=>none
theorem aG (g:FuncId):∀ us o x,Ml g us=some (o,x)→∀ (w:World) (Z:Nat→Prop) (m:Nat→Nat) (H:List HO) (cu:List U) (cs:List F) (args:List Value),H[o]?=some (.box cu)→Ck w Z m H us args→Ck w Z (fun _=>m o) [BE cs] [.f x,.fn g [.hp 0 0]] args:=by
 intro us o x hd w Z m H cu cs args ho hL
 unfold Ml at hd
 split at hd
 ·rename_i y g' q
  split at hd
  ·rename_i hg
   subst hg
   cases hd
   refine ⟨hL.1,fun j u v hu hv=>?_⟩
   match j,hu with
   | 0,hu=>cases hu;exact qW (hL.2 0 _ v rfl hv)
   | 1,hu =>
    cases hu
    have:=hL.2 1 _ v rfl hv
    cases this with
    | fn _ _ vs hl hr =>
     refine .fn _ _ vs hl fun j u v hu hv=>?_
     match j,hu with
     | 0,hu=>cases hu;exact hU ho (hr 0 _ v rfl hv)
     | j+1,hu=>simp at hu
   | j+2,hu=>simp at hu
  ·cases hd
 ·cases hd
theorem Ye {w:World} {Z:Nat→Prop} {m:Nat→Nat} {v:Value} {cs ds:List F} (h:RepU w Z m [BE cs] (.hp 0 0) v):RepU w Z m [BE ds] (.hp 0 0) v:=by
 cases h with
 | hp _ _ _ h1 hk hvv=>exact .hp 0 0 v h1 ⟨_,rfl,by simp [BE]⟩ fun cs' _=>hvv _ rfl
theorem iB {w:World} {Z:Nat→Prop} {m m':Nat→Nat} {H H':List HO} {x y:F} {v:Value} (hle:FLe x y) (h:RepU w Z m H (.f x) v):RepU w Z m' H' (.f y) v:=by
 cases h with
 | f _ _ h=>exact .f _ _ (hle _ _ _ h)
def jF (x:F):List U:=[.f x,.hp 0 0]
def tX (g:FuncId) (x:F):List U:=[.f x,.fn g [.hp 0 0]]
theorem wD {x y:F} (hle:FLe x y) (w:World) (Z:Nat→Prop) (m:Nat→Nat) (cs ds:List F) (args:List Value) (h:Ck w Z m [BE cs] (jF x) args):Ck w Z m [BE ds] (jF y) args:=by
 refine ⟨h.1,fun j u v hu hv=>?_⟩
 match j,hu with
 | 0,hu=>cases hu;exact iB hle (h.2 0 _ v rfl hv)
 | 1,hu=>cases hu;exact Ye (h.2 1 _ v rfl hv)
 | j+2,hu=>simp [jF] at hu
theorem iY {g:FuncId} {x y:F} (hle:FLe x y) (w:World) (Z:Nat→Prop) (m:Nat→Nat) (cs ds:List F) (args:List Value) (h:Ck w Z m [BE cs] (tX g x) args):Ck w Z m [BE ds] (tX g y) args:=by
 refine ⟨h.1,fun j u v hu hv=>?_⟩
 match j,hu with
 | 0,hu=>cases hu;exact iB hle (h.2 0 _ v rfl hv)
 | 1,hu =>
  cases hu
  have:=h.2 1 _ v rfl hv
  cases this with
  | fn _ _ vs hl hr =>
   refine .fn _ _ vs hl fun j u v hu hv=>?_
   match j,hu with
   | 0,hu=>cases hu;exact Ye (hr 0 _ v rfl hv)
   | j+1,hu=>simp at hu
 | j+2,hu=>simp [tX] at hu
theorem PC {f:FuncId} {fn:Func} {c:Code} (hf:P.funcs[f]?=some fn) (hb:fn.body=some c) (hodd:Mi fn=false) {dec:List U→Option (Nat × F)} {mk:F→List U} {pre:List F→F→Bool} {res:List F→F→F × List F}
  (hdec:∀ us o x,dec us=some (o,x)→∀ (w:World) (Z:Nat→Prop) (m:Nat→Nat) (H:List HO) (cu:List U) (cs:List F) (args:List Value),H[o]?=some (.box cu)→Ck w Z m H us args→Ck w Z (fun _=>m o) [BE cs] (mk x) args)
  (hmk:∀ {x y:F},FLe x y→∀ (w:World) (Z:Nat→Prop) (m:Nat→Nat) (cs ds:List F) (args:List Value),Ck w Z m [BE cs] (mk x) args→Ck w Z m [BE ds] (mk y) args)
  (h:∀ cs x,pre cs x=true→∃ ds y r os,E5 cs ds∧FLe x y∧Ct P 1 fn.results.toList [.code c] (Cx fn.ntmps (mk y) [BE ds]) (.tup [r,.agg os])∧FLe r (res cs x).1∧E5 os (res cs x).2):Gk P f (.shared (OM dec pre) (Mm dec res)) :=
 eV hdec fun cs x hp w Z m args hH hL=>by
  obtain ⟨ds,y,r,os,h1,h2,h3,h4,h5⟩:=h cs x hp
  exact (tW hf hb hodd (H:=[BE ds]) (os:=[os]) rfl (by simp) h3 w Z m args (hH.box_le h1) (hmk h2 w Z m cs ds _ hL)).mono fun v w' ⟨Z',m',hE,hH',hr⟩=>⟨Z',m',hE.box_le h1 h5,hH'.box_le h5,h4 _ _ _ hr⟩
end
noncomputable section
def CN (r:List Pt):F:=.agg [Ac r]
def BJ:F→Bool
 | .agg [x]=>Da x
 | _=>false
def AR:F→List Pt
 | .agg [x]=>BS x
 | _=>[]
theorem Jx (r:List Pt):AR (CN r)=r:=Gq r
theorem KG (r:List Pt):BJ (CN r)=true:=G1 r
theorem Te {x:F} (h:BJ x=true):∃ y,x=.agg [y]∧Da y=true:=by
 unfold BJ at h
 split at h
 ·exact ⟨_,rfl,h⟩
 ·cases h
theorem CT {x:F} (h:BJ x=true):FLe x (CN (AR x))∧FLe (CN (AR x)) x:=by
 obtain ⟨y,rfl,hy⟩:=Te h
 exact ⟨FLe.agg ⟨(Ee hy).1,trivial⟩,FLe.agg ⟨(Ee hy).2,trivial⟩⟩
theorem ring_el {x:F} (h:BJ x=true):ElLe x (CN (AR x))∧ElLe (CN (AR x)) x:=by
 obtain ⟨y,rfl,hy⟩:=Te h
 have hc:Bi y=true:=by
  cases y with
  | sl n g=>rfl
  | _=>simp [Da,Dq] at hy
 exact ⟨ElLe.agg ⟨(Ee hy).1,trivial⟩ fun _ u hu=>by
   simp only [List.mem_cons,List.not_mem_nil,or_false] at hu
   subst hu
   rfl,
  ElLe.agg ⟨(Ee hy).2,trivial⟩ fun _ u hu=>by
   simp only [List.mem_cons,List.not_mem_nil,or_false] at hu
   subst hu
   exact hc⟩
def At (l:List (List Pt)):F:=slF CN [] l
def BR (x:F):Bool:=Dq BJ x
def Ah (x:F):List (List Pt):=Gi AR x
theorem B3 (l:List (List Pt)):Ah (At l)=l:=NV (fun r=>Jx r) l
theorem B5 (l:List (List Pt)):BR (At l)=true:=N5 l fun r _=>KG r
theorem DC {x:F} (h:BR x=true):FLe x (At (Ah x))∧FLe (At (Ah x)) x:=X1 (fun _ h=>ring_el h) h
theorem bR (q:List Pt) (i:Nat) (h:i≤q.length):BS (F.sl i fun j=>ptF (q.getD j .zero))=q.take i∧Da (F.sl i fun j=>ptF (q.getD j .zero))=true:=by
 constructor
 ·show (List.range i).map (fun j=>unPt (ptF (q.getD j .zero)))=_
  apply List.ext_getElem
  ·simp;omega
  ·intro j h1 h2
   simp at h1
   simp [List.getD,List.getElem?_eq_getElem (show j<q.length by omega)]
   rfl
 ·simp only [Da,Dq,List.all_eq_true,List.mem_range]
  exact fun _ _=>rfl
theorem WH (l:List (List Pt)) (i:Nat) (h:i≤l.length):Ah (F.sl i fun j=>CN (l.getD j []))=l.take i∧BR (F.sl i fun j=>CN (l.getD j []))=true:=by
 constructor
 ·show (List.range i).map (fun j=>AR (CN (l.getD j [])))=_
  apply List.ext_getElem
  ·simp;omega
  ·intro j h1 h2
   simp at h1
   simp [List.getD,List.getElem?_eq_getElem (show j<l.length by omega),Jx]
 ·simp only [BR,Dq,List.all_eq_true,List.mem_range]
  exact fun _ _=>KG _
def AO (q:List Pt) (i:Nat):Sg:=GL (q.getD i .zero) (q.getD ((i+1) % q.length) .zero)
def Cp (q:List Pt):List Sg:=(List.range q.length).map (AO q)
theorem GI (q:List Pt):(Cp q).length=q.length:=by simp [Cp]
theorem HN (q:List Pt) {i:Nat} (h:i<q.length):(Cp q).getD i .zero=AO q i:=by
 simp [Cp,List.getD,h]
end
noncomputable section
/-! ### function 75 -/
def T75 {ρ:Type} (ret:(Int)→(Int)→(Int)→(Int)→Option ρ) (q:List Pt) (i:Int):Option ρ :=
 (AD (decide (0≤i))
 (AD (decide (i<(↑q.length:Int)))
 (AD ((↑q.length:Int) != 0)
 (AD (decide (0≤(IntKind.i64.wrap (i+1)).tmod (↑q.length:Int)))
 (AD (decide ((IntKind.i64.wrap (i+1)).tmod (↑q.length:Int)<(↑q.length:Int)))
 (AD (DX (q.getD ((IntKind.i64.wrap (i+1)).tmod (↑q.length:Int)).toNat Pt.zero).x (q.getD ((IntKind.i64.wrap (i+1)).tmod (↑q.length:Int)).toNat Pt.zero).y (q.getD i.toNat Pt.zero).x (q.getD i.toNat Pt.zero).y)
 (ret ((q.getD ((IntKind.i64.wrap (i+1)).tmod (↑q.length:Int)).toNat Pt.zero).x) ((q.getD ((IntKind.i64.wrap (i+1)).tmod (↑q.length:Int)).toNat Pt.zero).y) ((q.getD i.toNat Pt.zero).x) ((q.getD i.toNat Pt.zero).y))
 (ret ((q.getD i.toNat Pt.zero).x) ((q.getD i.toNat Pt.zero).y) ((q.getD ((IntKind.i64.wrap (i+1)).tmod (↑q.length:Int)).toNat Pt.zero).x) ((q.getD ((IntKind.i64.wrap (i+1)).tmod (↑q.length:Int)).toNat Pt.zero).y)))
 none)
 none)
 none)
 none)
 none)
def G75 (q:List Pt) (i:Int):Option ((Int) × (Int) × (Int) × (Int)):=T75 (fun a b c d=>some (a,b,c,d)) q i
theorem t75 (q:List Pt) (i:Int) (a:Int) (b:Int) (c:Int) (d:Int) (h:G75 q i=some (a,b,c,d)):AX Tryz.prog Tryz.f75.results.toList [.code (AT Tryz.f75)] (start Tryz.f75.ntmps ([F.agg [Ac q],F.int .i64 i].map .f)) (F.agg [F.int .i64 a,F.int .i64 b,F.int .i64 c,F.int .i64 d]):=by
 refine AX.of_run Au Jh (T:=[]) (n:=200) ?_
 refine gE (Y:=T75 (fun a b c d=>some (.ret (F.agg [F.int .i64 a,F.int .i64 b,F.int .i64 c,F.int .i64 d]))) q i) (by kernel_rfl) ?_
 exact (gS h (fun _ h=>(gS h (fun _ h=>(gS h (fun _ h=>(gS h (fun _ h=>(gS h (fun _ h=>(gS h (fun _ h=>gR (by cases h;rfl)) (fun _ h=>gR (by cases h;rfl)))) gN)) gN)) gN)) gN)) gN)
theorem Qr (m n:Nat):((m:Nat):Int).tmod (n:Int)=((m % n:Nat):Int):=rfl
theorem M3 {n i:Nat} (hi:i<n) (hn:n≤1000):IntKind.i64.wrap ((i:Int)+1)=((i+1:Nat):Int)∧decide ((0:Int)≤i)=true∧decide ((i:Int)<(n:Int))=true∧((n:Int) != 0)=true∧decide ((0:Int)≤(((i+1) % n:Nat):Int))=true∧decide ((((i+1) % n:Nat):Int)<(n:Int))=true:=by
 have h:=Nat.mod_lt (i+1) (show 0<n by omega)
 refine ⟨by rw [As (by omega) (by omega)];omega,decide_eq_true (by omega),decide_eq_true (by omega),by rw [bne_iff_ne];omega,decide_eq_true (by omega),decide_eq_true (by omega)⟩
theorem qA {q:List Pt} {i:Nat} (hi:i<q.length) (hn:q.length≤1000):G75 q i=some ((AO q i).x0,(AO q i).y0,(AO q i).x1,(AO q i).y1):=by
 obtain ⟨c1,c2,c3,c4,c5,c6⟩:=M3 hi hn
 unfold G75 T75
 simp only [c1,Qr,c2,c3,c4,c5,c6,Int.toNat_natCast,AH]
 unfold AO GL
 cases DX (q.getD ((i+1) % q.length) .zero).x (q.getD ((i+1) % q.length) .zero).y (q.getD i .zero).x (q.getD i .zero).y <;> rfl
def S7 (q:List Pt) (i:Int):Bool:=decide (0≤i)&&decide (i<(q.length:Int))&&decide (q.length≤1000)
theorem LT {q:List Pt} {i:Int}:S7 q i=true ↔ (0≤i∧i<(q.length:Int))∧q.length≤1000:=by simp only [S7,Bool.and_eq_true,decide_eq_true_eq]
def Ox:List F→Bool | [x,.int .i64 i]=>BJ x&&S7 (AR x) i | _=>false
def Tl:List F→F | [x,.int .i64 i]=>sgF (AO (AR x) i.toNat) | _=>.dflt
theorem rS:Ak Tryz.prog 75 Ox Tl :=
 Ad (c:=AT Tryz.f75) Tryz.func75 (by kernel_rfl) (by kernel_rfl) fun xs hp=>match xs,hp with
 | [x,.int .i64 i],hp=>by
  simp only [Ox,Bool.and_eq_true] at hp
  obtain ⟨⟨h1,h2⟩,h3⟩:=LT.1 hp.2
  have h:=qA (q:=AR x) (i:=i.toNat) (by omega) h3
  rw [Int.toNat_of_nonneg h1] at h
  exact ⟨[CN (AR x),.int .i64 i],_,⟨(CT hp.1).1,.refl _,trivial⟩,t75 _ _ _ _ _ _ h,.refl _⟩
/-! ### function 44 -/
def xA (q:List Pt) (x:Int) (y:Int) (n:Int) (i:Int):St:=⟨(U.f (Ac q)) :: Al 2 ((U.hp 0 0) :: Al 3 ((U.f (F.int .i64 n)) :: (U.f (F.int .i64 i)) :: Al 10 [])),[HO.box [(U.f (F.int .i64 x)),(U.f (F.int .i64 y))]]⟩
def jX {ρ:Type} (ret:(Int)→Option ρ) (c2:(List Pt)→(Int)→(Int)→(Int)→(Int)→Option ρ) (q:List Pt) (x:Int) (y:Int) (n:Int) (i:Int):Option ρ :=
 (AD (decide (i<n))
 (AD (decide (0≤i))
 (AD (decide (i<(↑q.length:Int)))
 (AD (x==(q.getD i.toNat Pt.zero).x&&(y==(q.getD i.toNat Pt.zero).y&&true))
 (ret (i))
 (c2 (q) (x) (y) (n) (IntKind.i64.wrap (i+1))))
 none)
 none)
 (ret (-1)))
def V2:Nat→(List Pt)→(Int)→(Int)→(Int)→(Int)→Option (Int)
 | 0,_,_,_,_,_=>none
 | k+1,q,x,y,n,i=>jX some (V2 k) q x y n i
def T44 {ρ:Type} (ret:(Int)→Option ρ) (c2:(List Pt)→(Int)→(Int)→(Int)→(Int)→Option ρ) (q:List Pt) (x:Int) (y:Int):Option ρ :=
 (c2 (q) (x) (y) ((↑q.length:Int)) (0))
def G44 (k:Nat) (q:List Pt) (x:Int) (y:Int):Option (Int):=T44 some (V2 k) q x y
theorem t44_2:∀ (k:Nat) (q:List Pt) (x:Int) (y:Int) (n:Int) (i:Int) (r:Int),V2 k q x y n i=some r→AX Tryz.prog Tryz.f44.results.toList (at_ Tryz.f44 2) (xA q x y n i) (F.int .i64 r)
 | 0,_,_,_,_,_,_,h=>nomatch h
 | k+1,q,x,y,n,i,r,h=>by
  refine AX.of_cut Au Jh (T:=[(2,[0,3,7,8],1000)]) (n:=200) ?_
  refine gE (Y:=jX (fun r=>some (.ret (F.int .i64 r))) (fun q x y n i=>some (.cut (at_ Tryz.f44 2) (xA q x y n i))) q x y n i) (by kernel_rfl) ?_
  exact (gS h (fun _ h=>(gS h (fun _ h=>(gS h (fun _ h=>(gS h (fun _ h=>gR (by cases h;rfl)) (fun _ h=>gC (t44_2 k _ _ _ _ _ r h)))) gN)) gN)) (fun _ h=>gR (by cases h;rfl)))
theorem t44 (k:Nat) (q:List Pt) (x:Int) (y:Int) (r:Int) (h:G44 k q x y=some r):AX Tryz.prog Tryz.f44.results.toList [.code (AT Tryz.f44)] (start Tryz.f44.ntmps ([Ac q,F.agg [F.int .i64 x,F.int .i64 y]].map .f)) (F.int .i64 r):=by
 refine AX.of_run Au Jh (T:=[(2,[0,3,7,8],1000)]) (n:=200) ?_
 refine gE (Y:=T44 (fun r=>some (.ret (F.int .i64 r))) (fun q x y n i=>some (.cut (at_ Tryz.f44 2) (xA q x y n i))) q x y) (by kernel_rfl) ?_
 exact gC (t44_2 k _ _ _ _ _ r h)
def Rs (x y:Int):List Pt→Nat→Int
 | [],_=>-1
 | p :: r,i=>bif x==p.x&&y==p.y then (i:Int) else Rs x y r (i+1)
def dU (q:List Pt) (x y:Int):Bool:=q.any fun p=>x==p.x&&y==p.y
theorem iV (x y:Int):∀ (r:List Pt) (i:Nat),decide (Rs x y r i ≥ 0)=dU r x y
 | [],i=>rfl
 | p :: r,i=>by
  unfold dU Rs
  rw [List.any_cons]
  cases x==p.x&&y==p.y with
  | true=>rw [cond_true,decide_eq_true (by omega)];rfl
  | false=>rw [cond_false,iV x y r (i+1)];rfl
theorem ZR {q:List Pt} (hn:q.length≤1000) (x y:Int):∀ (d i k:Nat),i+d=q.length→d+1≤k→V2 k q x y q.length i=some (Rs x y (q.drop i) i)
 | d,i,0,_,hk=>by omega
 | 0,i,k+1,hi,hk=>by
  rw [V2]
  unfold jX
  rw [decide_eq_false (show ¬ (i:Int)<q.length by omega),List.drop_eq_nil_of_le (by omega)]
  rfl
 | d+1,i,k+1,hi,hk=>by
  have hlt:i<q.length:=by omega
  have hg:q.getD i Pt.zero=q[i]:=by simp [List.getD,List.getElem?_eq_getElem hlt]
  have wi:IntKind.i64.wrap ((i:Int)+1)=((i+1:Nat):Int):=by rw [As (by omega) (by omega)];omega
  rw [V2]
  unfold jX
  rw [decide_eq_true (show (i:Int)<q.length by omega),decide_eq_true (show (0:Int)≤i by omega),Int.toNat_natCast,hg,wi,ZR hn x y d (i+1) k (by omega) (by omega),List.drop_eq_getElem_cons hlt,Rs]
  simp only [AH,Bool.and_true]
  cases x==q[i].x&&y==q[i].y <;> rfl
def Gb (q:List Pt):Bool:=decide (q.length≤1000)
def Oz:List F→Bool | [x,.agg [.int .i64 _,.int .i64 _]]=>Da x&&Gb (BS x) | _=>false
def qQ:List F→F | [x,.agg [.int .i64 a,.int .i64 b]]=>.int .i64 (Rs a b (BS x) 0) | _=>.dflt
theorem okIdx:Ak Tryz.prog 44 Oz qQ :=
 Ad (c:=AT Tryz.f44) Tryz.func44 (by kernel_rfl) (by kernel_rfl) fun xs hp=>match xs,hp with
 | [x,.agg [.int .i64 a,.int .i64 b]],hp=>by
  simp only [Oz,Bool.and_eq_true] at hp
  exact ⟨[Ac (BS x),_],_,⟨(Ee hp.1).1,.refl _,trivial⟩,t44 2000 _ _ _ _ (by
   unfold G44 T44
   have h2:(BS x).length≤1000:=of_decide_eq_true hp.2
   exact ZR h2 a b (BS x).length 0 2000 (by omega) (by omega)),.refl _⟩
/-! ### function 33 -/
def xF (q:List Pt) (n:Nat) (g:Nat→F) (m:Int) (i:Int):St:=⟨Al 1 ((U.hp 0 0) :: Al 1 ((U.hs 1 n 0 n) :: Al 4 ((U.f (Ac q)) :: (U.f (F.int .i64 m)) :: (U.f (F.int .i64 i)) :: Al 21 []))),[HO.box [(U.f (Ac q))],HO.arr 4 n g]⟩
def kD {ρ:Type} (ret:(F)→Option ρ) (c3:(List Pt)→(Nat)→(Nat→F)→(Int)→(Int)→Option ρ) (q:List Pt) (n:Nat) (g:Nat→F) (m:Int) (i:Int):Option ρ :=
 (AD (decide (i<m))
 (AD (decide (0≤i))
 (AD (decide (i<(↑q.length:Int)))
 (AD ((↑q.length:Int) != 0)
 (AD (decide (0≤(IntKind.i64.wrap (i+1)).tmod (↑q.length:Int)))
 (AD (decide ((IntKind.i64.wrap (i+1)).tmod (↑q.length:Int)<(↑q.length:Int)))
 (AD (decide (n=n))
 (AD (decide (n=n))
 (AD (decide ((↑(n+1):Int)*(((32:Nat):Int)+1)≤(↑Bs:Int)))
 (c3 (q) (n+1) (fun j ↦ if j<n then g j else F.agg [F.int .i64 (GL { x:=(q.getD i.toNat Pt.zero).x,y:=(q.getD i.toNat Pt.zero).y } { x:=(q.getD ((IntKind.i64.wrap (i+1)).tmod (↑q.length:Int)).toNat Pt.zero).x,y:=(q.getD ((IntKind.i64.wrap (i+1)).tmod (↑q.length:Int)).toNat Pt.zero).y }).x0,F.int .i64 (GL { x:=(q.getD i.toNat Pt.zero).x,y:=(q.getD i.toNat Pt.zero).y } { x:=(q.getD ((IntKind.i64.wrap (i+1)).tmod (↑q.length:Int)).toNat Pt.zero).x,y:=(q.getD ((IntKind.i64.wrap (i+1)).tmod (↑q.length:Int)).toNat Pt.zero).y }).y0,F.int .i64 (GL { x:=(q.getD i.toNat Pt.zero).x,y:=(q.getD i.toNat Pt.zero).y } { x:=(q.getD ((IntKind.i64.wrap (i+1)).tmod (↑q.length:Int)).toNat Pt.zero).x,y:=(q.getD ((IntKind.i64.wrap (i+1)).tmod (↑q.length:Int)).toNat Pt.zero).y }).x1,F.int .i64 (GL { x:=(q.getD i.toNat Pt.zero).x,y:=(q.getD i.toNat Pt.zero).y } { x:=(q.getD ((IntKind.i64.wrap (i+1)).tmod (↑q.length:Int)).toNat Pt.zero).x,y:=(q.getD ((IntKind.i64.wrap (i+1)).tmod (↑q.length:Int)).toNat Pt.zero).y }).y1]) (m) (IntKind.i64.wrap (i+1)))
 none)
 none)
 none)
 none)
 none)
 none)
 none)
 none)
 (AD (decide (n=n))
 (ret (F.sl n g))
 none))
def V7:Nat→(List Pt)→(Nat)→(Nat→F)→(Int)→(Int)→Option (F)
 | 0,_,_,_,_,_=>none
 | k+1,q,n,g,m,i=>kD some (V7 k) q n g m i
def T33 {ρ:Type} (ret:(F)→Option ρ) (c3:(List Pt)→(Nat)→(Nat→F)→(Int)→(Int)→Option ρ) (q:List Pt):Option ρ :=
 (c3 (q) (0) (Ar []) ((↑q.length:Int)) (0))
def G33 (k:Nat) (q:List Pt):Option (F):=T33 some (V7 k) q
theorem t33_3:∀ (k:Nat) (q:List Pt) (n:Nat) (g:Nat→F) (m:Int) (i:Int) (r:F),V7 k q n g m i=some r→AX Tryz.prog Tryz.f33.results.toList (at_ Tryz.f33 3) (xF q n g m i) (r)
 | 0,_,_,_,_,_,_,h=>nomatch h
 | k+1,q,n,g,m,i,r,h=>by
  refine AX.of_cut Au Jh (T:=[(3,[1,3,8,9,10],1000)]) (n:=200) ?_
  refine gE (Y:=kD (fun r=>some (.ret (r))) (fun q n g m i=>some (.cut (at_ Tryz.f33 3) (xF q n g m i))) q n g m i) (by kernel_rfl) ?_
  exact (gS h (fun _ h=>(gS h (fun _ h=>(gS h (fun _ h=>(gS h (fun _ h=>(gS h (fun _ h=>(gS h (fun _ h=>(gS h (fun _ h=>(gS h (fun _ h=>(gS h (fun _ h=>gC (t33_3 k _ _ _ _ _ r h)) gN)) gN)) gN)) gN)) gN)) gN)) gN)) gN)) (fun _ h=>(gS h (fun _ h=>gR (by cases h;rfl)) gN)))
theorem t33 (k:Nat) (q:List Pt) (r:F) (h:G33 k q=some r):AX Tryz.prog Tryz.f33.results.toList [.code (AT Tryz.f33)] (start Tryz.f33.ntmps ([F.agg [Ac q]].map .f)) (r):=by
 refine AX.of_run Au Jh (T:=[(3,[1,3,8,9,10],1000)]) (n:=200) ?_
 refine gE (Y:=T33 (fun r=>some (.ret (r))) (fun q n g m i=>some (.cut (at_ Tryz.f33 3) (xF q n g m i))) q) (by kernel_rfl) ?_
 exact gC (t33_3 k _ _ _ _ _ r h)
theorem Qy {q:List Pt} (hn:q.length≤1000):∀ (d i k:Nat) (g:Nat→F),i+d=q.length→d+1≤k→(∀ j,j<i→g j=sgF (AO q j))→∃ g',V7 k q i g q.length i=some (.sl q.length g')∧∀ j,j<q.length→g' j=sgF (AO q j)
 | d,i,0,_,_,hk,_=>by omega
 | 0,i,k+1,g,hi,hk,hg=>by
  obtain rfl:i=q.length:=by omega
  refine ⟨g,?_,hg⟩
  rw [V7]
  unfold kD
  rw [decide_eq_false (by omega),decide_eq_true (show q.length=q.length from rfl)]
  rfl
 | d+1,i,k+1,g,hi,hk,hg=>by
  obtain ⟨c1,c2,c3,c4,c5,c6⟩:=M3 (n:=q.length) (i:=i) (by omega) hn
  have c7:decide (((i+1:Nat):Int)*(((32:Nat):Int)+1)≤(Bs:Int))=true:=by rw [Ev];exact decide_eq_true (by omega)
  rw [V7]
  unfold kD
  simp only [c1,Qr,c2,c3,c4,c5,c6,c7,Int.toNat_natCast,decide_true,AH,pt_eta]
  refine Qy hn d (i+1) k _ (by omega) (by omega) fun j hj=>?_
  by_cases h:j<i
  ·rw [if_pos h,hg j h]
  ·obtain rfl:j=i:=by omega
   rw [if_neg h]
   rfl
def RK:List F→Bool | [x]=>BJ x&&Gb (AR x) | _=>false
def YJ:List F→F | [x]=>Mc (Cp (AR x)) | _=>.dflt
theorem okSides:Ak Tryz.prog 33 RK YJ :=
 Ad (c:=AT Tryz.f33) Tryz.func33 (by kernel_rfl) (by kernel_rfl) fun xs hp=>match xs,hp with
 | [x],hp=>by
  simp only [RK,Bool.and_eq_true] at hp
  have h2:(AR x).length≤1000:=of_decide_eq_true hp.2
  obtain ⟨g,e,hg⟩:=Qy h2 (AR x).length 0 2000 (Ar []) (by omega) (by omega) fun j hj=>by omega
  refine ⟨[CN (AR x)],_,⟨(CT hp.1).1,trivial⟩,t33 2000 _ _ e,?_⟩
  show FLe _ (Mc (Cp (AR x)))
  unfold Mc slF
  rw [GI]
  exact FLe.sl fun j hj=>by rw [hg j hj,HN _ hj]
def envK1:Env:=((envZ5.add 75 (.pure Ox Tl)).add 44 (.pure Oz qQ)).add 33 (.pure RK YJ)
theorem Zu:Az Tryz.prog envK1:=(Env.add_ok (Env.add_ok (Env.add_ok Jh rS.sp) okIdx.sp) okSides.sp)
end
noncomputable section
/-! ### function 32 -/
def T32 {ρ:Type} (ret:(Bool)→Option ρ) (q:List Pt) (x:Int) (y:Int):Option ρ :=
 (AD (Da (Ac q)&&Gb (BS (Ac q)))
 (ret (decide (Rs x y (BS (Ac q)) 0 ≥ 0)))
 none)
def G32 (q:List Pt) (x:Int) (y:Int):Option (Bool):=T32 some q x y
theorem t32 (q:List Pt) (x:Int) (y:Int) (b:Bool) (h:G32 q x y=some b):AX Tryz.prog Tryz.f32.results.toList [.code (AT Tryz.f32)] (start Tryz.f32.ntmps ([Ac q,F.agg [F.int .i64 x,F.int .i64 y]].map .f)) (F.bool b):=by
 refine AX.of_run Au Zu (T:=[]) (n:=200) ?_
 refine gE (Y:=T32 (fun b=>some (.ret (F.bool b))) q x y) (by kernel_rfl) ?_
 exact (gS h (fun _ h=>gR (by cases h;rfl)) gN)
def qR:List F→F | [x,.agg [.int .i64 a,.int .i64 b]]=>.bool (dU (BS x) a b) | _=>.dflt
theorem okHas:Ak Tryz.prog 32 Oz qR :=
 Ad (c:=AT Tryz.f32) Tryz.func32 (by kernel_rfl) (by kernel_rfl) fun xs hp=>match xs,hp with
 | [x,.agg [.int .i64 a,.int .i64 b]],hp=>by
  simp only [Oz,Bool.and_eq_true] at hp
  exact ⟨[Ac (BS x),_],_,⟨(Ee hp.1).1,.refl _,trivial⟩,t32 _ _ _ _ (by
   unfold G32 T32
   rw [G1,Gq,hp.2,iV]
   rfl),.refl _⟩
def uZ:Env:=envK1.add 32 (.pure Oz qR)
theorem HD:Az Tryz.prog uZ:=(Env.add_ok Zu okHas.sp)
end
noncomputable section
set_option maxHeartbeats 1000000
theorem Ba (q:List Pt):AR (F.agg [Ac q])=q:=Gq q
theorem BH (q:List Pt):BJ (F.agg [Ac q])=true:=G1 q
def k3 (s t:Sg):Int:=EB s.x0 s.y0 s.x1 s.y1 t.x0 t.y0 t.x1 t.y1
def kI (s t:Sg):Int:=EA s.x0 s.y0 s.x1 s.y1 t.x0 t.y0 t.x1 t.y1
def okS (s:Sg):Bool:=Df s.x0 s.y0 s.x1 s.y1
theorem kI_3 {s t:Sg} (hs:okS s=true) (ht:okS t=true):kI s t=k3 s t:=kindI_3 hs ht
theorem tG {s t:Sg} (hs:okS s=true) (ht:okS t=true):k3 s t=0 ∨ k3 s t=1 ∨ k3 s t=2:=(Jc hs ht).1
def IG (n i j:Nat):Bool:=decide (j+1=i) || (decide (j=0)&&decide (i+1=n))
def nX (m:Int) (nx:Bool):Bool:=bif nx then m != 1 else m != 0
def badI (m:Int) (nx:Bool):Bool:=m==2 || (m==1 && !nx)
def Bl (q:List Pt) (i j:Nat):Bool:=(q.getD i .zero).x==(q.getD j .zero).x&&(q.getD i .zero).y==(q.getD j .zero).y
def Es (q:List Pt) (i j:Nat):Bool:=nX (k3 (AO q i) (AO q j)) (IG q.length i j)
def Ib (q:List Pt) (i j:Nat):Bool:=badI (kI (AO q i) (AO q j)) (IG q.length i j)
def BI (h:Nat→Nat→Bool) (i d:Nat):Bool:=DJ (fun i=>DJ (fun j=>!h i j) 0 i) i d
def It (h:List Pt→Nat→Nat→Bool) (q:List Pt):Int :=
 bif decide (q.length<3) then 1 else bif decide (q.length > 12) then 2 else bif !(q.all fun p=>By p.x p.y) then 3 else bif !BI (Bl q) 0 q.length then 4 else bif !BI (h q) 0 q.length then 5 else 0
def CK (q:List Pt):Int:=It Es q
def OC (q:List Pt):Int:=It Ib q
theorem QP {h:Nat→Nat→Bool} {n:Nat}:BI h 0 n=true ↔ ∀ i,i<n→∀ j,j<i→h i j=false:=by
 unfold BI
 rw [El]
 constructor
 ·intro g i hi j hj
  have:=(El _ _ _).1 (g i (by omega) (by omega)) j (by omega) (by omega)
  simpa using this
 ·intro g i _ hi
  rw [El]
  intro j _ hj
  rw [g i (by omega) j (by omega)]
  rfl
structure RingIn (q:List Pt):Prop where
 low:3≤q.length
 high:q.length≤12
 spots:∀ p ∈ q,BD p.x p.y
 unlike:∀ i,i<q.length→∀ j,j<i→q.getD i .zero ≠ q.getD j .zero
theorem Gp {q:List Pt} (h:RingIn q) {i j:Nat} (hi:i<q.length) (hj:j<q.length) (hij:i ≠ j):q.getD i .zero ≠ q.getD j .zero:=by
 rcases Nat.lt_or_ge j i with h1 | h1
 ·exact h.unlike i hi j h1
 ·exact fun e=>h.unlike j hj i (by omega) e.symm
theorem Ir {n i:Nat} (hi:i<n) (hn:3≤n):(i+1) % n ≠ i∧(i+1) % n<n:=by
 refine ⟨?_,Nat.mod_lt _ (by omega)⟩
 by_cases h:i+1=n
 ·rw [h,Nat.mod_self];omega
 ·rw [Nat.mod_eq_of_lt (by omega)];omega
theorem Dj {q:List Pt} (h:RingIn q) {i:Nat} (hi:i<q.length):okS (AO q i)=true:=by
 obtain ⟨h1,h2⟩:=Ir hi h.low
 exact leg_ok (h.spots _ (Cs hi)) (h.spots _ (Cs h2)) (Gp h hi h2 (fun e=>h1 e.symm))
theorem same_ne {q:List Pt} {i j:Nat} (h:Bl q i j=false):q.getD i .zero ≠ q.getD j .zero:=fun e=>by
 unfold Bl at h
 rw [e,beq_self_eq_true,beq_self_eq_true] at h
 cases h
theorem MC {q:List Pt} (h1:¬ q.length<3) (h2:¬ q.length > 12) (h3:(q.all fun p=>By p.x p.y)=true) (h4:BI (Bl q) 0 q.length=true):RingIn q :=
 ⟨by omega,by omega,fun p hp=>IE.1 (List.all_eq_true.1 h3 p hp),fun i hi j hj=>same_ne (QP.1 h4 i hi j hj)⟩
/-! The reference. -/
/-! ### function 54 -/
def Sj (q:List Pt) (n:Int) (i:Int):St:=⟨Al 1 ((U.hp 0 0) :: Al 1 ((U.f (F.int .i64 n)) :: (U.f (F.int .i64 i)) :: Al 96 [])),[HO.box [(U.f (Ac q))]]⟩
def NK (q:List Pt) (n:Int) (i:Int):St:=⟨Al 1 ((U.hp 0 0) :: Al 1 ((U.f (F.int .i64 n)) :: Al 1 ((U.f (F.int .i64 i)) :: Al 95 []))),[HO.box [(U.f (Ac q))]]⟩
def NJ (q:List Pt) (n:Int) (i:Int) (j:Int):St:=⟨Al 1 ((U.hp 0 0) :: Al 1 ((U.f (F.int .i64 n)) :: Al 1 ((U.f (F.int .i64 i)) :: (U.f (F.int .i64 j)) :: Al 94 []))),[HO.box [(U.f (Ac q))]]⟩
def NI (q:List Pt) (n:Int) (i:Int):St:=⟨Al 1 ((U.hp 0 0) :: Al 1 ((U.f (F.int .i64 n)) :: Al 3 ((U.f (F.int .i64 i)) :: Al 93 []))),[HO.box [(U.f (Ac q))]]⟩
def NH (q:List Pt) (n:Int) (i:Int) (j:Int):St:=⟨Al 1 ((U.hp 0 0) :: Al 1 ((U.f (F.int .i64 n)) :: Al 3 ((U.f (F.int .i64 i)) :: (U.f (F.int .i64 j)) :: Al 92 []))),[HO.box [(U.f (Ac q))]]⟩
abbrev Ky (ρ:Type):=(List Pt)→(Int)→(Int)→Option ρ
abbrev QL (ρ:Type):=(List Pt)→(Int)→(Int)→(Int)→Option ρ
def jU {ρ:Type} (ret:(Int)→Option ρ) (c7:Ky ρ) (c12:Ky ρ) (c15:QL ρ) (c20:Ky ρ) (c23:QL ρ) (q:List Pt) (n:Int) (i:Int):Option ρ :=
 (AD (decide (i<n))
 (AD (decide (0≤i))
 (AD (decide (i<(↑q.length:Int)))
 (AD (!By (q.getD i.toNat Pt.zero).x (q.getD i.toNat Pt.zero).y)
 (ret (3))
 (c7 (q) (n) (IntKind.i64.wrap (i+1))))
 none)
 none)
 (c12 (q) (n) (0)))
def XN {ρ:Type} (ret:(Int)→Option ρ) (c7:Ky ρ) (c12:Ky ρ) (c15:QL ρ) (c20:Ky ρ) (c23:QL ρ) (q:List Pt) (n:Int) (i:Int):Option ρ :=
 (AD (decide (i<n))
 (c15 (q) (n) (i) (0))
 (c20 (q) (n) (0)))
def XM {ρ:Type} (ret:(Int)→Option ρ) (c7:Ky ρ) (c12:Ky ρ) (c15:QL ρ) (c20:Ky ρ) (c23:QL ρ) (q:List Pt) (n:Int) (i:Int) (j:Int):Option ρ :=
 (AD (decide (j<i))
 (AD (decide (0≤i))
 (AD (decide (i<(↑q.length:Int)))
 (AD (decide (0≤j))
 (AD (decide (j<(↑q.length:Int)))
 (AD ((q.getD i.toNat Pt.zero).x==(q.getD j.toNat Pt.zero).x&&((q.getD i.toNat Pt.zero).y==(q.getD j.toNat Pt.zero).y&&true))
 (ret (4))
 (c15 (q) (n) (i) (IntKind.i64.wrap (j+1))))
 none)
 none)
 none)
 none)
 (c12 (q) (n) (IntKind.i64.wrap (i+1))))
def XL {ρ:Type} (ret:(Int)→Option ρ) (c7:Ky ρ) (c12:Ky ρ) (c15:QL ρ) (c20:Ky ρ) (c23:QL ρ) (q:List Pt) (n:Int) (i:Int):Option ρ :=
 (AD (decide (i<n))
 (c23 (q) (n) (i) (0))
 (ret (0)))
def XK {ρ:Type} (ret:(Int)→Option ρ) (c7:Ky ρ) (c12:Ky ρ) (c15:QL ρ) (c20:Ky ρ) (c23:QL ρ) (q:List Pt) (n:Int) (i:Int) (j:Int):Option ρ :=
 (AD (decide (j<i))
 (AD (BJ (F.agg [Ac q])&&S7 (AR (F.agg [Ac q])) i)
 (AD (BJ (F.agg [Ac q])&&S7 (AR (F.agg [Ac q])) j)
 (AD (Df (AO (AR (F.agg [Ac q])) i.toNat).x0 (AO (AR (F.agg [Ac q])) i.toNat).y0 (AO (AR (F.agg [Ac q])) i.toNat).x1 (AO (AR (F.agg [Ac q])) i.toNat).y1&&Df (AO (AR (F.agg [Ac q])) j.toNat).x0 (AO (AR (F.agg [Ac q])) j.toNat).y0 (AO (AR (F.agg [Ac q])) j.toNat).x1 (AO (AR (F.agg [Ac q])) j.toNat).y1)
 (AD ((j==IntKind.i64.wrap (i-1))==false)
 (AD ((j==0)==true)
 (AD ((i==IntKind.i64.wrap (n-1))==true)
 (AD ((EB (AO (AR (F.agg [Ac q])) i.toNat).x0 (AO (AR (F.agg [Ac q])) i.toNat).y0 (AO (AR (F.agg [Ac q])) i.toNat).x1 (AO (AR (F.agg [Ac q])) i.toNat).y1 (AO (AR (F.agg [Ac q])) j.toNat).x0 (AO (AR (F.agg [Ac q])) j.toNat).y0 (AO (AR (F.agg [Ac q])) j.toNat).x1 (AO (AR (F.agg [Ac q])) j.toNat).y1 != 1)==false)
 (AD ((!i==IntKind.i64.wrap (n-1))==true)
 (AD (EB (AO (AR (F.agg [Ac q])) i.toNat).x0 (AO (AR (F.agg [Ac q])) i.toNat).y0 (AO (AR (F.agg [Ac q])) i.toNat).x1 (AO (AR (F.agg [Ac q])) i.toNat).y1 (AO (AR (F.agg [Ac q])) j.toNat).x0 (AO (AR (F.agg [Ac q])) j.toNat).y0 (AO (AR (F.agg [Ac q])) j.toNat).x1 (AO (AR (F.agg [Ac q])) j.toNat).y1 != 0)
 (ret (5))
 (c23 (q) (n) (i) (IntKind.i64.wrap (j+1))))
 (c23 (q) (n) (i) (IntKind.i64.wrap (j+1))))
 (ret (5)))
 (AD ((!i==IntKind.i64.wrap (n-1))==true)
 (AD (EB (AO (AR (F.agg [Ac q])) i.toNat).x0 (AO (AR (F.agg [Ac q])) i.toNat).y0 (AO (AR (F.agg [Ac q])) i.toNat).x1 (AO (AR (F.agg [Ac q])) i.toNat).y1 (AO (AR (F.agg [Ac q])) j.toNat).x0 (AO (AR (F.agg [Ac q])) j.toNat).y0 (AO (AR (F.agg [Ac q])) j.toNat).x1 (AO (AR (F.agg [Ac q])) j.toNat).y1 != 0)
 (ret (5))
 (c23 (q) (n) (i) (IntKind.i64.wrap (j+1))))
 (c23 (q) (n) (i) (IntKind.i64.wrap (j+1)))))
 (AD (EB (AO (AR (F.agg [Ac q])) i.toNat).x0 (AO (AR (F.agg [Ac q])) i.toNat).y0 (AO (AR (F.agg [Ac q])) i.toNat).x1 (AO (AR (F.agg [Ac q])) i.toNat).y1 (AO (AR (F.agg [Ac q])) j.toNat).x0 (AO (AR (F.agg [Ac q])) j.toNat).y0 (AO (AR (F.agg [Ac q])) j.toNat).x1 (AO (AR (F.agg [Ac q])) j.toNat).y1 != 0)
 (ret (5))
 (c23 (q) (n) (i) (IntKind.i64.wrap (j+1)))))
 (AD ((EB (AO (AR (F.agg [Ac q])) i.toNat).x0 (AO (AR (F.agg [Ac q])) i.toNat).y0 (AO (AR (F.agg [Ac q])) i.toNat).x1 (AO (AR (F.agg [Ac q])) i.toNat).y1 (AO (AR (F.agg [Ac q])) j.toNat).x0 (AO (AR (F.agg [Ac q])) j.toNat).y0 (AO (AR (F.agg [Ac q])) j.toNat).x1 (AO (AR (F.agg [Ac q])) j.toNat).y1 != 1)==false)
 (c23 (q) (n) (i) (IntKind.i64.wrap (j+1)))
 (ret (5))))
 none)
 none)
 none)
 (c20 (q) (n) (IntKind.i64.wrap (i+1))))
mutual
def Mo:Nat→(List Pt)→(Int)→(Int)→Option (Int)
 | 0,_,_,_=>none
 | k+1,q,n,i=>jU some (Mo k) (Hi k) (JE k) (Hh k) (JD k) q n i
 termination_by structural k=>k
def Hi:Nat→(List Pt)→(Int)→(Int)→Option (Int)
 | 0,_,_,_=>none
 | k+1,q,n,i=>XN some (Mo k) (Hi k) (JE k) (Hh k) (JD k) q n i
 termination_by structural k=>k
def JE:Nat→(List Pt)→(Int)→(Int)→(Int)→Option (Int)
 | 0,_,_,_,_=>none
 | k+1,q,n,i,j=>XM some (Mo k) (Hi k) (JE k) (Hh k) (JD k) q n i j
 termination_by structural k=>k
def Hh:Nat→(List Pt)→(Int)→(Int)→Option (Int)
 | 0,_,_,_=>none
 | k+1,q,n,i=>XL some (Mo k) (Hi k) (JE k) (Hh k) (JD k) q n i
 termination_by structural k=>k
def JD:Nat→(List Pt)→(Int)→(Int)→(Int)→Option (Int)
 | 0,_,_,_,_=>none
 | k+1,q,n,i,j=>XK some (Mo k) (Hi k) (JE k) (Hh k) (JD k) q n i j
 termination_by structural k=>k
end
def T54 {ρ:Type} (ret:(Int)→Option ρ) (c7:Ky ρ) (c12:Ky ρ) (c15:QL ρ) (c20:Ky ρ) (c23:QL ρ) (q:List Pt):Option ρ :=
 (AD (decide ((↑q.length:Int)<3))
 (ret (1))
 (AD (decide ((↑q.length:Int) > 12))
 (ret (2))
 (c7 (q) ((↑q.length:Int)) (0))))
def G54 (k:Nat) (q:List Pt):Option (Int):=T54 some (Mo k) (Hi k) (JE k) (Hh k) (JD k) q
mutual
theorem t54_7:∀ (k:Nat) (q:List Pt) (n:Int) (i:Int) (r:Int),Mo k q n i=some r→AX Tryz.prog Tryz.f54.results.toList (at_ Tryz.f54 7) (Sj q n i) (F.int .i64 r)
 | 0,_,_,_,_,h=>nomatch h
 | k+1,q,n,i,r,h=>by
  refine AX.of_cut Au HD (T:=[(7,[1,3,4],1000),(12,[1,3,5],1000),(15,[1,3,5,6],1000),(20,[1,3,7],1000),(23,[1,3,7,8],1000)]) (n:=200) ?_
  refine gE (Y:=jU (fun r=>some (.ret (F.int .i64 r))) (fun q n i=>some (.cut (at_ Tryz.f54 7) (Sj q n i))) (fun q n i=>some (.cut (at_ Tryz.f54 12) (NK q n i))) (fun q n i j=>some (.cut (at_ Tryz.f54 15) (NJ q n i j))) (fun q n i=>some (.cut (at_ Tryz.f54 20) (NI q n i))) (fun q n i j=>some (.cut (at_ Tryz.f54 23) (NH q n i j))) q n i) (by kernel_rfl) ?_
  exact (gS h (fun _ h=>(gS h (fun _ h=>(gS h (fun _ h=>(gS h (fun _ h=>gR (by cases h;rfl)) (fun _ h=>gC (t54_7 k _ _ _ r h)))) gN)) gN)) (fun _ h=>gC (pD k _ _ _ r h)))
theorem pD:∀ (k:Nat) (q:List Pt) (n:Int) (i:Int) (r:Int),Hi k q n i=some r→AX Tryz.prog Tryz.f54.results.toList (at_ Tryz.f54 12) (NK q n i) (F.int .i64 r)
 | 0,_,_,_,_,h=>nomatch h
 | k+1,q,n,i,r,h=>by
  refine AX.of_cut Au HD (T:=[(7,[1,3,4],1000),(12,[1,3,5],1000),(15,[1,3,5,6],1000),(20,[1,3,7],1000),(23,[1,3,7,8],1000)]) (n:=200) ?_
  refine gE (Y:=XN (fun r=>some (.ret (F.int .i64 r))) (fun q n i=>some (.cut (at_ Tryz.f54 7) (Sj q n i))) (fun q n i=>some (.cut (at_ Tryz.f54 12) (NK q n i))) (fun q n i j=>some (.cut (at_ Tryz.f54 15) (NJ q n i j))) (fun q n i=>some (.cut (at_ Tryz.f54 20) (NI q n i))) (fun q n i j=>some (.cut (at_ Tryz.f54 23) (NH q n i j))) q n i) (by kernel_rfl) ?_
  exact (gS h (fun _ h=>gC (pC k _ _ _ _ r h)) (fun _ h=>gC (pB k _ _ _ r h)))
theorem pC:∀ (k:Nat) (q:List Pt) (n:Int) (i:Int) (j:Int) (r:Int),JE k q n i j=some r→AX Tryz.prog Tryz.f54.results.toList (at_ Tryz.f54 15) (NJ q n i j) (F.int .i64 r)
 | 0,_,_,_,_,_,h=>nomatch h
 | k+1,q,n,i,j,r,h=>by
  refine AX.of_cut Au HD (T:=[(7,[1,3,4],1000),(12,[1,3,5],1000),(15,[1,3,5,6],1000),(20,[1,3,7],1000),(23,[1,3,7,8],1000)]) (n:=200) ?_
  refine gE (Y:=XM (fun r=>some (.ret (F.int .i64 r))) (fun q n i=>some (.cut (at_ Tryz.f54 7) (Sj q n i))) (fun q n i=>some (.cut (at_ Tryz.f54 12) (NK q n i))) (fun q n i j=>some (.cut (at_ Tryz.f54 15) (NJ q n i j))) (fun q n i=>some (.cut (at_ Tryz.f54 20) (NI q n i))) (fun q n i j=>some (.cut (at_ Tryz.f54 23) (NH q n i j))) q n i j) (by kernel_rfl) ?_
  exact (gS h (fun _ h=>(gS h (fun _ h=>(gS h (fun _ h=>(gS h (fun _ h=>(gS h (fun _ h=>(gS h (fun _ h=>gR (by cases h;rfl)) (fun _ h=>gC (pC k _ _ _ _ r h)))) gN)) gN)) gN)) gN)) (fun _ h=>gC (pD k _ _ _ r h)))
theorem pB:∀ (k:Nat) (q:List Pt) (n:Int) (i:Int) (r:Int),Hh k q n i=some r→AX Tryz.prog Tryz.f54.results.toList (at_ Tryz.f54 20) (NI q n i) (F.int .i64 r)
 | 0,_,_,_,_,h=>nomatch h
 | k+1,q,n,i,r,h=>by
  refine AX.of_cut Au HD (T:=[(7,[1,3,4],1000),(12,[1,3,5],1000),(15,[1,3,5,6],1000),(20,[1,3,7],1000),(23,[1,3,7,8],1000)]) (n:=200) ?_
  refine gE (Y:=XL (fun r=>some (.ret (F.int .i64 r))) (fun q n i=>some (.cut (at_ Tryz.f54 7) (Sj q n i))) (fun q n i=>some (.cut (at_ Tryz.f54 12) (NK q n i))) (fun q n i j=>some (.cut (at_ Tryz.f54 15) (NJ q n i j))) (fun q n i=>some (.cut (at_ Tryz.f54 20) (NI q n i))) (fun q n i j=>some (.cut (at_ Tryz.f54 23) (NH q n i j))) q n i) (by kernel_rfl) ?_
  exact (gS h (fun _ h=>gC (Mr k _ _ _ _ r h)) (fun _ h=>gR (by cases h;rfl)))
theorem Mr:∀ (k:Nat) (q:List Pt) (n:Int) (i:Int) (j:Int) (r:Int),JD k q n i j=some r→AX Tryz.prog Tryz.f54.results.toList (at_ Tryz.f54 23) (NH q n i j) (F.int .i64 r)
 | 0,_,_,_,_,_,h=>nomatch h
 | k+1,q,n,i,j,r,h=>by
  refine AX.of_cut Au HD (T:=[(7,[1,3,4],1000),(12,[1,3,5],1000),(15,[1,3,5,6],1000),(20,[1,3,7],1000),(23,[1,3,7,8],1000)]) (n:=200) ?_
  refine gE (Y:=XK (fun r=>some (.ret (F.int .i64 r))) (fun q n i=>some (.cut (at_ Tryz.f54 7) (Sj q n i))) (fun q n i=>some (.cut (at_ Tryz.f54 12) (NK q n i))) (fun q n i j=>some (.cut (at_ Tryz.f54 15) (NJ q n i j))) (fun q n i=>some (.cut (at_ Tryz.f54 20) (NI q n i))) (fun q n i j=>some (.cut (at_ Tryz.f54 23) (NH q n i j))) q n i j) (by kernel_rfl) ?_
  exact (gS h (fun _ h=>(gS h (fun _ h=>(gS h (fun _ h=>(gS h (fun _ h=>(gS h (fun _ h=>(gS h (fun _ h=>(gS h (fun _ h=>(gS h (fun _ h=>(gS h (fun _ h=>(gS h (fun _ h=>gR (by cases h;rfl)) (fun _ h=>gC (Mr k _ _ _ _ r h)))) (fun _ h=>gC (Mr k _ _ _ _ r h)))) (fun _ h=>gR (by cases h;rfl)))) (fun _ h=>(gS h (fun _ h=>(gS h (fun _ h=>gR (by cases h;rfl)) (fun _ h=>gC (Mr k _ _ _ _ r h)))) (fun _ h=>gC (Mr k _ _ _ _ r h)))))) (fun _ h=>(gS h (fun _ h=>gR (by cases h;rfl)) (fun _ h=>gC (Mr k _ _ _ _ r h)))))) (fun _ h=>(gS h (fun _ h=>gC (Mr k _ _ _ _ r h)) (fun _ h=>gR (by cases h;rfl)))))) gN)) gN)) gN)) (fun _ h=>gC (pB k _ _ _ r h)))
end
theorem t54 (k:Nat) (q:List Pt) (r:Int) (h:G54 k q=some r):AX Tryz.prog Tryz.f54.results.toList [.code (AT Tryz.f54)] (start Tryz.f54.ntmps ([F.agg [Ac q]].map .f)) (F.int .i64 r):=by
 refine AX.of_run Au HD (T:=[(7,[1,3,4],1000),(12,[1,3,5],1000),(15,[1,3,5,6],1000),(20,[1,3,7],1000),(23,[1,3,7,8],1000)]) (n:=200) ?_
 refine gE (Y:=T54 (fun r=>some (.ret (F.int .i64 r))) (fun q n i=>some (.cut (at_ Tryz.f54 7) (Sj q n i))) (fun q n i=>some (.cut (at_ Tryz.f54 12) (NK q n i))) (fun q n i j=>some (.cut (at_ Tryz.f54 15) (NJ q n i j))) (fun q n i=>some (.cut (at_ Tryz.f54 20) (NI q n i))) (fun q n i j=>some (.cut (at_ Tryz.f54 23) (NH q n i j))) q) (by kernel_rfl) ?_
 exact (gS h (fun _ h=>gR (by cases h;rfl)) (fun _ h=>(gS h (fun _ h=>gR (by cases h;rfl)) (fun _ h=>gC (t54_7 k _ _ _ r h)))))
theorem iP {n i j:Nat} (hn:n≤12) (hi:i<n) (hj:j<i):(((j:Int)==IntKind.i64.wrap ((i:Int)-1))=decide (j+1=i))∧(((j:Int)==0)=decide (j=0))∧(((i:Int)==IntKind.i64.wrap ((n:Int)-1))=decide (i+1=n)):=by
 rw [As (by omega) (by omega),As (by omega) (by omega)]
 refine ⟨?_,?_,?_⟩ <;> (rw [Bool.eq_iff_iff,beq_iff_eq,decide_eq_true_eq];omega)
theorem Tg {q:List Pt} (h:RingIn q) {i:Nat} (hi:i<q.length) {R:Int} {K:Nat} (hout:∀ k,K≤k→Hh k q q.length ((i+1:Nat):Int)=some R) :
  ∀ (d j k:Nat),j+d=i→d+1+K≤k→JD k q q.length i j=some (bif DJ (fun j=>!Es q i j) j d then R else 5)
 | d,j,0,_,hk=>by omega
 | 0,j,k+1,hj,hk=>by
  have:=h.high
  rw [JD]
  unfold XK
  rw [decide_eq_false (show ¬ (j:Int)<i by omega),AJ,As (by omega) (by omega),show (i:Int)+1=((i+1:Nat):Int) by omega,hout k (by omega)]
  rfl
 | d+1,j,k+1,hj,hk=>by
  have hh:=h.high
  have ih:=Tg h hi hout d (j+1) k (by omega) (by omega)
  have wj:IntKind.i64.wrap ((j:Int)+1)=((j+1:Nat):Int):=by rw [As (by omega) (by omega)];omega
  have si:=Dj h hi
  have sj:=Dj h (show j<q.length by omega)
  unfold okS at si sj
  obtain ⟨n1,n2,n3⟩:=iP h.high hi (show j<i by omega)
  have hc:Es q i j=nX (EB (AO q i).x0 (AO q i).y0 (AO q i).x1 (AO q i).y1 (AO q j).x0 (AO q j).y0 (AO q j).x1 (AO q j).y1) (decide (j+1=i) || (decide (j=0)&&decide (i+1=q.length))):=rfl
  rw [JD]
  unfold XK
  simp only [decide_eq_true (show (j:Int)<i by omega),Ba,BH,LT.2 ⟨⟨show (0:Int)≤i by omega,show (i:Int)<q.length by omega⟩,show q.length≤1000 by omega⟩,LT.2 ⟨⟨show (0:Int)≤j by omega,show (j:Int)<q.length by omega⟩,show q.length≤1000 by omega⟩,Int.toNat_natCast,si,sj,n1,n2,n3,wj,ih,Bool.and_self,AH]
  rw [Em,hc]
  unfold nX
  cases decide (j+1=i) <;> cases decide (j=0) <;> cases decide (i+1=q.length) <;> cases (EB (AO q i).x0 (AO q i).y0 (AO q i).x1 (AO q i).y1 (AO q j).x0 (AO q j).y0 (AO q j).x1 (AO q j).y1 != 1) <;> cases (EB (AO q i).x0 (AO q i).y0 (AO q i).x1 (AO q i).y1 (AO q j).x0 (AO q j).y0 (AO q j).x1 (AO q j).y1 != 0) <;> rfl
theorem Th {q:List Pt} (h:RingIn q):∀ (d i k:Nat),i+d=q.length→15*d+1≤k→Hh k q q.length i=some (bif BI (Es q) i d then 0 else 5)
 | d,i,0,_,hk=>by omega
 | 0,i,k+1,hi,hk=>by
  rw [Hh]
  unfold XL
  rw [decide_eq_false (show ¬ (i:Int)<q.length by omega)]
  rfl
 | d+1,i,k+1,hi,hk=>by
  have:=h.high
  have ih:=Tg h (i:=i) (by omega) (K:=15*d+1) (fun k hk=>Th h d (i+1) k (by omega) hk) i 0 k (by omega) (by omega)
  rw [Hh]
  unfold XL
  rw [decide_eq_true (show (i:Int)<q.length by omega),AH]
  refine ih.trans ?_
  unfold BI
  rw [Em]
  cases DJ (fun j=>!Es q i j) 0 i <;> rfl
theorem Ti {q:List Pt} (hn:q.length≤12) {i:Nat} (hi:i<q.length) {R:Int} {K:Nat} (hout:DJ (fun j=>!Bl q i j) 0 i=true→∀ k,K≤k→Hi k q q.length ((i+1:Nat):Int)=some R) :
  ∀ (d j k:Nat),j+d=i→d+1+K≤k→DJ (fun j=>!Bl q i j) 0 i=DJ (fun j=>!Bl q i j) j d→JE k q q.length i j=some (bif DJ (fun j=>!Bl q i j) j d then R else 4)
 | d,j,0,_,hk,_=>by omega
 | 0,j,k+1,hj,hk,he=>by
  rw [JE]
  unfold XM
  rw [decide_eq_false (show ¬ (j:Int)<i by omega),AJ,As (by omega) (by omega),show (i:Int)+1=((i+1:Nat):Int) by omega,hout he k (by omega)]
  rfl
 | d+1,j,k+1,hj,hk,he=>by
  have wj:IntKind.i64.wrap ((j:Int)+1)=((j+1:Nat):Int):=by rw [As (by omega) (by omega)];omega
  have hs:Bl q i j=((q.getD i .zero).x==(q.getD j .zero).x&&(q.getD i .zero).y==(q.getD j .zero).y):=rfl
  rw [JE]
  unfold XM
  simp only [decide_eq_true (show (j:Int)<i by omega),decide_eq_true (show (0:Int)≤i by omega),decide_eq_true (show (i:Int)<q.length by omega),decide_eq_true (show (0:Int)≤j by omega),decide_eq_true (show (j:Int)<q.length by omega),Int.toNat_natCast,wj,Bool.and_true,AH]
  rw [← hs]
  rw [Em] at he ⊢
  cases hc:Bl q i j with
  | true=>rfl
  | false =>
   rw [hc] at he
   rw [AJ,Ti hn hi hout d (j+1) k (by omega) (by omega) he]
   rfl
theorem Tj {q:List Pt} (hn:q.length≤12) {R:Int} {K:Nat} (hout:BI (Bl q) 0 q.length=true→∀ k,K≤k→Hh k q q.length 0=some R) :
  ∀ (d i k:Nat),i+d=q.length→15*d+1+K≤k→(BI (Bl q) i d=true→BI (Bl q) 0 q.length=true)→Hi k q q.length i=some (bif BI (Bl q) i d then R else 4)
 | d,i,0,_,hk,_=>by omega
 | 0,i,k+1,hi,hk,he=>by
  rw [Hi]
  unfold XN
  rw [decide_eq_false (show ¬ (i:Int)<q.length by omega),AJ,hout (he rfl) k (by omega)]
  rfl
 | d+1,i,k+1,hi,hk,he=>by
  have cut:BI (Bl q) i (d+1)=(DJ (fun j=>!Bl q i j) 0 i&&BI (Bl q) (i+1) d):=rfl
  have ih:=Ti hn (i:=i) (by omega) (R:=bif BI (Bl q) (i+1) d then R else 4) (K:=15*d+1+K) (fun hc k hk=>Tj hn hout d (i+1) k (by omega) hk fun ht=>he (by rw [cut,hc,ht];rfl)) i 0 k (by omega) (by omega) rfl
  rw [Hi]
  unfold XN
  rw [decide_eq_true (show (i:Int)<q.length by omega),AH,cut]
  refine ih.trans ?_
  cases DJ (fun j=>!Bl q i j) 0 i <;> rfl
theorem YC {q:List Pt} (hn:q.length≤12) {R:Int} {K:Nat} (hout:(q.all fun p=>By p.x p.y)=true→∀ k,K≤k→Hi k q q.length 0=some R) :
  ∀ (d i k:Nat),i+d=q.length→d+1+K≤k→((q.drop i).all (fun p=>By p.x p.y)=true→(q.all fun p=>By p.x p.y)=true)→Mo k q q.length i=some (bif (q.drop i).all fun p=>By p.x p.y then R else 3)
 | d,i,0,_,hk,_=>by omega
 | 0,i,k+1,hi,hk,he=>by
  rw [List.drop_eq_nil_of_le (by omega)] at he ⊢
  rw [Mo]
  unfold jU
  rw [decide_eq_false (show ¬ (i:Int)<q.length by omega),AJ,hout (he rfl) k (by omega)]
  rfl
 | d+1,i,k+1,hi,hk,he=>by
  have hlt:i<q.length:=by omega
  have hg:q.getD i Pt.zero=q[i]:=by simp [List.getD,List.getElem?_eq_getElem hlt]
  rw [List.drop_eq_getElem_cons hlt,List.all_cons] at he ⊢
  rw [Mo]
  unfold jU
  rw [decide_eq_true (show (i:Int)<q.length by omega),decide_eq_true (show (0:Int)≤i by omega),Int.toNat_natCast,hg,As (by omega) (by omega),show (i:Int)+1=((i+1:Nat):Int) by omega]
  simp only [AH]
  cases ho:By q[i].x q[i].y with
  | false=>rfl
  | true =>
   rw [Bool.not_true,AJ,YC hn hout d (i+1) k (by omega) (by omega) fun ht=>he (by rw [ho,ht];rfl)]
   rfl
theorem dX (q:List Pt):G54 600 q=some (CK q):=by
 unfold G54 T54 CK It
 by_cases h1:q.length<3
 ·rw [decide_eq_true (show (q.length:Int)<3 by omega),decide_eq_true h1];rfl
 ·by_cases h2:q.length > 12
  ·rw [decide_eq_false (show ¬ (q.length:Int)<3 by omega),decide_eq_false h1,decide_eq_true (show (q.length:Int) > 12 by omega),decide_eq_true h2];rfl
  ·rw [decide_eq_false (show ¬ (q.length:Int)<3 by omega),decide_eq_false h1,decide_eq_false (show ¬ (q.length:Int) > 12 by omega),decide_eq_false h2]
   have:=YC (q:=q) (by omega) (R:=bif BI (Bl q) 0 q.length then (bif BI (Es q) 0 q.length then 0 else 5) else 4) (K:=400) (fun h3 k hk=>Tj (by omega) (R:=bif BI (Es q) 0 q.length then 0 else 5) (K:=190) (fun h4 k hk=>Th (MC h1 h2 h3 h4) q.length 0 k (by omega) (by omega)) q.length 0 k (by omega) (by omega) id) q.length 0 600 (by omega) (by omega) id
   refine this.trans ?_
   rw [List.drop_zero]
   cases (q.all fun p=>By p.x p.y) <;> cases BI (Bl q) 0 q.length <;> cases BI (Es q) 0 q.length <;> rfl
def Pm:List F→Bool | [x]=>BJ x | _=>false
def Tp:List F→F | [x]=>.int .i64 (CK (AR x)) | _=>.dflt
theorem sA:Ak Tryz.prog 54 Pm Tp :=
 Ad (c:=AT Tryz.f54) Tryz.func54 (by kernel_rfl) (by kernel_rfl) fun xs hp=>match xs,hp with
 | [x],hp=>⟨[CN (AR x)],_,⟨(CT hp).1,trivial⟩,t54 600 _ _ (dX _),.refl _⟩
def envK2:Env:=uZ.add 54 (.pure Pm Tp)
theorem Jl:Az Tryz.prog envK2:=(Env.add_ok HD sA.sp)
end
end Go.Proofs.YtonmnfkibnflnaaGreat.R
