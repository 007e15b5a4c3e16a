/-
 The own walk and what it shows,part 7 of 9.
-/
import Derived.Test.YtkjjmmgddehbhaaGreatJ1
import Derived.Test.YtkjjmmgddehbhaaGreatJ2
import Derived.Test.YtkjjmmgddehbhaaGreatJ3
import Derived.Test.YtkjjmmgddehbhaaGreatJ4
import Derived.Test.YtkjjmmgddehbhaaGreatJ5
import Derived.Test.YtkjjmmgddehbhaaGreatJ6
set_option linter.unusedVariables false
set_option linter.unusedSimpArgs false
set_option maxRecDepth 100000
set_option exponentiation.threshold 30000
namespace Go.Proofs.YtkjjmmgddehbhaaGreat.R
open Go
noncomputable section
set_option maxHeartbeats 1000000
theorem wide_bound {z:Int} (h:isWide z=true):z.natAbs<18446744073709551616 ^ 4:=by
 have:=isWide_iff.1 h
 have e:(18446744073709551616:Nat) ^ 4=2*57896044618658097711785492504343953926634992332820282019728792003956564819968:=rfl
 omega
theorem resBy_num (x y:Int):resBy [numF x,numF y]=numF (x*y):=by simp only [resBy,unNum_numF]
theorem resLess_num (x y:Int):resLess2 [numF x,numF y]=numF (x-y):=by simp only [resLess2,unNum_numF]
theorem resPlus_num (x y:Int):resPlus [numF x,numF y]=numF (x+y):=by simp only [resPlus,unNum_numF]
theorem num_ok {z:Int} {n m:Nat} (h:z.natAbs<18446744073709551616 ^ n) (hm:n≤m):isNum m (numF z)=true:=isNum_numF (bound_up h hm)
theorem pw_bounds {a0 a1 a2 a3 a4 a5 a6 a7 a8 a9 a10 a11:Int} (h:isPw a0 a1 a2 a3 a4 a5 a6 a7 a8 a9 a10 a11=true):(wdsS a0 a1 a2 a3).natAbs<18446744073709551616 ^ 4∧(wdsS a4 a5 a6 a7).natAbs<18446744073709551616 ^ 4∧(wdsS a8 a9 a10 a11).natAbs<18446744073709551616 ^ 4:=by
 simp only [isPw,Bool.and_eq_true] at h
 exact ⟨wide_bound (wdsS_bound h.1.1),wide_bound (wdsS_bound h.1.2),wide_bound (wdsS_bound h.2)⟩
/-! ### function 83 -/
def T83 {ρ:Type} (ret:(Int)→Option ρ) (a0:Int) (a1:Int) (a2:Int) (a3:Int) (a4:Int) (a5:Int) (a6:Int) (a7:Int) (a8:Int) (a9:Int) (a10:Int) (a11:Int) (b0:Int) (b1:Int) (b2:Int) (b3:Int) (b4:Int) (b5:Int) (b6:Int) (b7:Int) (b8:Int) (b9:Int) (b10:Int) (b11:Int):Option ρ :=
 (bsel (a0==b0&&(a1==b1&&(a2==b2&&(a3==b3&&true)))&&(a4==b4&&(a5==b5&&(a6==b6&&(a7==b7&&true)))&&(a8==b8&&(a9==b9&&(a10==b10&&(a11==b11&&true)))&&true)))
 (ret (0))
 (bsel (isPw a0 a1 a2 a3 a4 a5 a6 a7 a8 a9 a10 a11)
 (bsel (isPw b0 b1 b2 b3 b4 b5 b6 b7 b8 b9 b10 b11)
 (bsel (isNum 400 (numF (wdsS a0 a1 a2 a3))&&isNum 400 (numF (wdsS b8 b9 b10 b11)))
 (bsel (isNum 400 (numF (wdsS b0 b1 b2 b3))&&isNum 400 (numF (wdsS a8 a9 a10 a11)))
 (bsel (isNum 399 (resBy [numF (wdsS a0 a1 a2 a3),numF (wdsS b8 b9 b10 b11)])&&isNum 399 (resBy [numF (wdsS b0 b1 b2 b3),numF (wdsS a8 a9 a10 a11)]))
 (bsel ((unNum (resBy [numF (wdsS a0 a1 a2 a3),numF (wdsS b8 b9 b10 b11)])-unNum (resBy [numF (wdsS b0 b1 b2 b3),numF (wdsS a8 a9 a10 a11)])).sign != 0)
 (ret ((unNum (resBy [numF (wdsS a0 a1 a2 a3),numF (wdsS b8 b9 b10 b11)])-unNum (resBy [numF (wdsS b0 b1 b2 b3),numF (wdsS a8 a9 a10 a11)])).sign))
 (bsel (isNum 400 (numF (wdsS a4 a5 a6 a7))&&isNum 400 (numF (wdsS b8 b9 b10 b11)))
 (bsel (isNum 400 (numF (wdsS b4 b5 b6 b7))&&isNum 400 (numF (wdsS a8 a9 a10 a11)))
 (bsel (isNum 399 (resBy [numF (wdsS a4 a5 a6 a7),numF (wdsS b8 b9 b10 b11)])&&isNum 399 (resBy [numF (wdsS b4 b5 b6 b7),numF (wdsS a8 a9 a10 a11)]))
 (ret ((unNum (resBy [numF (wdsS a4 a5 a6 a7),numF (wdsS b8 b9 b10 b11)])-unNum (resBy [numF (wdsS b4 b5 b6 b7),numF (wdsS a8 a9 a10 a11)])).sign))
 none)
 none)
 none))
 none)
 none)
 none)
 none)
 none))
def G83 (a0:Int) (a1:Int) (a2:Int) (a3:Int) (a4:Int) (a5:Int) (a6:Int) (a7:Int) (a8:Int) (a9:Int) (a10:Int) (a11:Int) (b0:Int) (b1:Int) (b2:Int) (b3:Int) (b4:Int) (b5:Int) (b6:Int) (b7:Int) (b8:Int) (b9:Int) (b10:Int) (b11:Int):Option (Int):=T83 some a0 a1 a2 a3 a4 a5 a6 a7 a8 a9 a10 a11 b0 b1 b2 b3 b4 b5 b6 b7 b8 b9 b10 b11
theorem t83 (a0:Int) (a1:Int) (a2:Int) (a3:Int) (a4:Int) (a5:Int) (a6:Int) (a7:Int) (a8:Int) (a9:Int) (a10:Int) (a11:Int) (b0:Int) (b1:Int) (b2:Int) (b3:Int) (b4:Int) (b5:Int) (b6:Int) (b7:Int) (b8:Int) (b9:Int) (b10:Int) (b11:Int) (r:Int) (h:G83 a0 a1 a2 a3 a4 a5 a6 a7 a8 a9 a10 a11 b0 b1 b2 b3 b4 b5 b6 b7 b8 b9 b10 b11=some r):Ends Tryz.prog Tryz.f83.results.toList [.code (bodyOf Tryz.f83)] (start Tryz.f83.ntmps ([F.agg [F.int .u64 a0,F.int .u64 a1,F.int .u64 a2,F.int .u64 a3,F.int .u64 a4,F.int .u64 a5,F.int .u64 a6,F.int .u64 a7,F.int .u64 a8,F.int .u64 a9,F.int .u64 a10,F.int .u64 a11],F.agg [F.int .u64 b0,F.int .u64 b1,F.int .u64 b2,F.int .u64 b3,F.int .u64 b4,F.int .u64 b5,F.int .u64 b6,F.int .u64 b7,F.int .u64 b8,F.int .u64 b9,F.int .u64 b10,F.int .u64 b11]].map .f)) (F.int .i64 r):=by
 refine Ends.of_run tyOK envH6_ok (T:=[]) (n:=200) ?_
 refine gE (Y:=T83 (fun r=>some (.ret (F.int .i64 r))) a0 a1 a2 a3 a4 a5 a6 a7 a8 a9 a10 a11 b0 b1 b2 b3 b4 b5 b6 b7 b8 b9 b10 b11) (by kernel_rfl) ?_
 exact (gS h (fun _ h=>gR (by cases h;rfl)) (fun _ h=>(gS h (fun _ h=>(gS h (fun _ h=>(gS h (fun _ h=>(gS h (fun _ h=>(gS h (fun _ h=>(gS h (fun _ h=>gR (by cases h;rfl)) (fun _ h=>(gS h (fun _ h=>(gS h (fun _ h=>(gS h (fun _ h=>gR (by cases h;rfl)) gN)) gN)) gN)))) gN)) gN)) gN)) gN)) gN)))
theorem cmpP_law {a0 a1 a2 a3 a4 a5 a6 a7 a8 a9 a10 a11 b0 b1 b2 b3 b4 b5 b6 b7 b8 b9 b10 b11:Int} (ha:isPw a0 a1 a2 a3 a4 a5 a6 a7 a8 a9 a10 a11=true) (hb:isPw b0 b1 b2 b3 b4 b5 b6 b7 b8 b9 b10 b11=true) :
  G83 a0 a1 a2 a3 a4 a5 a6 a7 a8 a9 a10 a11 b0 b1 b2 b3 b4 b5 b6 b7 b8 b9 b10 b11=some (cmp3V (wdsS a0 a1 a2 a3) (wdsS a4 a5 a6 a7) (wdsS a8 a9 a10 a11) (wdsS b0 b1 b2 b3) (wdsS b4 b5 b6 b7) (wdsS b8 b9 b10 b11)):=by
 obtain ⟨x1,x2,x3⟩:=pw_bounds ha
 obtain ⟨y1,y2,y3⟩:=pw_bounds hb
 unfold G83 T83
 simp only [ha,hb,resBy_num,unNum_numF,num_ok x1 (show 4≤400 by omega),num_ok x2 (show 4≤400 by omega),num_ok x3 (show 4≤400 by omega),num_ok y1 (show 4≤400 by omega),num_ok y2 (show 4≤400 by omega),num_ok y3 (show 4≤400 by omega),
  num_ok (mul_bound x1 y3) (show 4+4≤399 by omega),num_ok (mul_bound y1 x3) (show 4+4≤399 by omega),num_ok (mul_bound x2 y3) (show 4+4≤399 by omega),num_ok (mul_bound y2 x3) (show 4+4≤399 by omega),Bool.and_self,bsel_true]
 unfold cmp3V
 cases hc:(a0==b0&&(a1==b1&&(a2==b2&&(a3==b3&&true)))&&(a4==b4&&(a5==b5&&(a6==b6&&(a7==b7&&true)))&&(a8==b8&&(a9==b9&&(a10==b10&&(a11==b11&&true)))&&true))) with
 | true =>
  simp only [Bool.and_eq_true,beq_iff_eq,Bool.and_true] at hc
  obtain ⟨⟨h0,h1,h2,h3⟩,⟨h4,h5,h6,h7⟩,h8,h9,h10,h11⟩:=hc
  subst h0 h1 h2 h3 h4 h5 h6 h7 h8 h9 h10 h11
  rw [bsel_true,Int.sub_self,Int.sub_self]
  rfl
 | false =>
  rw [bsel_false]
  cases (wdsS a0 a1 a2 a3*wdsS b8 b9 b10 b11-wdsS b0 b1 b2 b3*wdsS a8 a9 a10 a11).sign != 0 <;> rfl
def prePw2:List F→Bool | [.agg [.int .u64 a0,.int .u64 a1,.int .u64 a2,.int .u64 a3,.int .u64 a4,.int .u64 a5,.int .u64 a6,.int .u64 a7,.int .u64 a8,.int .u64 a9,.int .u64 a10,.int .u64 a11],.agg [.int .u64 b0,.int .u64 b1,.int .u64 b2,.int .u64 b3,.int .u64 b4,.int .u64 b5,.int .u64 b6,.int .u64 b7,.int .u64 b8,.int .u64 b9,.int .u64 b10,.int .u64 b11]]=>isPw a0 a1 a2 a3 a4 a5 a6 a7 a8 a9 a10 a11&&isPw b0 b1 b2 b3 b4 b5 b6 b7 b8 b9 b10 b11 | _=>false
def resCmpP:List F→F | [.agg [.int .u64 a0,.int .u64 a1,.int .u64 a2,.int .u64 a3,.int .u64 a4,.int .u64 a5,.int .u64 a6,.int .u64 a7,.int .u64 a8,.int .u64 a9,.int .u64 a10,.int .u64 a11],.agg [.int .u64 b0,.int .u64 b1,.int .u64 b2,.int .u64 b3,.int .u64 b4,.int .u64 b5,.int .u64 b6,.int .u64 b7,.int .u64 b8,.int .u64 b9,.int .u64 b10,.int .u64 b11]]=>.int .i64 (cmp3V (wdsS a0 a1 a2 a3) (wdsS a4 a5 a6 a7) (wdsS a8 a9 a10 a11) (wdsS b0 b1 b2 b3) (wdsS b4 b5 b6 b7) (wdsS b8 b9 b10 b11)) | _=>.dflt
theorem okCmpP:PureOK Tryz.prog 83 prePw2 resCmpP :=
 fn_pure (c:=bodyOf Tryz.f83) Tryz.func83 (by kernel_rfl) (by kernel_rfl) fun xs hp=>match xs,hp with
 | [.agg [.int .u64 a0,.int .u64 a1,.int .u64 a2,.int .u64 a3,.int .u64 a4,.int .u64 a5,.int .u64 a6,.int .u64 a7,.int .u64 a8,.int .u64 a9,.int .u64 a10,.int .u64 a11],.agg [.int .u64 b0,.int .u64 b1,.int .u64 b2,.int .u64 b3,.int .u64 b4,.int .u64 b5,.int .u64 b6,.int .u64 b7,.int .u64 b8,.int .u64 b9,.int .u64 b10,.int .u64 b11]],hp=>by
  simp only [prePw2,Bool.and_eq_true] at hp
  exact t83 a0 a1 a2 a3 a4 a5 a6 a7 a8 a9 a10 a11 b0 b1 b2 b3 b4 b5 b6 b7 b8 b9 b10 b11 _ (cmpP_law hp.1 hp.2)
theorem sub_bound2 {x y:Int} {n m:Nat} (hx:x.natAbs<18446744073709551616 ^ n) (hy:y.natAbs<18446744073709551616 ^ m):(x-y).natAbs<18446744073709551616 ^ (n+m+1):=by
 have:=sub_bound (bound_up hx (show n≤n+m by omega)) (bound_up hy (show m≤n+m by omega))
 exact this
/-! ### function 51 -/
def T51 {ρ:Type} (ret:(F)→Option ρ) (x:Int) (y:Int) (w:Int):Option ρ :=
 (bsel (isNum 400 (numF w))
 (bsel ((unNum (numF w)).sign==0)
 (ret (F.tup [F.agg [F.int .u64 0,F.int .u64 0,F.int .u64 0,F.int .u64 0,F.int .u64 0,F.int .u64 0,F.int .u64 0,F.int .u64 0,F.int .u64 0,F.int .u64 0,F.int .u64 0,F.int .u64 0],F.bool false]))
 (bsel (isNums 400 (F.sl 3 (lget [numF x,numF y,numF w]))&&gcdOk (unNums (F.sl 3 (lget [numF x,numF y,numF w]))))
 (bsel (decide (w<0))
 (bsel (isNum 400 (numF (↑(gcdFrom 0 (unNums (F.sl 3 (lget [numF x,numF y,numF w])))):Int)))
 (bsel (isNum 399 (numF x)&&isNum 399 (numF (-unNum (numF (↑(gcdFrom 0 (unNums (F.sl 3 (lget [numF x,numF y,numF w])))):Int))))&&overOk (unNum (numF x)) (unNum (numF (-unNum (numF (↑(gcdFrom 0 (unNums (F.sl 3 (lget [numF x,numF y,numF w])))):Int))))))
 (bsel (isNum 399 (numF y)&&isNum 399 (numF (-unNum (numF (↑(gcdFrom 0 (unNums (F.sl 3 (lget [numF x,numF y,numF w])))):Int))))&&overOk (unNum (numF y)) (unNum (numF (-unNum (numF (↑(gcdFrom 0 (unNums (F.sl 3 (lget [numF x,numF y,numF w])))):Int))))))
 (bsel (isNum 399 (numF w)&&isNum 399 (numF (-unNum (numF (↑(gcdFrom 0 (unNums (F.sl 3 (lget [numF x,numF y,numF w])))):Int))))&&overOk (unNum (numF w)) (unNum (numF (-unNum (numF (↑(gcdFrom 0 (unNums (F.sl 3 (lget [numF x,numF y,numF w])))):Int))))))
 (bsel (isNum 400 (numF (unNum (numF x) / unNum (numF (-unNum (numF (↑(gcdFrom 0 (unNums (F.sl 3 (lget [numF x,numF y,numF w])))):Int)))))))
 (bsel (isNum 400 (numF (unNum (numF y) / unNum (numF (-unNum (numF (↑(gcdFrom 0 (unNums (F.sl 3 (lget [numF x,numF y,numF w])))):Int)))))))
 (bsel (isNum 400 (numF (unNum (numF w) / unNum (numF (-unNum (numF (↑(gcdFrom 0 (unNums (F.sl 3 (lget [numF x,numF y,numF w])))):Int)))))))
 (bsel (decide ((if true=true then if (↑(Go.Proofs.YtkjjmmgddehbhaaGreat.R.bitLen (unNum (numF (unNum (numF w) / unNum (numF (-unNum (numF (↑(gcdFrom 0 (unNums (F.sl 3 (lget [numF x,numF y,numF w])))):Int))))))).natAbs):Int) > if true=true then if (↑(Go.Proofs.YtkjjmmgddehbhaaGreat.R.bitLen (unNum (numF (unNum (numF y) / unNum (numF (-unNum (numF (↑(gcdFrom 0 (unNums (F.sl 3 (lget [numF x,numF y,numF w])))):Int))))))).natAbs):Int) > (↑(Go.Proofs.YtkjjmmgddehbhaaGreat.R.bitLen (unNum (numF (unNum (numF x) / unNum (numF (-unNum (numF (↑(gcdFrom 0 (unNums (F.sl 3 (lget [numF x,numF y,numF w])))):Int))))))).natAbs):Int) then (↑(Go.Proofs.YtkjjmmgddehbhaaGreat.R.bitLen (unNum (numF (unNum (numF y) / unNum (numF (-unNum (numF (↑(gcdFrom 0 (unNums (F.sl 3 (lget [numF x,numF y,numF w])))):Int))))))).natAbs):Int) else (↑(Go.Proofs.YtkjjmmgddehbhaaGreat.R.bitLen (unNum (numF (unNum (numF x) / unNum (numF (-unNum (numF (↑(gcdFrom 0 (unNums (F.sl 3 (lget [numF x,numF y,numF w])))):Int))))))).natAbs):Int) else if (↑(Go.Proofs.YtkjjmmgddehbhaaGreat.R.bitLen (unNum (numF (unNum (numF y) / unNum (numF (-unNum (numF (↑(gcdFrom 0 (unNums (F.sl 3 (lget [numF x,numF y,numF w])))):Int))))))).natAbs):Int)<(↑(Go.Proofs.YtkjjmmgddehbhaaGreat.R.bitLen (unNum (numF (unNum (numF x) / unNum (numF (-unNum (numF (↑(gcdFrom 0 (unNums (F.sl 3 (lget [numF x,numF y,numF w])))):Int))))))).natAbs):Int) then (↑(Go.Proofs.YtkjjmmgddehbhaaGreat.R.bitLen (unNum (numF (unNum (numF y) / unNum (numF (-unNum (numF (↑(gcdFrom 0 (unNums (F.sl 3 (lget [numF x,numF y,numF w])))):Int))))))).natAbs):Int) else (↑(Go.Proofs.YtkjjmmgddehbhaaGreat.R.bitLen (unNum (numF (unNum (numF x) / unNum (numF (-unNum (numF (↑(gcdFrom 0 (unNums (F.sl 3 (lget [numF x,numF y,numF w])))):Int))))))).natAbs):Int) then (↑(Go.Proofs.YtkjjmmgddehbhaaGreat.R.bitLen (unNum (numF (unNum (numF w) / unNum (numF (-unNum (numF (↑(gcdFrom 0 (unNums (F.sl 3 (lget [numF x,numF y,numF w])))):Int))))))).natAbs):Int) else if true=true then if (↑(Go.Proofs.YtkjjmmgddehbhaaGreat.R.bitLen (unNum (numF (unNum (numF y) / unNum (numF (-unNum (numF (↑(gcdFrom 0 (unNums (F.sl 3 (lget [numF x,numF y,numF w])))):Int))))))).natAbs):Int) > (↑(Go.Proofs.YtkjjmmgddehbhaaGreat.R.bitLen (unNum (numF (unNum (numF x) / unNum (numF (-unNum (numF (↑(gcdFrom 0 (unNums (F.sl 3 (lget [numF x,numF y,numF w])))):Int))))))).natAbs):Int) then (↑(Go.Proofs.YtkjjmmgddehbhaaGreat.R.bitLen (unNum (numF (unNum (numF y) / unNum (numF (-unNum (numF (↑(gcdFrom 0 (unNums (F.sl 3 (lget [numF x,numF y,numF w])))):Int))))))).natAbs):Int) else (↑(Go.Proofs.YtkjjmmgddehbhaaGreat.R.bitLen (unNum (numF (unNum (numF x) / unNum (numF (-unNum (numF (↑(gcdFrom 0 (unNums (F.sl 3 (lget [numF x,numF y,numF w])))):Int))))))).natAbs):Int) else if (↑(Go.Proofs.YtkjjmmgddehbhaaGreat.R.bitLen (unNum (numF (unNum (numF y) / unNum (numF (-unNum (numF (↑(gcdFrom 0 (unNums (F.sl 3 (lget [numF x,numF y,numF w])))):Int))))))).natAbs):Int)<(↑(Go.Proofs.YtkjjmmgddehbhaaGreat.R.bitLen (unNum (numF (unNum (numF x) / unNum (numF (-unNum (numF (↑(gcdFrom 0 (unNums (F.sl 3 (lget [numF x,numF y,numF w])))):Int))))))).natAbs):Int) then (↑(Go.Proofs.YtkjjmmgddehbhaaGreat.R.bitLen (unNum (numF (unNum (numF y) / unNum (numF (-unNum (numF (↑(gcdFrom 0 (unNums (F.sl 3 (lget [numF x,numF y,numF w])))):Int))))))).natAbs):Int) else (↑(Go.Proofs.YtkjjmmgddehbhaaGreat.R.bitLen (unNum (numF (unNum (numF x) / unNum (numF (-unNum (numF (↑(gcdFrom 0 (unNums (F.sl 3 (lget [numF x,numF y,numF w])))):Int))))))).natAbs):Int) else if (↑(Go.Proofs.YtkjjmmgddehbhaaGreat.R.bitLen (unNum (numF (unNum (numF w) / unNum (numF (-unNum (numF (↑(gcdFrom 0 (unNums (F.sl 3 (lget [numF x,numF y,numF w])))):Int))))))).natAbs):Int)<if true=true then if (↑(Go.Proofs.YtkjjmmgddehbhaaGreat.R.bitLen (unNum (numF (unNum (numF y) / unNum (numF (-unNum (numF (↑(gcdFrom 0 (unNums (F.sl 3 (lget [numF x,numF y,numF w])))):Int))))))).natAbs):Int) > (↑(Go.Proofs.YtkjjmmgddehbhaaGreat.R.bitLen (unNum (numF (unNum (numF x) / unNum (numF (-unNum (numF (↑(gcdFrom 0 (unNums (F.sl 3 (lget [numF x,numF y,numF w])))):Int))))))).natAbs):Int) then (↑(Go.Proofs.YtkjjmmgddehbhaaGreat.R.bitLen (unNum (numF (unNum (numF y) / unNum (numF (-unNum (numF (↑(gcdFrom 0 (unNums (F.sl 3 (lget [numF x,numF y,numF w])))):Int))))))).natAbs):Int) else (↑(Go.Proofs.YtkjjmmgddehbhaaGreat.R.bitLen (unNum (numF (unNum (numF x) / unNum (numF (-unNum (numF (↑(gcdFrom 0 (unNums (F.sl 3 (lget [numF x,numF y,numF w])))):Int))))))).natAbs):Int) else if (↑(Go.Proofs.YtkjjmmgddehbhaaGreat.R.bitLen (unNum (numF (unNum (numF y) / unNum (numF (-unNum (numF (↑(gcdFrom 0 (unNums (F.sl 3 (lget [numF x,numF y,numF w])))):Int))))))).natAbs):Int)<(↑(Go.Proofs.YtkjjmmgddehbhaaGreat.R.bitLen (unNum (numF (unNum (numF x) / unNum (numF (-unNum (numF (↑(gcdFrom 0 (unNums (F.sl 3 (lget [numF x,numF y,numF w])))):Int))))))).natAbs):Int) then (↑(Go.Proofs.YtkjjmmgddehbhaaGreat.R.bitLen (unNum (numF (unNum (numF y) / unNum (numF (-unNum (numF (↑(gcdFrom 0 (unNums (F.sl 3 (lget [numF x,numF y,numF w])))):Int))))))).natAbs):Int) else (↑(Go.Proofs.YtkjjmmgddehbhaaGreat.R.bitLen (unNum (numF (unNum (numF x) / unNum (numF (-unNum (numF (↑(gcdFrom 0 (unNums (F.sl 3 (lget [numF x,numF y,numF w])))):Int))))))).natAbs):Int) then (↑(Go.Proofs.YtkjjmmgddehbhaaGreat.R.bitLen (unNum (numF (unNum (numF w) / unNum (numF (-unNum (numF (↑(gcdFrom 0 (unNums (F.sl 3 (lget [numF x,numF y,numF w])))):Int))))))).natAbs):Int) else if true=true then if (↑(Go.Proofs.YtkjjmmgddehbhaaGreat.R.bitLen (unNum (numF (unNum (numF y) / unNum (numF (-unNum (numF (↑(gcdFrom 0 (unNums (F.sl 3 (lget [numF x,numF y,numF w])))):Int))))))).natAbs):Int) > (↑(Go.Proofs.YtkjjmmgddehbhaaGreat.R.bitLen (unNum (numF (unNum (numF x) / unNum (numF (-unNum (numF (↑(gcdFrom 0 (unNums (F.sl 3 (lget [numF x,numF y,numF w])))):Int))))))).natAbs):Int) then (↑(Go.Proofs.YtkjjmmgddehbhaaGreat.R.bitLen (unNum (numF (unNum (numF y) / unNum (numF (-unNum (numF (↑(gcdFrom 0 (unNums (F.sl 3 (lget [numF x,numF y,numF w])))):Int))))))).natAbs):Int) else (↑(Go.Proofs.YtkjjmmgddehbhaaGreat.R.bitLen (unNum (numF (unNum (numF x) / unNum (numF (-unNum (numF (↑(gcdFrom 0 (unNums (F.sl 3 (lget [numF x,numF y,numF w])))):Int))))))).natAbs):Int) else if (↑(Go.Proofs.YtkjjmmgddehbhaaGreat.R.bitLen (unNum (numF (unNum (numF y) / unNum (numF (-unNum (numF (↑(gcdFrom 0 (unNums (F.sl 3 (lget [numF x,numF y,numF w])))):Int))))))).natAbs):Int)<(↑(Go.Proofs.YtkjjmmgddehbhaaGreat.R.bitLen (unNum (numF (unNum (numF x) / unNum (numF (-unNum (numF (↑(gcdFrom 0 (unNums (F.sl 3 (lget [numF x,numF y,numF w])))):Int))))))).natAbs):Int) then (↑(Go.Proofs.YtkjjmmgddehbhaaGreat.R.bitLen (unNum (numF (unNum (numF y) / unNum (numF (-unNum (numF (↑(gcdFrom 0 (unNums (F.sl 3 (lget [numF x,numF y,numF w])))):Int))))))).natAbs):Int) else (↑(Go.Proofs.YtkjjmmgddehbhaaGreat.R.bitLen (unNum (numF (unNum (numF x) / unNum (numF (-unNum (numF (↑(gcdFrom 0 (unNums (F.sl 3 (lget [numF x,numF y,numF w])))):Int))))))).natAbs):Int)) > 80))
 (ret (F.tup [F.agg [F.int .u64 0,F.int .u64 0,F.int .u64 0,F.int .u64 0,F.int .u64 0,F.int .u64 0,F.int .u64 0,F.int .u64 0,F.int .u64 0,F.int .u64 0,F.int .u64 0,F.int .u64 0],F.bool false]))
 (bsel (isNum 399 (numF (unNum (numF x) / unNum (numF (-unNum (numF (↑(gcdFrom 0 (unNums (F.sl 3 (lget [numF x,numF y,numF w])))):Int)))))))
 (bsel (isNum 399 (numF (unNum (numF y) / unNum (numF (-unNum (numF (↑(gcdFrom 0 (unNums (F.sl 3 (lget [numF x,numF y,numF w])))):Int)))))))
 (bsel (isNum 399 (numF (unNum (numF w) / unNum (numF (-unNum (numF (↑(gcdFrom 0 (unNums (F.sl 3 (lget [numF x,numF y,numF w])))):Int)))))))
 (ret (F.tup [F.agg [F.int .u64 (wd3 (unNum (numF (unNum (numF x) / unNum (numF (-unNum (numF (↑(gcdFrom 0 (unNums (F.sl 3 (lget [numF x,numF y,numF w])))):Int)))))))),F.int .u64 (wd2 (unNum (numF (unNum (numF x) / unNum (numF (-unNum (numF (↑(gcdFrom 0 (unNums (F.sl 3 (lget [numF x,numF y,numF w])))):Int)))))))),F.int .u64 (wd1 (unNum (numF (unNum (numF x) / unNum (numF (-unNum (numF (↑(gcdFrom 0 (unNums (F.sl 3 (lget [numF x,numF y,numF w])))):Int)))))))),F.int .u64 (wd0 (unNum (numF (unNum (numF x) / unNum (numF (-unNum (numF (↑(gcdFrom 0 (unNums (F.sl 3 (lget [numF x,numF y,numF w])))):Int)))))))),F.int .u64 (wd3 (unNum (numF (unNum (numF y) / unNum (numF (-unNum (numF (↑(gcdFrom 0 (unNums (F.sl 3 (lget [numF x,numF y,numF w])))):Int)))))))),F.int .u64 (wd2 (unNum (numF (unNum (numF y) / unNum (numF (-unNum (numF (↑(gcdFrom 0 (unNums (F.sl 3 (lget [numF x,numF y,numF w])))):Int)))))))),F.int .u64 (wd1 (unNum (numF (unNum (numF y) / unNum (numF (-unNum (numF (↑(gcdFrom 0 (unNums (F.sl 3 (lget [numF x,numF y,numF w])))):Int)))))))),F.int .u64 (wd0 (unNum (numF (unNum (numF y) / unNum (numF (-unNum (numF (↑(gcdFrom 0 (unNums (F.sl 3 (lget [numF x,numF y,numF w])))):Int)))))))),F.int .u64 (wd3 (unNum (numF (unNum (numF w) / unNum (numF (-unNum (numF (↑(gcdFrom 0 (unNums (F.sl 3 (lget [numF x,numF y,numF w])))):Int)))))))),F.int .u64 (wd2 (unNum (numF (unNum (numF w) / unNum (numF (-unNum (numF (↑(gcdFrom 0 (unNums (F.sl 3 (lget [numF x,numF y,numF w])))):Int)))))))),F.int .u64 (wd1 (unNum (numF (unNum (numF w) / unNum (numF (-unNum (numF (↑(gcdFrom 0 (unNums (F.sl 3 (lget [numF x,numF y,numF w])))):Int)))))))),F.int .u64 (wd0 (unNum (numF (unNum (numF w) / unNum (numF (-unNum (numF (↑(gcdFrom 0 (unNums (F.sl 3 (lget [numF x,numF y,numF w])))):Int))))))))],F.bool true]))
 none)
 none)
 none))
 none)
 none)
 none)
 none)
 none)
 none)
 none)
 (bsel (isNum 399 (numF x)&&isNum 399 (numF (↑(gcdFrom 0 (unNums (F.sl 3 (lget [numF x,numF y,numF w])))):Int))&&overOk (unNum (numF x)) (unNum (numF (↑(gcdFrom 0 (unNums (F.sl 3 (lget [numF x,numF y,numF w])))):Int))))
 (bsel (isNum 399 (numF y)&&isNum 399 (numF (↑(gcdFrom 0 (unNums (F.sl 3 (lget [numF x,numF y,numF w])))):Int))&&overOk (unNum (numF y)) (unNum (numF (↑(gcdFrom 0 (unNums (F.sl 3 (lget [numF x,numF y,numF w])))):Int))))
 (bsel (isNum 399 (numF w)&&isNum 399 (numF (↑(gcdFrom 0 (unNums (F.sl 3 (lget [numF x,numF y,numF w])))):Int))&&overOk (unNum (numF w)) (unNum (numF (↑(gcdFrom 0 (unNums (F.sl 3 (lget [numF x,numF y,numF w])))):Int))))
 (bsel (isNum 400 (numF (unNum (numF x) / unNum (numF (↑(gcdFrom 0 (unNums (F.sl 3 (lget [numF x,numF y,numF w])))):Int)))))
 (bsel (isNum 400 (numF (unNum (numF y) / unNum (numF (↑(gcdFrom 0 (unNums (F.sl 3 (lget [numF x,numF y,numF w])))):Int)))))
 (bsel (isNum 400 (numF (unNum (numF w) / unNum (numF (↑(gcdFrom 0 (unNums (F.sl 3 (lget [numF x,numF y,numF w])))):Int)))))
 (bsel (decide ((if true=true then if (↑(Go.Proofs.YtkjjmmgddehbhaaGreat.R.bitLen (unNum (numF (unNum (numF w) / unNum (numF (↑(gcdFrom 0 (unNums (F.sl 3 (lget [numF x,numF y,numF w])))):Int))))).natAbs):Int) > if true=true then if (↑(Go.Proofs.YtkjjmmgddehbhaaGreat.R.bitLen (unNum (numF (unNum (numF y) / unNum (numF (↑(gcdFrom 0 (unNums (F.sl 3 (lget [numF x,numF y,numF w])))):Int))))).natAbs):Int) > (↑(Go.Proofs.YtkjjmmgddehbhaaGreat.R.bitLen (unNum (numF (unNum (numF x) / unNum (numF (↑(gcdFrom 0 (unNums (F.sl 3 (lget [numF x,numF y,numF w])))):Int))))).natAbs):Int) then (↑(Go.Proofs.YtkjjmmgddehbhaaGreat.R.bitLen (unNum (numF (unNum (numF y) / unNum (numF (↑(gcdFrom 0 (unNums (F.sl 3 (lget [numF x,numF y,numF w])))):Int))))).natAbs):Int) else (↑(Go.Proofs.YtkjjmmgddehbhaaGreat.R.bitLen (unNum (numF (unNum (numF x) / unNum (numF (↑(gcdFrom 0 (unNums (F.sl 3 (lget [numF x,numF y,numF w])))):Int))))).natAbs):Int) else if (↑(Go.Proofs.YtkjjmmgddehbhaaGreat.R.bitLen (unNum (numF (unNum (numF y) / unNum (numF (↑(gcdFrom 0 (unNums (F.sl 3 (lget [numF x,numF y,numF w])))):Int))))).natAbs):Int)<(↑(Go.Proofs.YtkjjmmgddehbhaaGreat.R.bitLen (unNum (numF (unNum (numF x) / unNum (numF (↑(gcdFrom 0 (unNums (F.sl 3 (lget [numF x,numF y,numF w])))):Int))))).natAbs):Int) then (↑(Go.Proofs.YtkjjmmgddehbhaaGreat.R.bitLen (unNum (numF (unNum (numF y) / unNum (numF (↑(gcdFrom 0 (unNums (F.sl 3 (lget [numF x,numF y,numF w])))):Int))))).natAbs):Int) else (↑(Go.Proofs.YtkjjmmgddehbhaaGreat.R.bitLen (unNum (numF (unNum (numF x) / unNum (numF (↑(gcdFrom 0 (unNums (F.sl 3 (lget [numF x,numF y,numF w])))):Int))))).natAbs):Int) then (↑(Go.Proofs.YtkjjmmgddehbhaaGreat.R.bitLen (unNum (numF (unNum (numF w) / unNum (numF (↑(gcdFrom 0 (unNums (F.sl 3 (lget [numF x,numF y,numF w])))):Int))))).natAbs):Int) else if true=true then if (↑(Go.Proofs.YtkjjmmgddehbhaaGreat.R.bitLen (unNum (numF (unNum (numF y) / unNum (numF (↑(gcdFrom 0 (unNums (F.sl 3 (lget [numF x,numF y,numF w])))):Int))))).natAbs):Int) > (↑(Go.Proofs.YtkjjmmgddehbhaaGreat.R.bitLen (unNum (numF (unNum (numF x) / unNum (numF (↑(gcdFrom 0 (unNums (F.sl 3 (lget [numF x,numF y,numF w])))):Int))))).natAbs):Int) then (↑(Go.Proofs.YtkjjmmgddehbhaaGreat.R.bitLen (unNum (numF (unNum (numF y) / unNum (numF (↑(gcdFrom 0 (unNums (F.sl 3 (lget [numF x,numF y,numF w])))):Int))))).natAbs):Int) else (↑(Go.Proofs.YtkjjmmgddehbhaaGreat.R.bitLen (unNum (numF (unNum (numF x) / unNum (numF (↑(gcdFrom 0 (unNums (F.sl 3 (lget [numF x,numF y,numF w])))):Int))))).natAbs):Int) else if (↑(Go.Proofs.YtkjjmmgddehbhaaGreat.R.bitLen (unNum (numF (unNum (numF y) / unNum (numF (↑(gcdFrom 0 (unNums (F.sl 3 (lget [numF x,numF y,numF w])))):Int))))).natAbs):Int)<(↑(Go.Proofs.YtkjjmmgddehbhaaGreat.R.bitLen (unNum (numF (unNum (numF x) / unNum (numF (↑(gcdFrom 0 (unNums (F.sl 3 (lget [numF x,numF y,numF w])))):Int))))).natAbs):Int) then (↑(Go.Proofs.YtkjjmmgddehbhaaGreat.R.bitLen (unNum (numF (unNum (numF y) / unNum (numF (↑(gcdFrom 0 (unNums (F.sl 3 (lget [numF x,numF y,numF w])))):Int))))).natAbs):Int) else (↑(Go.Proofs.YtkjjmmgddehbhaaGreat.R.bitLen (unNum (numF (unNum (numF x) / unNum (numF (↑(gcdFrom 0 (unNums (F.sl 3 (lget [numF x,numF y,numF w])))):Int))))).natAbs):Int) else if (↑(Go.Proofs.YtkjjmmgddehbhaaGreat.R.bitLen (unNum (numF (unNum (numF w) / unNum (numF (↑(gcdFrom 0 (unNums (F.sl 3 (lget [numF x,numF y,numF w])))):Int))))).natAbs):Int)<if true=true then if (↑(Go.Proofs.YtkjjmmgddehbhaaGreat.R.bitLen (unNum (numF (unNum (numF y) / unNum (numF (↑(gcdFrom 0 (unNums (F.sl 3 (lget [numF x,numF y,numF w])))):Int))))).natAbs):Int) > (↑(Go.Proofs.YtkjjmmgddehbhaaGreat.R.bitLen (unNum (numF (unNum (numF x) / unNum (numF (↑(gcdFrom 0 (unNums (F.sl 3 (lget [numF x,numF y,numF w])))):Int))))).natAbs):Int) then (↑(Go.Proofs.YtkjjmmgddehbhaaGreat.R.bitLen (unNum (numF (unNum (numF y) / unNum (numF (↑(gcdFrom 0 (unNums (F.sl 3 (lget [numF x,numF y,numF w])))):Int))))).natAbs):Int) else (↑(Go.Proofs.YtkjjmmgddehbhaaGreat.R.bitLen (unNum (numF (unNum (numF x) / unNum (numF (↑(gcdFrom 0 (unNums (F.sl 3 (lget [numF x,numF y,numF w])))):Int))))).natAbs):Int) else if (↑(Go.Proofs.YtkjjmmgddehbhaaGreat.R.bitLen (unNum (numF (unNum (numF y) / unNum (numF (↑(gcdFrom 0 (unNums (F.sl 3 (lget [numF x,numF y,numF w])))):Int))))).natAbs):Int)<(↑(Go.Proofs.YtkjjmmgddehbhaaGreat.R.bitLen (unNum (numF (unNum (numF x) / unNum (numF (↑(gcdFrom 0 (unNums (F.sl 3 (lget [numF x,numF y,numF w])))):Int))))).natAbs):Int) then (↑(Go.Proofs.YtkjjmmgddehbhaaGreat.R.bitLen (unNum (numF (unNum (numF y) / unNum (numF (↑(gcdFrom 0 (unNums (F.sl 3 (lget [numF x,numF y,numF w])))):Int))))).natAbs):Int) else (↑(Go.Proofs.YtkjjmmgddehbhaaGreat.R.bitLen (unNum (numF (unNum (numF x) / unNum (numF (↑(gcdFrom 0 (unNums (F.sl 3 (lget [numF x,numF y,numF w])))):Int))))).natAbs):Int) then (↑(Go.Proofs.YtkjjmmgddehbhaaGreat.R.bitLen (unNum (numF (unNum (numF w) / unNum (numF (↑(gcdFrom 0 (unNums (F.sl 3 (lget [numF x,numF y,numF w])))):Int))))).natAbs):Int) else if true=true then if (↑(Go.Proofs.YtkjjmmgddehbhaaGreat.R.bitLen (unNum (numF (unNum (numF y) / unNum (numF (↑(gcdFrom 0 (unNums (F.sl 3 (lget [numF x,numF y,numF w])))):Int))))).natAbs):Int) > (↑(Go.Proofs.YtkjjmmgddehbhaaGreat.R.bitLen (unNum (numF (unNum (numF x) / unNum (numF (↑(gcdFrom 0 (unNums (F.sl 3 (lget [numF x,numF y,numF w])))):Int))))).natAbs):Int) then (↑(Go.Proofs.YtkjjmmgddehbhaaGreat.R.bitLen (unNum (numF (unNum (numF y) / unNum (numF (↑(gcdFrom 0 (unNums (F.sl 3 (lget [numF x,numF y,numF w])))):Int))))).natAbs):Int) else (↑(Go.Proofs.YtkjjmmgddehbhaaGreat.R.bitLen (unNum (numF (unNum (numF x) / unNum (numF (↑(gcdFrom 0 (unNums (F.sl 3 (lget [numF x,numF y,numF w])))):Int))))).natAbs):Int) else if (↑(Go.Proofs.YtkjjmmgddehbhaaGreat.R.bitLen (unNum (numF (unNum (numF y) / unNum (numF (↑(gcdFrom 0 (unNums (F.sl 3 (lget [numF x,numF y,numF w])))):Int))))).natAbs):Int)<(↑(Go.Proofs.YtkjjmmgddehbhaaGreat.R.bitLen (unNum (numF (unNum (numF x) / unNum (numF (↑(gcdFrom 0 (unNums (F.sl 3 (lget [numF x,numF y,numF w])))):Int))))).natAbs):Int) then (↑(Go.Proofs.YtkjjmmgddehbhaaGreat.R.bitLen (unNum (numF (unNum (numF y) / unNum (numF (↑(gcdFrom 0 (unNums (F.sl 3 (lget [numF x,numF y,numF w])))):Int))))).natAbs):Int) else (↑(Go.Proofs.YtkjjmmgddehbhaaGreat.R.bitLen (unNum (numF (unNum (numF x) / unNum (numF (↑(gcdFrom 0 (unNums (F.sl 3 (lget [numF x,numF y,numF w])))):Int))))).natAbs):Int)) > 80))
 (ret (F.tup [F.agg [F.int .u64 0,F.int .u64 0,F.int .u64 0,F.int .u64 0,F.int .u64 0,F.int .u64 0,F.int .u64 0,F.int .u64 0,F.int .u64 0,F.int .u64 0,F.int .u64 0,F.int .u64 0],F.bool false]))
 (bsel (isNum 399 (numF (unNum (numF x) / unNum (numF (↑(gcdFrom 0 (unNums (F.sl 3 (lget [numF x,numF y,numF w])))):Int)))))
 (bsel (isNum 399 (numF (unNum (numF y) / unNum (numF (↑(gcdFrom 0 (unNums (F.sl 3 (lget [numF x,numF y,numF w])))):Int)))))
 (bsel (isNum 399 (numF (unNum (numF w) / unNum (numF (↑(gcdFrom 0 (unNums (F.sl 3 (lget [numF x,numF y,numF w])))):Int)))))
 (ret (F.tup [F.agg [F.int .u64 (wd3 (unNum (numF (unNum (numF x) / unNum (numF (↑(gcdFrom 0 (unNums (F.sl 3 (lget [numF x,numF y,numF w])))):Int)))))),F.int .u64 (wd2 (unNum (numF (unNum (numF x) / unNum (numF (↑(gcdFrom 0 (unNums (F.sl 3 (lget [numF x,numF y,numF w])))):Int)))))),F.int .u64 (wd1 (unNum (numF (unNum (numF x) / unNum (numF (↑(gcdFrom 0 (unNums (F.sl 3 (lget [numF x,numF y,numF w])))):Int)))))),F.int .u64 (wd0 (unNum (numF (unNum (numF x) / unNum (numF (↑(gcdFrom 0 (unNums (F.sl 3 (lget [numF x,numF y,numF w])))):Int)))))),F.int .u64 (wd3 (unNum (numF (unNum (numF y) / unNum (numF (↑(gcdFrom 0 (unNums (F.sl 3 (lget [numF x,numF y,numF w])))):Int)))))),F.int .u64 (wd2 (unNum (numF (unNum (numF y) / unNum (numF (↑(gcdFrom 0 (unNums (F.sl 3 (lget [numF x,numF y,numF w])))):Int)))))),F.int .u64 (wd1 (unNum (numF (unNum (numF y) / unNum (numF (↑(gcdFrom 0 (unNums (F.sl 3 (lget [numF x,numF y,numF w])))):Int)))))),F.int .u64 (wd0 (unNum (numF (unNum (numF y) / unNum (numF (↑(gcdFrom 0 (unNums (F.sl 3 (lget [numF x,numF y,numF w])))):Int)))))),F.int .u64 (wd3 (unNum (numF (unNum (numF w) / unNum (numF (↑(gcdFrom 0 (unNums (F.sl 3 (lget [numF x,numF y,numF w])))):Int)))))),F.int .u64 (wd2 (unNum (numF (unNum (numF w) / unNum (numF (↑(gcdFrom 0 (unNums (F.sl 3 (lget [numF x,numF y,numF w])))):Int)))))),F.int .u64 (wd1 (unNum (numF (unNum (numF w) / unNum (numF (↑(gcdFrom 0 (unNums (F.sl 3 (lget [numF x,numF y,numF w])))):Int)))))),F.int .u64 (wd0 (unNum (numF (unNum (numF w) / unNum (numF (↑(gcdFrom 0 (unNums (F.sl 3 (lget [numF x,numF y,numF w])))):Int))))))],F.bool true]))
 none)
 none)
 none))
 none)
 none)
 none)
 none)
 none)
 none))
 none))
 none)
def G51 (x:Int) (y:Int) (w:Int):Option (F):=T51 some x y w
theorem t51 (x:Int) (y:Int) (w:Int) (r:F) (h:G51 x y w=some r):Ends Tryz.prog Tryz.f51.results.toList [.code (bodyOf Tryz.f51)] (start Tryz.f51.ntmps ([F.agg [F.bool (decide (x<0)),wordsF (digs 18446744073709551616 x.natAbs),F.bool (decide (y<0)),wordsF (digs 18446744073709551616 y.natAbs),F.bool (decide (w<0)),wordsF (digs 18446744073709551616 w.natAbs)]].map .f)) (r):=by
 refine Ends.of_run tyOK envH6_ok (T:=[]) (n:=200) ?_
 refine gE (Y:=T51 (fun r=>some (.ret (r))) x y w) (by kernel_rfl) ?_
 exact (gS h (fun _ h=>(gS h (fun _ h=>gR (by cases h;rfl)) (fun _ h=>(gS h (fun _ h=>(gS h (fun _ h=>(gS h (fun _ h=>(gS h (fun _ h=>(gS h (fun _ h=>(gS h (fun _ h=>(gS h (fun _ h=>(gS h (fun _ h=>(gS h (fun _ h=>(gS h (fun _ h=>gR (by cases h;rfl)) (fun _ h=>(gS h (fun _ h=>(gS h (fun _ h=>(gS h (fun _ h=>gR (by cases h;rfl)) gN)) gN)) gN)))) gN)) gN)) gN)) gN)) gN)) gN)) gN)) (fun _ h=>(gS h (fun _ h=>(gS h (fun _ h=>(gS h (fun _ h=>(gS h (fun _ h=>(gS h (fun _ h=>(gS h (fun _ h=>(gS h (fun _ h=>gR (by cases h;rfl)) (fun _ h=>(gS h (fun _ h=>(gS h (fun _ h=>(gS h (fun _ h=>gR (by cases h;rfl)) gN)) gN)) gN)))) gN)) gN)) gN)) gN)) gN)) gN)))) gN)))) gN)
def isP12 (X:Option F):Prop:=∃ (c0 c1 c2 c3 c4 c5 c6 c7 c8 c9 c10 c11:Int) (b:Bool),X=some (F.tup [.agg [.int .u64 c0,.int .u64 c1,.int .u64 c2,.int .u64 c3,.int .u64 c4,.int .u64 c5,.int .u64 c6,.int .u64 c7,.int .u64 c8,.int .u64 c9,.int .u64 c10,.int .u64 c11],.bool b])
theorem ends2 {c:Bool} {X Y:Option F} (h1:isP12 X) (h2:isP12 Y):isP12 (bsel c X Y):=by
 cases c
 ·exact h2
 ·exact h1
theorem quot_bound {x g:Int} {n:Nat} (h:x.natAbs<18446744073709551616 ^ n):(x / g).natAbs<18446744073709551616 ^ (n+1) :=
 bound_up (Nat.lt_of_le_of_lt (Int.natAbs_ediv_le_natAbs x g) h) (by omega)
theorem point_law {x y w:Int} (hx:x.natAbs<18446744073709551616 ^ 100) (hy:y.natAbs<18446744073709551616) (hw:w.natAbs<18446744073709551616):isP12 (G51 x y w):=by
 have hy1:y.natAbs<18446744073709551616 ^ 1:=by rw [Nat.pow_one];exact hy
 have hw1:w.natAbs<18446744073709551616 ^ 1:=by rw [Nat.pow_one];exact hw
 have e1:unNums (F.sl 3 (lget [numF x,numF y,numF w]))=[x,y,w]:=by
  show [unNum (numF x),unNum (numF y),unNum (numF w)]=_
  rw [unNum_numF,unNum_numF,unNum_numF]
 have e0:isNums 400 (F.sl 3 (lget [numF x,numF y,numF w]))=true:=by
  simp only [isNums,isSl,List.all_eq_true,List.mem_range]
  intro i hi
  match i,hi with
  | 0,_=>exact num_ok hx (by omega)
  | 1,_=>exact num_ok hy1 (by omega)
  | 2,_=>exact num_ok hw1 (by omega)
 have e2:gcdOk [x,y,w]=true:=gcdOk_iff.2 ⟨by simp,fun z hz=>by
  simp at hz
  rcases hz with rfl | rfl
  ·exact hy
  ·exact hw⟩
 have z:∀ {c0 c1 c2 c3 c4 c5 c6 c7 c8 c9 c10 c11:Int} {b:Bool},isP12 (some (F.tup [.agg [.int .u64 c0,.int .u64 c1,.int .u64 c2,.int .u64 c3,.int .u64 c4,.int .u64 c5,.int .u64 c6,.int .u64 c7,.int .u64 c8,.int .u64 c9,.int .u64 c10,.int .u64 c11],.bool b])):=⟨_,_,_,_,_,_,_,_,_,_,_,_,_,rfl⟩
 unfold G51 T51
 simp only [e0,e1,e2,unNum_numF,num_ok hw1 (show 1≤400 by omega),Bool.and_self,bsel_true]
 by_cases h0:w=0
 ·subst h0
  exact z
 ·have hs:(w.sign==0)=false:=by
   rw [sign_eq0,beq_eq_false_iff_ne];exact h0
  have hg0:gcdFrom 0 [x,y,w] ≠ 0∧gcdFrom 0 [x,y,w]≤w.natAbs:=by
   have e:gcdFrom 0 [x,y,w]=Nat.gcd (Nat.gcd (Nat.gcd 0 x.natAbs) y.natAbs) w.natAbs:=rfl
   rw [e]
   have h1:=Nat.gcd_pos_of_pos_right (Nat.gcd (Nat.gcd 0 x.natAbs) y.natAbs) (show 0<w.natAbs by omega)
   have h2:=Nat.gcd_le_right (Nat.gcd (Nat.gcd 0 x.natAbs) y.natAbs) (show 0<w.natAbs by omega)
   omega
  generalize gcdFrom 0 [x,y,w]=g at hg0
  have hg1:((g:Nat):Int).natAbs<18446744073709551616 ^ 1:=by rw [Nat.pow_one];omega
  have hm1:(-((g:Nat):Int)).natAbs<18446744073709551616 ^ 1:=by rw [Nat.pow_one];omega
  have o1:∀ x:Int,overOk x (g:Int)=true:=fun x=>divOk_iff.2 ⟨by omega,.inl (by omega)⟩
  have o2:∀ x:Int,overOk x (-(g:Int))=true:=fun x=>divOk_iff.2 ⟨by omega,.inl (by omega)⟩
  rw [hs,bsel_false]
  refine ends2 ?_ ?_
  ·simp only [num_ok hg1 (show 1≤400 by omega),num_ok hx (show 100≤399 by omega),num_ok hy1 (show 1≤399 by omega),num_ok hw1 (show 1≤399 by omega),num_ok hm1 (show 1≤399 by omega),o2,num_ok (quot_bound (g:=-(g:Int)) hx) (show 100+1≤400 by omega),num_ok (quot_bound (g:=-(g:Int)) hy1) (show 1+1≤400 by omega),num_ok (quot_bound (g:=-(g:Int)) hw1) (show 1+1≤400 by omega),
    num_ok (quot_bound (g:=-(g:Int)) hx) (show 100+1≤399 by omega),num_ok (quot_bound (g:=-(g:Int)) hy1) (show 1+1≤399 by omega),num_ok (quot_bound (g:=-(g:Int)) hw1) (show 1+1≤399 by omega),Bool.and_self,bsel_true]
   exact ends2 z z
  ·simp only [num_ok hg1 (show 1≤399 by omega),num_ok hx (show 100≤399 by omega),num_ok hy1 (show 1≤399 by omega),num_ok hw1 (show 1≤399 by omega),o1,num_ok (quot_bound (g:=(g:Int)) hx) (show 100+1≤400 by omega),num_ok (quot_bound (g:=(g:Int)) hy1) (show 1+1≤400 by omega),num_ok (quot_bound (g:=(g:Int)) hw1) (show 1+1≤400 by omega),
    num_ok (quot_bound (g:=(g:Int)) hx) (show 100+1≤399 by omega),num_ok (quot_bound (g:=(g:Int)) hy1) (show 1+1≤399 by omega),num_ok (quot_bound (g:=(g:Int)) hw1) (show 1+1≤399 by omega),Bool.and_self,bsel_true]
   exact ends2 z z
def spotF (x y w:Int):F:=.agg [.bool (decide (x<0)),wordsF (digs 18446744073709551616 x.natAbs),.bool (decide (y<0)),wordsF (digs 18446744073709551616 y.natAbs),.bool (decide (w<0)),wordsF (digs 18446744073709551616 w.natAbs)]
def isSpot3 (n:Nat):F→Bool | .agg [a,b,c,d,e,f]=>isNum n (.agg [a,b])&&(isNum n (.agg [c,d])&&isNum n (.agg [e,f])) | _=>false
def unXs:F→Int | .agg [a,b,_,_,_,_]=>unNum (.agg [a,b]) | _=>0
def unYs:F→Int | .agg [_,_,c,d,_,_]=>unNum (.agg [c,d]) | _=>0
def unWs:F→Int | .agg [_,_,_,_,e,f]=>unNum (.agg [e,f]) | _=>0
theorem isSpot3_spotF {n:Nat} {x y w:Int} (hx:x.natAbs<18446744073709551616 ^ n) (hy:y.natAbs<18446744073709551616 ^ n) (hw:w.natAbs<18446744073709551616 ^ n):isSpot3 n (spotF x y w)=true:=by
 have h1:=isNum_numF hx
 have h2:=isNum_numF hy
 have h3:=isNum_numF hw
 unfold numF at h1 h2 h3
 simp only [isSpot3,spotF,h1,h2,h3,Bool.and_self]
theorem spot3_eqv {n:Nat} {x:F} (h:isSpot3 n x=true):FLe x (spotF (unXs x) (unYs x) (unWs x)):=by
 unfold isSpot3 at h
 split at h
 ·rename_i a b c d e f
  rw [Bool.and_eq_true,Bool.and_eq_true] at h
  obtain ⟨s,y,e1,hy,f1⟩:=num_form h.1
  obtain ⟨t,z,e2,hz,f2⟩:=num_form h.2.1
  obtain ⟨r,o,e3,ho,f3⟩:=num_form h.2.2
  cases e1;cases e2;cases e3
  have g:spotF (unXs (.agg [.bool s,b,.bool t,d,.bool r,f])) (unYs (.agg [.bool s,b,.bool t,d,.bool r,f])) (unWs (.agg [.bool s,b,.bool t,d,.bool r,f]))=.agg [.bool s,wordsF (unWords b),.bool t,wordsF (unWords d),.bool r,wordsF (unWords f)]:=by
   unfold numF at f1 f2 f3
   injection f1 with f1
   injection f2 with f2
   injection f3 with f3
   simp only [List.cons.injEq,and_true] at f1 f2 f3
   show F.agg [_,_,_,_,_,_]=_
   rw [show unXs (.agg [.bool s,b,.bool t,d,.bool r,f])=unNum (.agg [.bool s,b]) from rfl,show unYs (.agg [.bool s,b,.bool t,d,.bool r,f])=unNum (.agg [.bool t,d]) from rfl,show unWs (.agg [.bool s,b,.bool t,d,.bool r,f])=unNum (.agg [.bool r,f]) from rfl,f1.1,f1.2,f2.1,f2.2,f3.1,f3.2]
  rw [g]
  exact FLe.agg ⟨.refl _,(words_eqv hy).1,.refl _,(words_eqv hz).1,.refl _,(words_eqv ho).1,trivial⟩
 ·cases h
theorem spot3_bound {n:Nat} {x:F} (h:isSpot3 n x=true):(unXs x).natAbs<18446744073709551616 ^ n∧(unYs x).natAbs<18446744073709551616 ^ n∧(unWs x).natAbs<18446744073709551616 ^ n:=by
 unfold isSpot3 at h
 split at h
 ·rw [Bool.and_eq_true,Bool.and_eq_true] at h
  exact ⟨natAbs_of_isNum h.1,natAbs_of_isNum h.2.1,natAbs_of_isNum h.2.2⟩
 ·cases h
def intAt (l:List F) (i:Nat):Int:=match l[i]? with | some (.int _ n)=>n | _=>0
def ptWV (i:Nat) (x y w:Int):Int:=match G51 x y w with | some (.tup [.agg l,_])=>intAt l i | _=>0
def pointOkV (x y w:Int):Bool:=match G51 x y w with | some (.tup [_,.bool b])=>b | _=>false
def prePoint:List F→Bool | [x]=>isSpot3 1 x | _=>false
def resPoint:List F→F | [x]=>.tup [.agg [.int .u64 (ptWV 0 (unXs x) (unYs x) (unWs x)),.int .u64 (ptWV 1 (unXs x) (unYs x) (unWs x)),.int .u64 (ptWV 2 (unXs x) (unYs x) (unWs x)),.int .u64 (ptWV 3 (unXs x) (unYs x) (unWs x)),.int .u64 (ptWV 4 (unXs x) (unYs x) (unWs x)),.int .u64 (ptWV 5 (unXs x) (unYs x) (unWs x)),.int .u64 (ptWV 6 (unXs x) (unYs x) (unWs x)),.int .u64 (ptWV 7 (unXs x) (unYs x) (unWs x)),.int .u64 (ptWV 8 (unXs x) (unYs x) (unWs x)),.int .u64 (ptWV 9 (unXs x) (unYs x) (unWs x)),.int .u64 (ptWV 10 (unXs x) (unYs x) (unWs x)),.int .u64 (ptWV 11 (unXs x) (unYs x) (unWs x))],.bool (pointOkV (unXs x) (unYs x) (unWs x))] | _=>.dflt
theorem okPoint:PureOK Tryz.prog 51 prePoint resPoint :=
 fn_pure_at (c:=bodyOf Tryz.f51) Tryz.func51 (by kernel_rfl) (by kernel_rfl) fun xs hp=>match xs,hp with
 | [x],hp=>by
  obtain ⟨b1,b2,b3⟩:=spot3_bound (n:=1) hp
  obtain ⟨c0,c1,c2,c3,c4,c5,c6,c7,c8,c9,c10,c11,b,e⟩:=point_law (x:=unXs x) (y:=unYs x) (w:=unWs x) (bound_up b1 (show 1≤100 by omega)) (by rwa [Nat.pow_one] at b2) (by rwa [Nat.pow_one] at b3)
  refine ⟨[spotF (unXs x) (unYs x) (unWs x)],_,⟨spot3_eqv hp,trivial⟩,t51 _ _ _ _ e,?_⟩
  have e2:pointOkV (unXs x) (unYs x) (unWs x)=b:=by unfold pointOkV;rw [e]
  show FLe _ (.tup [.agg [.int .u64 (ptWV 0 (unXs x) (unYs x) (unWs x)),.int .u64 (ptWV 1 (unXs x) (unYs x) (unWs x)),.int .u64 (ptWV 2 (unXs x) (unYs x) (unWs x)),.int .u64 (ptWV 3 (unXs x) (unYs x) (unWs x)),.int .u64 (ptWV 4 (unXs x) (unYs x) (unWs x)),.int .u64 (ptWV 5 (unXs x) (unYs x) (unWs x)),.int .u64 (ptWV 6 (unXs x) (unYs x) (unWs x)),.int .u64 (ptWV 7 (unXs x) (unYs x) (unWs x)),.int .u64 (ptWV 8 (unXs x) (unYs x) (unWs x)),.int .u64 (ptWV 9 (unXs x) (unYs x) (unWs x)),.int .u64 (ptWV 10 (unXs x) (unYs x) (unWs x)),.int .u64 (ptWV 11 (unXs x) (unYs x) (unWs x))],.bool (pointOkV (unXs x) (unYs x) (unWs x))])
  simp only [ptWV,e2,e]
  exact .refl _
def envH7:Env:=(envH6.add 83 (.pure prePw2 resCmpP)).add 51 (.pure prePoint resPoint)
theorem envH7_ok:EnvOK Tryz.prog envH7:=(Env.add_ok (Env.add_ok envH6_ok okCmpP.sp) okPoint.sp)
end
noncomputable section
theorem wide_i64 {z:Int} (h:isI64 z=true):isWide z=true:=by
 have:=isI64_iff.1 h
 rw [isWide_iff]
 omega
theorem one_i64:isI64 1=true:=by decide
theorem pw_of {x y:Int} (hx:isI64 x=true) (hy:isI64 y=true):isPw (wd3 x) (wd2 x) (wd1 x) (wd0 x) (wd3 y) (wd2 y) (wd1 y) (wd0 y) (wd3 1) (wd2 1) (wd1 1) (wd0 1)=true:=by
 unfold isPw
 rw [(wdsS_wd (wide_i64 hx)).2,(wdsS_wd (wide_i64 hy)).2,(wdsS_wd (wide_i64 one_i64)).2]
 rfl
/-! ### function 44 -/
def T44 {ρ:Type} (ret:(F)→Option ρ) :Option ρ :=
 (ret (F.tup [F.int .i64 0,F.agg [F.int .u64 0,F.int .u64 0,F.int .u64 0,F.int .u64 0,F.int .u64 0,F.int .u64 0,F.int .u64 0,F.int .u64 0,F.int .u64 0,F.int .u64 0,F.int .u64 0,F.int .u64 0],F.agg [F.int .u64 0,F.int .u64 0,F.int .u64 0,F.int .u64 0,F.int .u64 0,F.int .u64 0,F.int .u64 0,F.int .u64 0,F.int .u64 0,F.int .u64 0,F.int .u64 0,F.int .u64 0]]))
def G44 :Option (F):=T44 some
theorem t44  (r:F) (h:G44 =some r):Ends Tryz.prog Tryz.f44.results.toList [.code (bodyOf Tryz.f44)] (start Tryz.f44.ntmps ([].map .f)) (r):=by
 refine Ends.of_run tyOK envH7_ok (T:=[]) (n:=200) ?_
 refine gE (Y:=T44 (fun r=>some (.ret (r))) ) (by kernel_rfl) ?_
 exact gR (by cases h;rfl)
def preNone:List F→Bool | []=>true | _=>false
def resNone:List F→F:=fun _=>.tup [.int .i64 0,.agg [.int .u64 0,.int .u64 0,.int .u64 0,.int .u64 0,.int .u64 0,.int .u64 0,.int .u64 0,.int .u64 0,.int .u64 0,.int .u64 0,.int .u64 0,.int .u64 0],.agg [.int .u64 0,.int .u64 0,.int .u64 0,.int .u64 0,.int .u64 0,.int .u64 0,.int .u64 0,.int .u64 0,.int .u64 0,.int .u64 0,.int .u64 0,.int .u64 0]]
theorem okNone:PureOK Tryz.prog 44 preNone resNone :=
 fn_pure (c:=bodyOf Tryz.f44) Tryz.func44 (by kernel_rfl) (by kernel_rfl) fun xs hp=>match xs,hp with
 | [],hp=>t44 _ rfl
def envH8:Env:=envH7.add 44 (.pure preNone resNone)
theorem envH8_ok:EnvOK Tryz.prog envH8:=(Env.add_ok envH7_ok okNone.sp)
end
noncomputable section
set_option maxHeartbeats 2000000
/-! ### function 33 -/
def T33 {ρ:Type} (ret:(F)→Option ρ) (x0:Int) (y0:Int) (x1:Int) (y1:Int) (u0:Int) (v0:Int) (u1:Int) (v1:Int):Option ρ :=
 (bsel (decide ((if true=true then if u0 > x0 then u0 else x0 else if u0<x0 then u0 else x0) > if false=true then if u1 > x1 then u1 else x1 else if u1<x1 then u1 else x1)==false)
 (bsel (decide ((if true=true then if (if false=true then if v1 > v0 then v1 else v0 else if v1<v0 then v1 else v0) > if false=true then if y1 > y0 then y1 else y0 else if y1<y0 then y1 else y0 then if false=true then if v1 > v0 then v1 else v0 else if v1<v0 then v1 else v0 else if false=true then if y1 > y0 then y1 else y0 else if y1<y0 then y1 else y0 else if (if false=true then if v1 > v0 then v1 else v0 else if v1<v0 then v1 else v0)<if false=true then if y1 > y0 then y1 else y0 else if y1<y0 then y1 else y0 then if false=true then if v1 > v0 then v1 else v0 else if v1<v0 then v1 else v0 else if false=true then if y1 > y0 then y1 else y0 else if y1<y0 then y1 else y0) > if false=true then if (if true=true then if v1 > v0 then v1 else v0 else if v1<v0 then v1 else v0) > if true=true then if y1 > y0 then y1 else y0 else if y1<y0 then y1 else y0 then if true=true then if v1 > v0 then v1 else v0 else if v1<v0 then v1 else v0 else if true=true then if y1 > y0 then y1 else y0 else if y1<y0 then y1 else y0 else if (if true=true then if v1 > v0 then v1 else v0 else if v1<v0 then v1 else v0)<if true=true then if y1 > y0 then y1 else y0 else if y1<y0 then y1 else y0 then if true=true then if v1 > v0 then v1 else v0 else if v1<v0 then v1 else v0 else if true=true then if y1 > y0 then y1 else y0 else if y1<y0 then y1 else y0))
 (ret (F.tup [F.int .i64 0,F.agg [F.int .u64 0,F.int .u64 0,F.int .u64 0,F.int .u64 0,F.int .u64 0,F.int .u64 0,F.int .u64 0,F.int .u64 0,F.int .u64 0,F.int .u64 0,F.int .u64 0,F.int .u64 0],F.agg [F.int .u64 0,F.int .u64 0,F.int .u64 0,F.int .u64 0,F.int .u64 0,F.int .u64 0,F.int .u64 0,F.int .u64 0,F.int .u64 0,F.int .u64 0,F.int .u64 0,F.int .u64 0]]))
 (bsel ((crossW x0 y0 x1 y1 u0 v0==0)==true)
 (bsel (crossW x0 y0 x1 y1 u1 v1==0)
 (bsel (decide (cmpV u0 v0 x0 y0 > 0))
 (bsel (decide (cmpV u1 v1 x1 y1<0))
 (bsel (decide (cmpV u0 v0 u1 v1 > 0))
 (ret (F.tup [F.int .i64 0,F.agg [F.int .u64 0,F.int .u64 0,F.int .u64 0,F.int .u64 0,F.int .u64 0,F.int .u64 0,F.int .u64 0,F.int .u64 0,F.int .u64 0,F.int .u64 0,F.int .u64 0,F.int .u64 0],F.agg [F.int .u64 0,F.int .u64 0,F.int .u64 0,F.int .u64 0,F.int .u64 0,F.int .u64 0,F.int .u64 0,F.int .u64 0,F.int .u64 0,F.int .u64 0,F.int .u64 0,F.int .u64 0]]))
 (bsel (cmpV u0 v0 u1 v1==0)
 (bsel (isI64 u0&&isI64 v0)
 (ret (F.tup [F.int .i64 1,F.agg [F.int .u64 (wd3 u0),F.int .u64 (wd2 u0),F.int .u64 (wd1 u0),F.int .u64 (wd0 u0),F.int .u64 (wd3 v0),F.int .u64 (wd2 v0),F.int .u64 (wd1 v0),F.int .u64 (wd0 v0),F.int .u64 (wd3 1),F.int .u64 (wd2 1),F.int .u64 (wd1 1),F.int .u64 (wd0 1)],F.agg [F.int .u64 0,F.int .u64 0,F.int .u64 0,F.int .u64 0,F.int .u64 0,F.int .u64 0,F.int .u64 0,F.int .u64 0,F.int .u64 0,F.int .u64 0,F.int .u64 0,F.int .u64 0]]))
 none)
 (bsel (isI64 u0&&isI64 v0)
 (bsel (isI64 u1&&isI64 v1)
 (ret (F.tup [F.int .i64 2,F.agg [F.int .u64 (wd3 u0),F.int .u64 (wd2 u0),F.int .u64 (wd1 u0),F.int .u64 (wd0 u0),F.int .u64 (wd3 v0),F.int .u64 (wd2 v0),F.int .u64 (wd1 v0),F.int .u64 (wd0 v0),F.int .u64 (wd3 1),F.int .u64 (wd2 1),F.int .u64 (wd1 1),F.int .u64 (wd0 1)],F.agg [F.int .u64 (wd3 u1),F.int .u64 (wd2 u1),F.int .u64 (wd1 u1),F.int .u64 (wd0 u1),F.int .u64 (wd3 v1),F.int .u64 (wd2 v1),F.int .u64 (wd1 v1),F.int .u64 (wd0 v1),F.int .u64 (wd3 1),F.int .u64 (wd2 1),F.int .u64 (wd1 1),F.int .u64 (wd0 1)]]))
 none)
 none)))
 (bsel (decide (cmpV u0 v0 x1 y1 > 0))
 (ret (F.tup [F.int .i64 0,F.agg [F.int .u64 0,F.int .u64 0,F.int .u64 0,F.int .u64 0,F.int .u64 0,F.int .u64 0,F.int .u64 0,F.int .u64 0,F.int .u64 0,F.int .u64 0,F.int .u64 0,F.int .u64 0],F.agg [F.int .u64 0,F.int .u64 0,F.int .u64 0,F.int .u64 0,F.int .u64 0,F.int .u64 0,F.int .u64 0,F.int .u64 0,F.int .u64 0,F.int .u64 0,F.int .u64 0,F.int .u64 0]]))
 (bsel (cmpV u0 v0 x1 y1==0)
 (bsel (isI64 u0&&isI64 v0)
 (ret (F.tup [F.int .i64 1,F.agg [F.int .u64 (wd3 u0),F.int .u64 (wd2 u0),F.int .u64 (wd1 u0),F.int .u64 (wd0 u0),F.int .u64 (wd3 v0),F.int .u64 (wd2 v0),F.int .u64 (wd1 v0),F.int .u64 (wd0 v0),F.int .u64 (wd3 1),F.int .u64 (wd2 1),F.int .u64 (wd1 1),F.int .u64 (wd0 1)],F.agg [F.int .u64 0,F.int .u64 0,F.int .u64 0,F.int .u64 0,F.int .u64 0,F.int .u64 0,F.int .u64 0,F.int .u64 0,F.int .u64 0,F.int .u64 0,F.int .u64 0,F.int .u64 0]]))
 none)
 (bsel (isI64 u0&&isI64 v0)
 (bsel (isI64 x1&&isI64 y1)
 (ret (F.tup [F.int .i64 2,F.agg [F.int .u64 (wd3 u0),F.int .u64 (wd2 u0),F.int .u64 (wd1 u0),F.int .u64 (wd0 u0),F.int .u64 (wd3 v0),F.int .u64 (wd2 v0),F.int .u64 (wd1 v0),F.int .u64 (wd0 v0),F.int .u64 (wd3 1),F.int .u64 (wd2 1),F.int .u64 (wd1 1),F.int .u64 (wd0 1)],F.agg [F.int .u64 (wd3 x1),F.int .u64 (wd2 x1),F.int .u64 (wd1 x1),F.int .u64 (wd0 x1),F.int .u64 (wd3 y1),F.int .u64 (wd2 y1),F.int .u64 (wd1 y1),F.int .u64 (wd0 y1),F.int .u64 (wd3 1),F.int .u64 (wd2 1),F.int .u64 (wd1 1),F.int .u64 (wd0 1)]]))
 none)
 none))))
 (bsel (decide (cmpV u1 v1 x1 y1<0))
 (bsel (decide (cmpV x0 y0 u1 v1 > 0))
 (ret (F.tup [F.int .i64 0,F.agg [F.int .u64 0,F.int .u64 0,F.int .u64 0,F.int .u64 0,F.int .u64 0,F.int .u64 0,F.int .u64 0,F.int .u64 0,F.int .u64 0,F.int .u64 0,F.int .u64 0,F.int .u64 0],F.agg [F.int .u64 0,F.int .u64 0,F.int .u64 0,F.int .u64 0,F.int .u64 0,F.int .u64 0,F.int .u64 0,F.int .u64 0,F.int .u64 0,F.int .u64 0,F.int .u64 0,F.int .u64 0]]))
 (bsel (cmpV x0 y0 u1 v1==0)
 (bsel (isI64 x0&&isI64 y0)
 (ret (F.tup [F.int .i64 1,F.agg [F.int .u64 (wd3 x0),F.int .u64 (wd2 x0),F.int .u64 (wd1 x0),F.int .u64 (wd0 x0),F.int .u64 (wd3 y0),F.int .u64 (wd2 y0),F.int .u64 (wd1 y0),F.int .u64 (wd0 y0),F.int .u64 (wd3 1),F.int .u64 (wd2 1),F.int .u64 (wd1 1),F.int .u64 (wd0 1)],F.agg [F.int .u64 0,F.int .u64 0,F.int .u64 0,F.int .u64 0,F.int .u64 0,F.int .u64 0,F.int .u64 0,F.int .u64 0,F.int .u64 0,F.int .u64 0,F.int .u64 0,F.int .u64 0]]))
 none)
 (bsel (isI64 x0&&isI64 y0)
 (bsel (isI64 u1&&isI64 v1)
 (ret (F.tup [F.int .i64 2,F.agg [F.int .u64 (wd3 x0),F.int .u64 (wd2 x0),F.int .u64 (wd1 x0),F.int .u64 (wd0 x0),F.int .u64 (wd3 y0),F.int .u64 (wd2 y0),F.int .u64 (wd1 y0),F.int .u64 (wd0 y0),F.int .u64 (wd3 1),F.int .u64 (wd2 1),F.int .u64 (wd1 1),F.int .u64 (wd0 1)],F.agg [F.int .u64 (wd3 u1),F.int .u64 (wd2 u1),F.int .u64 (wd1 u1),F.int .u64 (wd0 u1),F.int .u64 (wd3 v1),F.int .u64 (wd2 v1),F.int .u64 (wd1 v1),F.int .u64 (wd0 v1),F.int .u64 (wd3 1),F.int .u64 (wd2 1),F.int .u64 (wd1 1),F.int .u64 (wd0 1)]]))
 none)
 none)))
 (bsel (decide (cmpV x0 y0 x1 y1 > 0))
 (ret (F.tup [F.int .i64 0,F.agg [F.int .u64 0,F.int .u64 0,F.int .u64 0,F.int .u64 0,F.int .u64 0,F.int .u64 0,F.int .u64 0,F.int .u64 0,F.int .u64 0,F.int .u64 0,F.int .u64 0,F.int .u64 0],F.agg [F.int .u64 0,F.int .u64 0,F.int .u64 0,F.int .u64 0,F.int .u64 0,F.int .u64 0,F.int .u64 0,F.int .u64 0,F.int .u64 0,F.int .u64 0,F.int .u64 0,F.int .u64 0]]))
 (bsel (cmpV x0 y0 x1 y1==0)
 (bsel (isI64 x0&&isI64 y0)
 (ret (F.tup [F.int .i64 1,F.agg [F.int .u64 (wd3 x0),F.int .u64 (wd2 x0),F.int .u64 (wd1 x0),F.int .u64 (wd0 x0),F.int .u64 (wd3 y0),F.int .u64 (wd2 y0),F.int .u64 (wd1 y0),F.int .u64 (wd0 y0),F.int .u64 (wd3 1),F.int .u64 (wd2 1),F.int .u64 (wd1 1),F.int .u64 (wd0 1)],F.agg [F.int .u64 0,F.int .u64 0,F.int .u64 0,F.int .u64 0,F.int .u64 0,F.int .u64 0,F.int .u64 0,F.int .u64 0,F.int .u64 0,F.int .u64 0,F.int .u64 0,F.int .u64 0]]))
 none)
 (bsel (isI64 x0&&isI64 y0)
 (bsel (isI64 x1&&isI64 y1)
 (ret (F.tup [F.int .i64 2,F.agg [F.int .u64 (wd3 x0),F.int .u64 (wd2 x0),F.int .u64 (wd1 x0),F.int .u64 (wd0 x0),F.int .u64 (wd3 y0),F.int .u64 (wd2 y0),F.int .u64 (wd1 y0),F.int .u64 (wd0 y0),F.int .u64 (wd3 1),F.int .u64 (wd2 1),F.int .u64 (wd1 1),F.int .u64 (wd0 1)],F.agg [F.int .u64 (wd3 x1),F.int .u64 (wd2 x1),F.int .u64 (wd1 x1),F.int .u64 (wd0 x1),F.int .u64 (wd3 y1),F.int .u64 (wd2 y1),F.int .u64 (wd1 y1),F.int .u64 (wd0 y1),F.int .u64 (wd3 1),F.int .u64 (wd2 1),F.int .u64 (wd1 1),F.int .u64 (wd0 1)]]))
 none)
 none)))))
 (bsel (decide (IntKind.i64.wrap (signV (crossW x0 y0 x1 y1 u0 v0)*signV (crossW x0 y0 x1 y1 u1 v1)) > 0)==false)
 (bsel (decide (IntKind.i64.wrap (signV (crossW u0 v0 u1 v1 x0 y0)*signV (crossW u0 v0 u1 v1 x1 y1)) > 0))
 (ret (F.tup [F.int .i64 0,F.agg [F.int .u64 0,F.int .u64 0,F.int .u64 0,F.int .u64 0,F.int .u64 0,F.int .u64 0,F.int .u64 0,F.int .u64 0,F.int .u64 0,F.int .u64 0,F.int .u64 0,F.int .u64 0],F.agg [F.int .u64 0,F.int .u64 0,F.int .u64 0,F.int .u64 0,F.int .u64 0,F.int .u64 0,F.int .u64 0,F.int .u64 0,F.int .u64 0,F.int .u64 0,F.int .u64 0,F.int .u64 0]]))
 (bsel (isI64 (IntKind.i64.wrap (crossW x0 y0 x1 y1 u0 v0-crossW x0 y0 x1 y1 u1 v1)))
 (bsel (isI64 u0)
 (bsel (isNum 400 (resWhole [F.int .i64 u0])&&isNum 400 (numF (IntKind.i64.wrap (crossW x0 y0 x1 y1 u0 v0-crossW x0 y0 x1 y1 u1 v1))))
 (bsel (isI64 (crossW x0 y0 x1 y1 u0 v0))
 (bsel (isI64 (IntKind.i64.wrap (u1-u0)))
 (bsel (isNum 400 (resWhole [F.int .i64 (crossW x0 y0 x1 y1 u0 v0)])&&isNum 400 (resWhole [F.int .i64 (IntKind.i64.wrap (u1-u0))]))
 (bsel (isNum 400 (resBy [resWhole [F.int .i64 u0],numF (IntKind.i64.wrap (crossW x0 y0 x1 y1 u0 v0-crossW x0 y0 x1 y1 u1 v1))])&&isNum 400 (resBy [resWhole [F.int .i64 (crossW x0 y0 x1 y1 u0 v0)],resWhole [F.int .i64 (IntKind.i64.wrap (u1-u0))]]))
 (bsel (isI64 v0)
 (bsel (isNum 400 (resWhole [F.int .i64 v0])&&isNum 400 (numF (IntKind.i64.wrap (crossW x0 y0 x1 y1 u0 v0-crossW x0 y0 x1 y1 u1 v1))))
 (bsel (isI64 (crossW x0 y0 x1 y1 u0 v0))
 (bsel (isI64 (IntKind.i64.wrap (v1-v0)))
 (bsel (isNum 400 (resWhole [F.int .i64 (crossW x0 y0 x1 y1 u0 v0)])&&isNum 400 (resWhole [F.int .i64 (IntKind.i64.wrap (v1-v0))]))
 (bsel (isNum 400 (resBy [resWhole [F.int .i64 v0],numF (IntKind.i64.wrap (crossW x0 y0 x1 y1 u0 v0-crossW x0 y0 x1 y1 u1 v1))])&&isNum 400 (resBy [resWhole [F.int .i64 (crossW x0 y0 x1 y1 u0 v0)],resWhole [F.int .i64 (IntKind.i64.wrap (v1-v0))]]))
 (bsel (isSpot3 1 (spotF (unNum (resBy [resWhole [F.int .i64 u0],numF (IntKind.i64.wrap (crossW x0 y0 x1 y1 u0 v0-crossW x0 y0 x1 y1 u1 v1))])+unNum (resBy [resWhole [F.int .i64 (crossW x0 y0 x1 y1 u0 v0)],resWhole [F.int .i64 (IntKind.i64.wrap (u1-u0))]])) (unNum (resBy [resWhole [F.int .i64 v0],numF (IntKind.i64.wrap (crossW x0 y0 x1 y1 u0 v0-crossW x0 y0 x1 y1 u1 v1))])+unNum (resBy [resWhole [F.int .i64 (crossW x0 y0 x1 y1 u0 v0)],resWhole [F.int .i64 (IntKind.i64.wrap (v1-v0))]])) (IntKind.i64.wrap (crossW x0 y0 x1 y1 u0 v0-crossW x0 y0 x1 y1 u1 v1))))
 (ret (F.tup [F.int .i64 1,F.agg [F.int .u64 (ptWV 0 (unXs (spotF (unNum (resBy [resWhole [F.int .i64 u0],numF (IntKind.i64.wrap (crossW x0 y0 x1 y1 u0 v0-crossW x0 y0 x1 y1 u1 v1))])+unNum (resBy [resWhole [F.int .i64 (crossW x0 y0 x1 y1 u0 v0)],resWhole [F.int .i64 (IntKind.i64.wrap (u1-u0))]])) (unNum (resBy [resWhole [F.int .i64 v0],numF (IntKind.i64.wrap (crossW x0 y0 x1 y1 u0 v0-crossW x0 y0 x1 y1 u1 v1))])+unNum (resBy [resWhole [F.int .i64 (crossW x0 y0 x1 y1 u0 v0)],resWhole [F.int .i64 (IntKind.i64.wrap (v1-v0))]])) (IntKind.i64.wrap (crossW x0 y0 x1 y1 u0 v0-crossW x0 y0 x1 y1 u1 v1)))) (unYs (spotF (unNum (resBy [resWhole [F.int .i64 u0],numF (IntKind.i64.wrap (crossW x0 y0 x1 y1 u0 v0-crossW x0 y0 x1 y1 u1 v1))])+unNum (resBy [resWhole [F.int .i64 (crossW x0 y0 x1 y1 u0 v0)],resWhole [F.int .i64 (IntKind.i64.wrap (u1-u0))]])) (unNum (resBy [resWhole [F.int .i64 v0],numF (IntKind.i64.wrap (crossW x0 y0 x1 y1 u0 v0-crossW x0 y0 x1 y1 u1 v1))])+unNum (resBy [resWhole [F.int .i64 (crossW x0 y0 x1 y1 u0 v0)],resWhole [F.int .i64 (IntKind.i64.wrap (v1-v0))]])) (IntKind.i64.wrap (crossW x0 y0 x1 y1 u0 v0-crossW x0 y0 x1 y1 u1 v1)))) (unWs (spotF (unNum (resBy [resWhole [F.int .i64 u0],numF (IntKind.i64.wrap (crossW x0 y0 x1 y1 u0 v0-crossW x0 y0 x1 y1 u1 v1))])+unNum (resBy [resWhole [F.int .i64 (crossW x0 y0 x1 y1 u0 v0)],resWhole [F.int .i64 (IntKind.i64.wrap (u1-u0))]])) (unNum (resBy [resWhole [F.int .i64 v0],numF (IntKind.i64.wrap (crossW x0 y0 x1 y1 u0 v0-crossW x0 y0 x1 y1 u1 v1))])+unNum (resBy [resWhole [F.int .i64 (crossW x0 y0 x1 y1 u0 v0)],resWhole [F.int .i64 (IntKind.i64.wrap (v1-v0))]])) (IntKind.i64.wrap (crossW x0 y0 x1 y1 u0 v0-crossW x0 y0 x1 y1 u1 v1))))),F.int .u64 (ptWV 1 (unXs (spotF (unNum (resBy [resWhole [F.int .i64 u0],numF (IntKind.i64.wrap (crossW x0 y0 x1 y1 u0 v0-crossW x0 y0 x1 y1 u1 v1))])+unNum (resBy [resWhole [F.int .i64 (crossW x0 y0 x1 y1 u0 v0)],resWhole [F.int .i64 (IntKind.i64.wrap (u1-u0))]])) (unNum (resBy [resWhole [F.int .i64 v0],numF (IntKind.i64.wrap (crossW x0 y0 x1 y1 u0 v0-crossW x0 y0 x1 y1 u1 v1))])+unNum (resBy [resWhole [F.int .i64 (crossW x0 y0 x1 y1 u0 v0)],resWhole [F.int .i64 (IntKind.i64.wrap (v1-v0))]])) (IntKind.i64.wrap (crossW x0 y0 x1 y1 u0 v0-crossW x0 y0 x1 y1 u1 v1)))) (unYs (spotF (unNum (resBy [resWhole [F.int .i64 u0],numF (IntKind.i64.wrap (crossW x0 y0 x1 y1 u0 v0-crossW x0 y0 x1 y1 u1 v1))])+unNum (resBy [resWhole [F.int .i64 (crossW x0 y0 x1 y1 u0 v0)],resWhole [F.int .i64 (IntKind.i64.wrap (u1-u0))]])) (unNum (resBy [resWhole [F.int .i64 v0],numF (IntKind.i64.wrap (crossW x0 y0 x1 y1 u0 v0-crossW x0 y0 x1 y1 u1 v1))])+unNum (resBy [resWhole [F.int .i64 (crossW x0 y0 x1 y1 u0 v0)],resWhole [F.int .i64 (IntKind.i64.wrap (v1-v0))]])) (IntKind.i64.wrap (crossW x0 y0 x1 y1 u0 v0-crossW x0 y0 x1 y1 u1 v1)))) (unWs (spotF (unNum (resBy [resWhole [F.int .i64 u0],numF (IntKind.i64.wrap (crossW x0 y0 x1 y1 u0 v0-crossW x0 y0 x1 y1 u1 v1))])+unNum (resBy [resWhole [F.int .i64 (crossW x0 y0 x1 y1 u0 v0)],resWhole [F.int .i64 (IntKind.i64.wrap (u1-u0))]])) (unNum (resBy [resWhole [F.int .i64 v0],numF (IntKind.i64.wrap (crossW x0 y0 x1 y1 u0 v0-crossW x0 y0 x1 y1 u1 v1))])+unNum (resBy [resWhole [F.int .i64 (crossW x0 y0 x1 y1 u0 v0)],resWhole [F.int .i64 (IntKind.i64.wrap (v1-v0))]])) (IntKind.i64.wrap (crossW x0 y0 x1 y1 u0 v0-crossW x0 y0 x1 y1 u1 v1))))),F.int .u64 (ptWV 2 (unXs (spotF (unNum (resBy [resWhole [F.int .i64 u0],numF (IntKind.i64.wrap (crossW x0 y0 x1 y1 u0 v0-crossW x0 y0 x1 y1 u1 v1))])+unNum (resBy [resWhole [F.int .i64 (crossW x0 y0 x1 y1 u0 v0)],resWhole [F.int .i64 (IntKind.i64.wrap (u1-u0))]])) (unNum (resBy [resWhole [F.int .i64 v0],numF (IntKind.i64.wrap (crossW x0 y0 x1 y1 u0 v0-crossW x0 y0 x1 y1 u1 v1))])+unNum (resBy [resWhole [F.int .i64 (crossW x0 y0 x1 y1 u0 v0)],resWhole [F.int .i64 (IntKind.i64.wrap (v1-v0))]])) (IntKind.i64.wrap (crossW x0 y0 x1 y1 u0 v0-crossW x0 y0 x1 y1 u1 v1)))) (unYs (spotF (unNum (resBy [resWhole [F.int .i64 u0],numF (IntKind.i64.wrap (crossW x0 y0 x1 y1 u0 v0-crossW x0 y0 x1 y1 u1 v1))])+unNum (resBy [resWhole [F.int .i64 (crossW x0 y0 x1 y1 u0 v0)],resWhole [F.int .i64 (IntKind.i64.wrap (u1-u0))]])) (unNum (resBy [resWhole [F.int .i64 v0],numF (IntKind.i64.wrap (crossW x0 y0 x1 y1 u0 v0-crossW x0 y0 x1 y1 u1 v1))])+unNum (resBy [resWhole [F.int .i64 (crossW x0 y0 x1 y1 u0 v0)],resWhole [F.int .i64 (IntKind.i64.wrap (v1-v0))]])) (IntKind.i64.wrap (crossW x0 y0 x1 y1 u0 v0-crossW x0 y0 x1 y1 u1 v1)))) (unWs (spotF (unNum (resBy [resWhole [F.int .i64 u0],numF (IntKind.i64.wrap (crossW x0 y0 x1 y1 u0 v0-crossW x0 y0 x1 y1 u1 v1))])+unNum (resBy [resWhole [F.int .i64 (crossW x0 y0 x1 y1 u0 v0)],resWhole [F.int .i64 (IntKind.i64.wrap (u1-u0))]])) (unNum (resBy [resWhole [F.int .i64 v0],numF (IntKind.i64.wrap (crossW x0 y0 x1 y1 u0 v0-crossW x0 y0 x1 y1 u1 v1))])+unNum (resBy [resWhole [F.int .i64 (crossW x0 y0 x1 y1 u0 v0)],resWhole [F.int .i64 (IntKind.i64.wrap (v1-v0))]])) (IntKind.i64.wrap (crossW x0 y0 x1 y1 u0 v0-crossW x0 y0 x1 y1 u1 v1))))),F.int .u64 (ptWV 3 (unXs (spotF (unNum (resBy [resWhole [F.int .i64 u0],numF (IntKind.i64.wrap (crossW x0 y0 x1 y1 u0 v0-crossW x0 y0 x1 y1 u1 v1))])+unNum (resBy [resWhole [F.int .i64 (crossW x0 y0 x1 y1 u0 v0)],resWhole [F.int .i64 (IntKind.i64.wrap (u1-u0))]])) (unNum (resBy [resWhole [F.int .i64 v0],numF (IntKind.i64.wrap (crossW x0 y0 x1 y1 u0 v0-crossW x0 y0 x1 y1 u1 v1))])+unNum (resBy [resWhole [F.int .i64 (crossW x0 y0 x1 y1 u0 v0)],resWhole [F.int .i64 (IntKind.i64.wrap (v1-v0))]])) (IntKind.i64.wrap (crossW x0 y0 x1 y1 u0 v0-crossW x0 y0 x1 y1 u1 v1)))) (unYs (spotF (unNum (resBy [resWhole [F.int .i64 u0],numF (IntKind.i64.wrap (crossW x0 y0 x1 y1 u0 v0-crossW x0 y0 x1 y1 u1 v1))])+unNum (resBy [resWhole [F.int .i64 (crossW x0 y0 x1 y1 u0 v0)],resWhole [F.int .i64 (IntKind.i64.wrap (u1-u0))]])) (unNum (resBy [resWhole [F.int .i64 v0],numF (IntKind.i64.wrap (crossW x0 y0 x1 y1 u0 v0-crossW x0 y0 x1 y1 u1 v1))])+unNum (resBy [resWhole [F.int .i64 (crossW x0 y0 x1 y1 u0 v0)],resWhole [F.int .i64 (IntKind.i64.wrap (v1-v0))]])) (IntKind.i64.wrap (crossW x0 y0 x1 y1 u0 v0-crossW x0 y0 x1 y1 u1 v1)))) (unWs (spotF (unNum (resBy [resWhole [F.int .i64 u0],numF (IntKind.i64.wrap (crossW x0 y0 x1 y1 u0 v0-crossW x0 y0 x1 y1 u1 v1))])+unNum (resBy [resWhole [F.int .i64 (crossW x0 y0 x1 y1 u0 v0)],resWhole [F.int .i64 (IntKind.i64.wrap (u1-u0))]])) (unNum (resBy [resWhole [F.int .i64 v0],numF (IntKind.i64.wrap (crossW x0 y0 x1 y1 u0 v0-crossW x0 y0 x1 y1 u1 v1))])+unNum (resBy [resWhole [F.int .i64 (crossW x0 y0 x1 y1 u0 v0)],resWhole [F.int .i64 (IntKind.i64.wrap (v1-v0))]])) (IntKind.i64.wrap (crossW x0 y0 x1 y1 u0 v0-crossW x0 y0 x1 y1 u1 v1))))),F.int .u64 (ptWV 4 (unXs (spotF (unNum (resBy [resWhole [F.int .i64 u0],numF (IntKind.i64.wrap (crossW x0 y0 x1 y1 u0 v0-crossW x0 y0 x1 y1 u1 v1))])+unNum (resBy [resWhole [F.int .i64 (crossW x0 y0 x1 y1 u0 v0)],resWhole [F.int .i64 (IntKind.i64.wrap (u1-u0))]])) (unNum (resBy [resWhole [F.int .i64 v0],numF (IntKind.i64.wrap (crossW x0 y0 x1 y1 u0 v0-crossW x0 y0 x1 y1 u1 v1))])+unNum (resBy [resWhole [F.int .i64 (crossW x0 y0 x1 y1 u0 v0)],resWhole [F.int .i64 (IntKind.i64.wrap (v1-v0))]])) (IntKind.i64.wrap (crossW x0 y0 x1 y1 u0 v0-crossW x0 y0 x1 y1 u1 v1)))) (unYs (spotF (unNum (resBy [resWhole [F.int .i64 u0],numF (IntKind.i64.wrap (crossW x0 y0 x1 y1 u0 v0-crossW x0 y0 x1 y1 u1 v1))])+unNum (resBy [resWhole [F.int .i64 (crossW x0 y0 x1 y1 u0 v0)],resWhole [F.int .i64 (IntKind.i64.wrap (u1-u0))]])) (unNum (resBy [resWhole [F.int .i64 v0],numF (IntKind.i64.wrap (crossW x0 y0 x1 y1 u0 v0-crossW x0 y0 x1 y1 u1 v1))])+unNum (resBy [resWhole [F.int .i64 (crossW x0 y0 x1 y1 u0 v0)],resWhole [F.int .i64 (IntKind.i64.wrap (v1-v0))]])) (IntKind.i64.wrap (crossW x0 y0 x1 y1 u0 v0-crossW x0 y0 x1 y1 u1 v1)))) (unWs (spotF (unNum (resBy [resWhole [F.int .i64 u0],numF (IntKind.i64.wrap (crossW x0 y0 x1 y1 u0 v0-crossW x0 y0 x1 y1 u1 v1))])+unNum (resBy [resWhole [F.int .i64 (crossW x0 y0 x1 y1 u0 v0)],resWhole [F.int .i64 (IntKind.i64.wrap (u1-u0))]])) (unNum (resBy [resWhole [F.int .i64 v0],numF (IntKind.i64.wrap (crossW x0 y0 x1 y1 u0 v0-crossW x0 y0 x1 y1 u1 v1))])+unNum (resBy [resWhole [F.int .i64 (crossW x0 y0 x1 y1 u0 v0)],resWhole [F.int .i64 (IntKind.i64.wrap (v1-v0))]])) (IntKind.i64.wrap (crossW x0 y0 x1 y1 u0 v0-crossW x0 y0 x1 y1 u1 v1))))),F.int .u64 (ptWV 5 (unXs (spotF (unNum (resBy [resWhole [F.int .i64 u0],numF (IntKind.i64.wrap (crossW x0 y0 x1 y1 u0 v0-crossW x0 y0 x1 y1 u1 v1))])+unNum (resBy [resWhole [F.int .i64 (crossW x0 y0 x1 y1 u0 v0)],resWhole [F.int .i64 (IntKind.i64.wrap (u1-u0))]])) (unNum (resBy [resWhole [F.int .i64 v0],numF (IntKind.i64.wrap (crossW x0 y0 x1 y1 u0 v0-crossW x0 y0 x1 y1 u1 v1))])+unNum (resBy [resWhole [F.int .i64 (crossW x0 y0 x1 y1 u0 v0)],resWhole [F.int .i64 (IntKind.i64.wrap (v1-v0))]])) (IntKind.i64.wrap (crossW x0 y0 x1 y1 u0 v0-crossW x0 y0 x1 y1 u1 v1)))) (unYs (spotF (unNum (resBy [resWhole [F.int .i64 u0],numF (IntKind.i64.wrap (crossW x0 y0 x1 y1 u0 v0-crossW x0 y0 x1 y1 u1 v1))])+unNum (resBy [resWhole [F.int .i64 (crossW x0 y0 x1 y1 u0 v0)],resWhole [F.int .i64 (IntKind.i64.wrap (u1-u0))]])) (unNum (resBy [resWhole [F.int .i64 v0],numF (IntKind.i64.wrap (crossW x0 y0 x1 y1 u0 v0-crossW x0 y0 x1 y1 u1 v1))])+unNum (resBy [resWhole [F.int .i64 (crossW x0 y0 x1 y1 u0 v0)],resWhole [F.int .i64 (IntKind.i64.wrap (v1-v0))]])) (IntKind.i64.wrap (crossW x0 y0 x1 y1 u0 v0-crossW x0 y0 x1 y1 u1 v1)))) (unWs (spotF (unNum (resBy [resWhole [F.int .i64 u0],numF (IntKind.i64.wrap (crossW x0 y0 x1 y1 u0 v0-crossW x0 y0 x1 y1 u1 v1))])+unNum (resBy [resWhole [F.int .i64 (crossW x0 y0 x1 y1 u0 v0)],resWhole [F.int .i64 (IntKind.i64.wrap (u1-u0))]])) (unNum (resBy [resWhole [F.int .i64 v0],numF (IntKind.i64.wrap (crossW x0 y0 x1 y1 u0 v0-crossW x0 y0 x1 y1 u1 v1))])+unNum (resBy [resWhole [F.int .i64 (crossW x0 y0 x1 y1 u0 v0)],resWhole [F.int .i64 (IntKind.i64.wrap (v1-v0))]])) (IntKind.i64.wrap (crossW x0 y0 x1 y1 u0 v0-crossW x0 y0 x1 y1 u1 v1))))),F.int .u64 (ptWV 6 (unXs (spotF (unNum (resBy [resWhole [F.int .i64 u0],numF (IntKind.i64.wrap (crossW x0 y0 x1 y1 u0 v0-crossW x0 y0 x1 y1 u1 v1))])+unNum (resBy [resWhole [F.int .i64 (crossW x0 y0 x1 y1 u0 v0)],resWhole [F.int .i64 (IntKind.i64.wrap (u1-u0))]])) (unNum (resBy [resWhole [F.int .i64 v0],numF (IntKind.i64.wrap (crossW x0 y0 x1 y1 u0 v0-crossW x0 y0 x1 y1 u1 v1))])+unNum (resBy [resWhole [F.int .i64 (crossW x0 y0 x1 y1 u0 v0)],resWhole [F.int .i64 (IntKind.i64.wrap (v1-v0))]])) (IntKind.i64.wrap (crossW x0 y0 x1 y1 u0 v0-crossW x0 y0 x1 y1 u1 v1)))) (unYs (spotF (unNum (resBy [resWhole [F.int .i64 u0],numF (IntKind.i64.wrap (crossW x0 y0 x1 y1 u0 v0-crossW x0 y0 x1 y1 u1 v1))])+unNum (resBy [resWhole [F.int .i64 (crossW x0 y0 x1 y1 u0 v0)],resWhole [F.int .i64 (IntKind.i64.wrap (u1-u0))]])) (unNum (resBy [resWhole [F.int .i64 v0],numF (IntKind.i64.wrap (crossW x0 y0 x1 y1 u0 v0-crossW x0 y0 x1 y1 u1 v1))])+unNum (resBy [resWhole [F.int .i64 (crossW x0 y0 x1 y1 u0 v0)],resWhole [F.int .i64 (IntKind.i64.wrap (v1-v0))]])) (IntKind.i64.wrap (crossW x0 y0 x1 y1 u0 v0-crossW x0 y0 x1 y1 u1 v1)))) (unWs (spotF (unNum (resBy [resWhole [F.int .i64 u0],numF (IntKind.i64.wrap (crossW x0 y0 x1 y1 u0 v0-crossW x0 y0 x1 y1 u1 v1))])+unNum (resBy [resWhole [F.int .i64 (crossW x0 y0 x1 y1 u0 v0)],resWhole [F.int .i64 (IntKind.i64.wrap (u1-u0))]])) (unNum (resBy [resWhole [F.int .i64 v0],numF (IntKind.i64.wrap (crossW x0 y0 x1 y1 u0 v0-crossW x0 y0 x1 y1 u1 v1))])+unNum (resBy [resWhole [F.int .i64 (crossW x0 y0 x1 y1 u0 v0)],resWhole [F.int .i64 (IntKind.i64.wrap (v1-v0))]])) (IntKind.i64.wrap (crossW x0 y0 x1 y1 u0 v0-crossW x0 y0 x1 y1 u1 v1))))),F.int .u64 (ptWV 7 (unXs (spotF (unNum (resBy [resWhole [F.int .i64 u0],numF (IntKind.i64.wrap (crossW x0 y0 x1 y1 u0 v0-crossW x0 y0 x1 y1 u1 v1))])+unNum (resBy [resWhole [F.int .i64 (crossW x0 y0 x1 y1 u0 v0)],resWhole [F.int .i64 (IntKind.i64.wrap (u1-u0))]])) (unNum (resBy [resWhole [F.int .i64 v0],numF (IntKind.i64.wrap (crossW x0 y0 x1 y1 u0 v0-crossW x0 y0 x1 y1 u1 v1))])+unNum (resBy [resWhole [F.int .i64 (crossW x0 y0 x1 y1 u0 v0)],resWhole [F.int .i64 (IntKind.i64.wrap (v1-v0))]])) (IntKind.i64.wrap (crossW x0 y0 x1 y1 u0 v0-crossW x0 y0 x1 y1 u1 v1)))) (unYs (spotF (unNum (resBy [resWhole [F.int .i64 u0],numF (IntKind.i64.wrap (crossW x0 y0 x1 y1 u0 v0-crossW x0 y0 x1 y1 u1 v1))])+unNum (resBy [resWhole [F.int .i64 (crossW x0 y0 x1 y1 u0 v0)],resWhole [F.int .i64 (IntKind.i64.wrap (u1-u0))]])) (unNum (resBy [resWhole [F.int .i64 v0],numF (IntKind.i64.wrap (crossW x0 y0 x1 y1 u0 v0-crossW x0 y0 x1 y1 u1 v1))])+unNum (resBy [resWhole [F.int .i64 (crossW x0 y0 x1 y1 u0 v0)],resWhole [F.int .i64 (IntKind.i64.wrap (v1-v0))]])) (IntKind.i64.wrap (crossW x0 y0 x1 y1 u0 v0-crossW x0 y0 x1 y1 u1 v1)))) (unWs (spotF (unNum (resBy [resWhole [F.int .i64 u0],numF (IntKind.i64.wrap (crossW x0 y0 x1 y1 u0 v0-crossW x0 y0 x1 y1 u1 v1))])+unNum (resBy [resWhole [F.int .i64 (crossW x0 y0 x1 y1 u0 v0)],resWhole [F.int .i64 (IntKind.i64.wrap (u1-u0))]])) (unNum (resBy [resWhole [F.int .i64 v0],numF (IntKind.i64.wrap (crossW x0 y0 x1 y1 u0 v0-crossW x0 y0 x1 y1 u1 v1))])+unNum (resBy [resWhole [F.int .i64 (crossW x0 y0 x1 y1 u0 v0)],resWhole [F.int .i64 (IntKind.i64.wrap (v1-v0))]])) (IntKind.i64.wrap (crossW x0 y0 x1 y1 u0 v0-crossW x0 y0 x1 y1 u1 v1))))),F.int .u64 (ptWV 8 (unXs (spotF (unNum (resBy [resWhole [F.int .i64 u0],numF (IntKind.i64.wrap (crossW x0 y0 x1 y1 u0 v0-crossW x0 y0 x1 y1 u1 v1))])+unNum (resBy [resWhole [F.int .i64 (crossW x0 y0 x1 y1 u0 v0)],resWhole [F.int .i64 (IntKind.i64.wrap (u1-u0))]])) (unNum (resBy [resWhole [F.int .i64 v0],numF (IntKind.i64.wrap (crossW x0 y0 x1 y1 u0 v0-crossW x0 y0 x1 y1 u1 v1))])+unNum (resBy [resWhole [F.int .i64 (crossW x0 y0 x1 y1 u0 v0)],resWhole [F.int .i64 (IntKind.i64.wrap (v1-v0))]])) (IntKind.i64.wrap (crossW x0 y0 x1 y1 u0 v0-crossW x0 y0 x1 y1 u1 v1)))) (unYs (spotF (unNum (resBy [resWhole [F.int .i64 u0],numF (IntKind.i64.wrap (crossW x0 y0 x1 y1 u0 v0-crossW x0 y0 x1 y1 u1 v1))])+unNum (resBy [resWhole [F.int .i64 (crossW x0 y0 x1 y1 u0 v0)],resWhole [F.int .i64 (IntKind.i64.wrap (u1-u0))]])) (unNum (resBy [resWhole [F.int .i64 v0],numF (IntKind.i64.wrap (crossW x0 y0 x1 y1 u0 v0-crossW x0 y0 x1 y1 u1 v1))])+unNum (resBy [resWhole [F.int .i64 (crossW x0 y0 x1 y1 u0 v0)],resWhole [F.int .i64 (IntKind.i64.wrap (v1-v0))]])) (IntKind.i64.wrap (crossW x0 y0 x1 y1 u0 v0-crossW x0 y0 x1 y1 u1 v1)))) (unWs (spotF (unNum (resBy [resWhole [F.int .i64 u0],numF (IntKind.i64.wrap (crossW x0 y0 x1 y1 u0 v0-crossW x0 y0 x1 y1 u1 v1))])+unNum (resBy [resWhole [F.int .i64 (crossW x0 y0 x1 y1 u0 v0)],resWhole [F.int .i64 (IntKind.i64.wrap (u1-u0))]])) (unNum (resBy [resWhole [F.int .i64 v0],numF (IntKind.i64.wrap (crossW x0 y0 x1 y1 u0 v0-crossW x0 y0 x1 y1 u1 v1))])+unNum (resBy [resWhole [F.int .i64 (crossW x0 y0 x1 y1 u0 v0)],resWhole [F.int .i64 (IntKind.i64.wrap (v1-v0))]])) (IntKind.i64.wrap (crossW x0 y0 x1 y1 u0 v0-crossW x0 y0 x1 y1 u1 v1))))),F.int .u64 (ptWV 9 (unXs (spotF (unNum (resBy [resWhole [F.int .i64 u0],numF (IntKind.i64.wrap (crossW x0 y0 x1 y1 u0 v0-crossW x0 y0 x1 y1 u1 v1))])+unNum (resBy [resWhole [F.int .i64 (crossW x0 y0 x1 y1 u0 v0)],resWhole [F.int .i64 (IntKind.i64.wrap (u1-u0))]])) (unNum (resBy [resWhole [F.int .i64 v0],numF (IntKind.i64.wrap (crossW x0 y0 x1 y1 u0 v0-crossW x0 y0 x1 y1 u1 v1))])+unNum (resBy [resWhole [F.int .i64 (crossW x0 y0 x1 y1 u0 v0)],resWhole [F.int .i64 (IntKind.i64.wrap (v1-v0))]])) (IntKind.i64.wrap (crossW x0 y0 x1 y1 u0 v0-crossW x0 y0 x1 y1 u1 v1)))) (unYs (spotF (unNum (resBy [resWhole [F.int .i64 u0],numF (IntKind.i64.wrap (crossW x0 y0 x1 y1 u0 v0-crossW x0 y0 x1 y1 u1 v1))])+unNum (resBy [resWhole [F.int .i64 (crossW x0 y0 x1 y1 u0 v0)],resWhole [F.int .i64 (IntKind.i64.wrap (u1-u0))]])) (unNum (resBy [resWhole [F.int .i64 v0],numF (IntKind.i64.wrap (crossW x0 y0 x1 y1 u0 v0-crossW x0 y0 x1 y1 u1 v1))])+unNum (resBy [resWhole [F.int .i64 (crossW x0 y0 x1 y1 u0 v0)],resWhole [F.int .i64 (IntKind.i64.wrap (v1-v0))]])) (IntKind.i64.wrap (crossW x0 y0 x1 y1 u0 v0-crossW x0 y0 x1 y1 u1 v1)))) (unWs (spotF (unNum (resBy [resWhole [F.int .i64 u0],numF (IntKind.i64.wrap (crossW x0 y0 x1 y1 u0 v0-crossW x0 y0 x1 y1 u1 v1))])+unNum (resBy [resWhole [F.int .i64 (crossW x0 y0 x1 y1 u0 v0)],resWhole [F.int .i64 (IntKind.i64.wrap (u1-u0))]])) (unNum (resBy [resWhole [F.int .i64 v0],numF (IntKind.i64.wrap (crossW x0 y0 x1 y1 u0 v0-crossW x0 y0 x1 y1 u1 v1))])+unNum (resBy [resWhole [F.int .i64 (crossW x0 y0 x1 y1 u0 v0)],resWhole [F.int .i64 (IntKind.i64.wrap (v1-v0))]])) (IntKind.i64.wrap (crossW x0 y0 x1 y1 u0 v0-crossW x0 y0 x1 y1 u1 v1))))),F.int .u64 (ptWV 10 (unXs (spotF (unNum (resBy [resWhole [F.int .i64 u0],numF (IntKind.i64.wrap (crossW x0 y0 x1 y1 u0 v0-crossW x0 y0 x1 y1 u1 v1))])+unNum (resBy [resWhole [F.int .i64 (crossW x0 y0 x1 y1 u0 v0)],resWhole [F.int .i64 (IntKind.i64.wrap (u1-u0))]])) (unNum (resBy [resWhole [F.int .i64 v0],numF (IntKind.i64.wrap (crossW x0 y0 x1 y1 u0 v0-crossW x0 y0 x1 y1 u1 v1))])+unNum (resBy [resWhole [F.int .i64 (crossW x0 y0 x1 y1 u0 v0)],resWhole [F.int .i64 (IntKind.i64.wrap (v1-v0))]])) (IntKind.i64.wrap (crossW x0 y0 x1 y1 u0 v0-crossW x0 y0 x1 y1 u1 v1)))) (unYs (spotF (unNum (resBy [resWhole [F.int .i64 u0],numF (IntKind.i64.wrap (crossW x0 y0 x1 y1 u0 v0-crossW x0 y0 x1 y1 u1 v1))])+unNum (resBy [resWhole [F.int .i64 (crossW x0 y0 x1 y1 u0 v0)],resWhole [F.int .i64 (IntKind.i64.wrap (u1-u0))]])) (unNum (resBy [resWhole [F.int .i64 v0],numF (IntKind.i64.wrap (crossW x0 y0 x1 y1 u0 v0-crossW x0 y0 x1 y1 u1 v1))])+unNum (resBy [resWhole [F.int .i64 (crossW x0 y0 x1 y1 u0 v0)],resWhole [F.int .i64 (IntKind.i64.wrap (v1-v0))]])) (IntKind.i64.wrap (crossW x0 y0 x1 y1 u0 v0-crossW x0 y0 x1 y1 u1 v1)))) (unWs (spotF (unNum (resBy [resWhole [F.int .i64 u0],numF (IntKind.i64.wrap (crossW x0 y0 x1 y1 u0 v0-crossW x0 y0 x1 y1 u1 v1))])+unNum (resBy [resWhole [F.int .i64 (crossW x0 y0 x1 y1 u0 v0)],resWhole [F.int .i64 (IntKind.i64.wrap (u1-u0))]])) (unNum (resBy [resWhole [F.int .i64 v0],numF (IntKind.i64.wrap (crossW x0 y0 x1 y1 u0 v0-crossW x0 y0 x1 y1 u1 v1))])+unNum (resBy [resWhole [F.int .i64 (crossW x0 y0 x1 y1 u0 v0)],resWhole [F.int .i64 (IntKind.i64.wrap (v1-v0))]])) (IntKind.i64.wrap (crossW x0 y0 x1 y1 u0 v0-crossW x0 y0 x1 y1 u1 v1))))),F.int .u64 (ptWV 11 (unXs (spotF (unNum (resBy [resWhole [F.int .i64 u0],numF (IntKind.i64.wrap (crossW x0 y0 x1 y1 u0 v0-crossW x0 y0 x1 y1 u1 v1))])+unNum (resBy [resWhole [F.int .i64 (crossW x0 y0 x1 y1 u0 v0)],resWhole [F.int .i64 (IntKind.i64.wrap (u1-u0))]])) (unNum (resBy [resWhole [F.int .i64 v0],numF (IntKind.i64.wrap (crossW x0 y0 x1 y1 u0 v0-crossW x0 y0 x1 y1 u1 v1))])+unNum (resBy [resWhole [F.int .i64 (crossW x0 y0 x1 y1 u0 v0)],resWhole [F.int .i64 (IntKind.i64.wrap (v1-v0))]])) (IntKind.i64.wrap (crossW x0 y0 x1 y1 u0 v0-crossW x0 y0 x1 y1 u1 v1)))) (unYs (spotF (unNum (resBy [resWhole [F.int .i64 u0],numF (IntKind.i64.wrap (crossW x0 y0 x1 y1 u0 v0-crossW x0 y0 x1 y1 u1 v1))])+unNum (resBy [resWhole [F.int .i64 (crossW x0 y0 x1 y1 u0 v0)],resWhole [F.int .i64 (IntKind.i64.wrap (u1-u0))]])) (unNum (resBy [resWhole [F.int .i64 v0],numF (IntKind.i64.wrap (crossW x0 y0 x1 y1 u0 v0-crossW x0 y0 x1 y1 u1 v1))])+unNum (resBy [resWhole [F.int .i64 (crossW x0 y0 x1 y1 u0 v0)],resWhole [F.int .i64 (IntKind.i64.wrap (v1-v0))]])) (IntKind.i64.wrap (crossW x0 y0 x1 y1 u0 v0-crossW x0 y0 x1 y1 u1 v1)))) (unWs (spotF (unNum (resBy [resWhole [F.int .i64 u0],numF (IntKind.i64.wrap (crossW x0 y0 x1 y1 u0 v0-crossW x0 y0 x1 y1 u1 v1))])+unNum (resBy [resWhole [F.int .i64 (crossW x0 y0 x1 y1 u0 v0)],resWhole [F.int .i64 (IntKind.i64.wrap (u1-u0))]])) (unNum (resBy [resWhole [F.int .i64 v0],numF (IntKind.i64.wrap (crossW x0 y0 x1 y1 u0 v0-crossW x0 y0 x1 y1 u1 v1))])+unNum (resBy [resWhole [F.int .i64 (crossW x0 y0 x1 y1 u0 v0)],resWhole [F.int .i64 (IntKind.i64.wrap (v1-v0))]])) (IntKind.i64.wrap (crossW x0 y0 x1 y1 u0 v0-crossW x0 y0 x1 y1 u1 v1)))))],F.agg [F.int .u64 0,F.int .u64 0,F.int .u64 0,F.int .u64 0,F.int .u64 0,F.int .u64 0,F.int .u64 0,F.int .u64 0,F.int .u64 0,F.int .u64 0,F.int .u64 0,F.int .u64 0]]))
 none)
 none)
 none)
 none)
 none)
 none)
 none)
 none)
 none)
 none)
 none)
 none)
 none)
 none))
 (ret (F.tup [F.int .i64 0,F.agg [F.int .u64 0,F.int .u64 0,F.int .u64 0,F.int .u64 0,F.int .u64 0,F.int .u64 0,F.int .u64 0,F.int .u64 0,F.int .u64 0,F.int .u64 0,F.int .u64 0,F.int .u64 0],F.agg [F.int .u64 0,F.int .u64 0,F.int .u64 0,F.int .u64 0,F.int .u64 0,F.int .u64 0,F.int .u64 0,F.int .u64 0,F.int .u64 0,F.int .u64 0,F.int .u64 0,F.int .u64 0]]))))
 (bsel (decide (IntKind.i64.wrap (signV (crossW x0 y0 x1 y1 u0 v0)*signV (crossW x0 y0 x1 y1 u1 v1)) > 0)==false)
 (bsel (decide (IntKind.i64.wrap (signV (crossW u0 v0 u1 v1 x0 y0)*signV (crossW u0 v0 u1 v1 x1 y1)) > 0))
 (ret (F.tup [F.int .i64 0,F.agg [F.int .u64 0,F.int .u64 0,F.int .u64 0,F.int .u64 0,F.int .u64 0,F.int .u64 0,F.int .u64 0,F.int .u64 0,F.int .u64 0,F.int .u64 0,F.int .u64 0,F.int .u64 0],F.agg [F.int .u64 0,F.int .u64 0,F.int .u64 0,F.int .u64 0,F.int .u64 0,F.int .u64 0,F.int .u64 0,F.int .u64 0,F.int .u64 0,F.int .u64 0,F.int .u64 0,F.int .u64 0]]))
 (bsel (isI64 (IntKind.i64.wrap (crossW x0 y0 x1 y1 u0 v0-crossW x0 y0 x1 y1 u1 v1)))
 (bsel (isI64 u0)
 (bsel (isNum 400 (resWhole [F.int .i64 u0])&&isNum 400 (numF (IntKind.i64.wrap (crossW x0 y0 x1 y1 u0 v0-crossW x0 y0 x1 y1 u1 v1))))
 (bsel (isI64 (crossW x0 y0 x1 y1 u0 v0))
 (bsel (isI64 (IntKind.i64.wrap (u1-u0)))
 (bsel (isNum 400 (resWhole [F.int .i64 (crossW x0 y0 x1 y1 u0 v0)])&&isNum 400 (resWhole [F.int .i64 (IntKind.i64.wrap (u1-u0))]))
 (bsel (isNum 400 (resBy [resWhole [F.int .i64 u0],numF (IntKind.i64.wrap (crossW x0 y0 x1 y1 u0 v0-crossW x0 y0 x1 y1 u1 v1))])&&isNum 400 (resBy [resWhole [F.int .i64 (crossW x0 y0 x1 y1 u0 v0)],resWhole [F.int .i64 (IntKind.i64.wrap (u1-u0))]]))
 (bsel (isI64 v0)
 (bsel (isNum 400 (resWhole [F.int .i64 v0])&&isNum 400 (numF (IntKind.i64.wrap (crossW x0 y0 x1 y1 u0 v0-crossW x0 y0 x1 y1 u1 v1))))
 (bsel (isI64 (crossW x0 y0 x1 y1 u0 v0))
 (bsel (isI64 (IntKind.i64.wrap (v1-v0)))
 (bsel (isNum 400 (resWhole [F.int .i64 (crossW x0 y0 x1 y1 u0 v0)])&&isNum 400 (resWhole [F.int .i64 (IntKind.i64.wrap (v1-v0))]))
 (bsel (isNum 400 (resBy [resWhole [F.int .i64 v0],numF (IntKind.i64.wrap (crossW x0 y0 x1 y1 u0 v0-crossW x0 y0 x1 y1 u1 v1))])&&isNum 400 (resBy [resWhole [F.int .i64 (crossW x0 y0 x1 y1 u0 v0)],resWhole [F.int .i64 (IntKind.i64.wrap (v1-v0))]]))
 (bsel (isSpot3 1 (spotF (unNum (resBy [resWhole [F.int .i64 u0],numF (IntKind.i64.wrap (crossW x0 y0 x1 y1 u0 v0-crossW x0 y0 x1 y1 u1 v1))])+unNum (resBy [resWhole [F.int .i64 (crossW x0 y0 x1 y1 u0 v0)],resWhole [F.int .i64 (IntKind.i64.wrap (u1-u0))]])) (unNum (resBy [resWhole [F.int .i64 v0],numF (IntKind.i64.wrap (crossW x0 y0 x1 y1 u0 v0-crossW x0 y0 x1 y1 u1 v1))])+unNum (resBy [resWhole [F.int .i64 (crossW x0 y0 x1 y1 u0 v0)],resWhole [F.int .i64 (IntKind.i64.wrap (v1-v0))]])) (IntKind.i64.wrap (crossW x0 y0 x1 y1 u0 v0-crossW x0 y0 x1 y1 u1 v1))))
 (ret (F.tup [F.int .i64 1,F.agg [F.int .u64 (ptWV 0 (unXs (spotF (unNum (resBy [resWhole [F.int .i64 u0],numF (IntKind.i64.wrap (crossW x0 y0 x1 y1 u0 v0-crossW x0 y0 x1 y1 u1 v1))])+unNum (resBy [resWhole [F.int .i64 (crossW x0 y0 x1 y1 u0 v0)],resWhole [F.int .i64 (IntKind.i64.wrap (u1-u0))]])) (unNum (resBy [resWhole [F.int .i64 v0],numF (IntKind.i64.wrap (crossW x0 y0 x1 y1 u0 v0-crossW x0 y0 x1 y1 u1 v1))])+unNum (resBy [resWhole [F.int .i64 (crossW x0 y0 x1 y1 u0 v0)],resWhole [F.int .i64 (IntKind.i64.wrap (v1-v0))]])) (IntKind.i64.wrap (crossW x0 y0 x1 y1 u0 v0-crossW x0 y0 x1 y1 u1 v1)))) (unYs (spotF (unNum (resBy [resWhole [F.int .i64 u0],numF (IntKind.i64.wrap (crossW x0 y0 x1 y1 u0 v0-crossW x0 y0 x1 y1 u1 v1))])+unNum (resBy [resWhole [F.int .i64 (crossW x0 y0 x1 y1 u0 v0)],resWhole [F.int .i64 (IntKind.i64.wrap (u1-u0))]])) (unNum (resBy [resWhole [F.int .i64 v0],numF (IntKind.i64.wrap (crossW x0 y0 x1 y1 u0 v0-crossW x0 y0 x1 y1 u1 v1))])+unNum (resBy [resWhole [F.int .i64 (crossW x0 y0 x1 y1 u0 v0)],resWhole [F.int .i64 (IntKind.i64.wrap (v1-v0))]])) (IntKind.i64.wrap (crossW x0 y0 x1 y1 u0 v0-crossW x0 y0 x1 y1 u1 v1)))) (unWs (spotF (unNum (resBy [resWhole [F.int .i64 u0],numF (IntKind.i64.wrap (crossW x0 y0 x1 y1 u0 v0-crossW x0 y0 x1 y1 u1 v1))])+unNum (resBy [resWhole [F.int .i64 (crossW x0 y0 x1 y1 u0 v0)],resWhole [F.int .i64 (IntKind.i64.wrap (u1-u0))]])) (unNum (resBy [resWhole [F.int .i64 v0],numF (IntKind.i64.wrap (crossW x0 y0 x1 y1 u0 v0-crossW x0 y0 x1 y1 u1 v1))])+unNum (resBy [resWhole [F.int .i64 (crossW x0 y0 x1 y1 u0 v0)],resWhole [F.int .i64 (IntKind.i64.wrap (v1-v0))]])) (IntKind.i64.wrap (crossW x0 y0 x1 y1 u0 v0-crossW x0 y0 x1 y1 u1 v1))))),F.int .u64 (ptWV 1 (unXs (spotF (unNum (resBy [resWhole [F.int .i64 u0],numF (IntKind.i64.wrap (crossW x0 y0 x1 y1 u0 v0-crossW x0 y0 x1 y1 u1 v1))])+unNum (resBy [resWhole [F.int .i64 (crossW x0 y0 x1 y1 u0 v0)],resWhole [F.int .i64 (IntKind.i64.wrap (u1-u0))]])) (unNum (resBy [resWhole [F.int .i64 v0],numF (IntKind.i64.wrap (crossW x0 y0 x1 y1 u0 v0-crossW x0 y0 x1 y1 u1 v1))])+unNum (resBy [resWhole [F.int .i64 (crossW x0 y0 x1 y1 u0 v0)],resWhole [F.int .i64 (IntKind.i64.wrap (v1-v0))]])) (IntKind.i64.wrap (crossW x0 y0 x1 y1 u0 v0-crossW x0 y0 x1 y1 u1 v1)))) (unYs (spotF (unNum (resBy [resWhole [F.int .i64 u0],numF (IntKind.i64.wrap (crossW x0 y0 x1 y1 u0 v0-crossW x0 y0 x1 y1 u1 v1))])+unNum (resBy [resWhole [F.int .i64 (crossW x0 y0 x1 y1 u0 v0)],resWhole [F.int .i64 (IntKind.i64.wrap (u1-u0))]])) (unNum (resBy [resWhole [F.int .i64 v0],numF (IntKind.i64.wrap (crossW x0 y0 x1 y1 u0 v0-crossW x0 y0 x1 y1 u1 v1))])+unNum (resBy [resWhole [F.int .i64 (crossW x0 y0 x1 y1 u0 v0)],resWhole [F.int .i64 (IntKind.i64.wrap (v1-v0))]])) (IntKind.i64.wrap (crossW x0 y0 x1 y1 u0 v0-crossW x0 y0 x1 y1 u1 v1)))) (unWs (spotF (unNum (resBy [resWhole [F.int .i64 u0],numF (IntKind.i64.wrap (crossW x0 y0 x1 y1 u0 v0-crossW x0 y0 x1 y1 u1 v1))])+unNum (resBy [resWhole [F.int .i64 (crossW x0 y0 x1 y1 u0 v0)],resWhole [F.int .i64 (IntKind.i64.wrap (u1-u0))]])) (unNum (resBy [resWhole [F.int .i64 v0],numF (IntKind.i64.wrap (crossW x0 y0 x1 y1 u0 v0-crossW x0 y0 x1 y1 u1 v1))])+unNum (resBy [resWhole [F.int .i64 (crossW x0 y0 x1 y1 u0 v0)],resWhole [F.int .i64 (IntKind.i64.wrap (v1-v0))]])) (IntKind.i64.wrap (crossW x0 y0 x1 y1 u0 v0-crossW x0 y0 x1 y1 u1 v1))))),F.int .u64 (ptWV 2 (unXs (spotF (unNum (resBy [resWhole [F.int .i64 u0],numF (IntKind.i64.wrap (crossW x0 y0 x1 y1 u0 v0-crossW x0 y0 x1 y1 u1 v1))])+unNum (resBy [resWhole [F.int .i64 (crossW x0 y0 x1 y1 u0 v0)],resWhole [F.int .i64 (IntKind.i64.wrap (u1-u0))]])) (unNum (resBy [resWhole [F.int .i64 v0],numF (IntKind.i64.wrap (crossW x0 y0 x1 y1 u0 v0-crossW x0 y0 x1 y1 u1 v1))])+unNum (resBy [resWhole [F.int .i64 (crossW x0 y0 x1 y1 u0 v0)],resWhole [F.int .i64 (IntKind.i64.wrap (v1-v0))]])) (IntKind.i64.wrap (crossW x0 y0 x1 y1 u0 v0-crossW x0 y0 x1 y1 u1 v1)))) (unYs (spotF (unNum (resBy [resWhole [F.int .i64 u0],numF (IntKind.i64.wrap (crossW x0 y0 x1 y1 u0 v0-crossW x0 y0 x1 y1 u1 v1))])+unNum (resBy [resWhole [F.int .i64 (crossW x0 y0 x1 y1 u0 v0)],resWhole [F.int .i64 (IntKind.i64.wrap (u1-u0))]])) (unNum (resBy [resWhole [F.int .i64 v0],numF (IntKind.i64.wrap (crossW x0 y0 x1 y1 u0 v0-crossW x0 y0 x1 y1 u1 v1))])+unNum (resBy [resWhole [F.int .i64 (crossW x0 y0 x1 y1 u0 v0)],resWhole [F.int .i64 (IntKind.i64.wrap (v1-v0))]])) (IntKind.i64.wrap (crossW x0 y0 x1 y1 u0 v0-crossW x0 y0 x1 y1 u1 v1)))) (unWs (spotF (unNum (resBy [resWhole [F.int .i64 u0],numF (IntKind.i64.wrap (crossW x0 y0 x1 y1 u0 v0-crossW x0 y0 x1 y1 u1 v1))])+unNum (resBy [resWhole [F.int .i64 (crossW x0 y0 x1 y1 u0 v0)],resWhole [F.int .i64 (IntKind.i64.wrap (u1-u0))]])) (unNum (resBy [resWhole [F.int .i64 v0],numF (IntKind.i64.wrap (crossW x0 y0 x1 y1 u0 v0-crossW x0 y0 x1 y1 u1 v1))])+unNum (resBy [resWhole [F.int .i64 (crossW x0 y0 x1 y1 u0 v0)],resWhole [F.int .i64 (IntKind.i64.wrap (v1-v0))]])) (IntKind.i64.wrap (crossW x0 y0 x1 y1 u0 v0-crossW x0 y0 x1 y1 u1 v1))))),F.int .u64 (ptWV 3 (unXs (spotF (unNum (resBy [resWhole [F.int .i64 u0],numF (IntKind.i64.wrap (crossW x0 y0 x1 y1 u0 v0-crossW x0 y0 x1 y1 u1 v1))])+unNum (resBy [resWhole [F.int .i64 (crossW x0 y0 x1 y1 u0 v0)],resWhole [F.int .i64 (IntKind.i64.wrap (u1-u0))]])) (unNum (resBy [resWhole [F.int .i64 v0],numF (IntKind.i64.wrap (crossW x0 y0 x1 y1 u0 v0-crossW x0 y0 x1 y1 u1 v1))])+unNum (resBy [resWhole [F.int .i64 (crossW x0 y0 x1 y1 u0 v0)],resWhole [F.int .i64 (IntKind.i64.wrap (v1-v0))]])) (IntKind.i64.wrap (crossW x0 y0 x1 y1 u0 v0-crossW x0 y0 x1 y1 u1 v1)))) (unYs (spotF (unNum (resBy [resWhole [F.int .i64 u0],numF (IntKind.i64.wrap (crossW x0 y0 x1 y1 u0 v0-crossW x0 y0 x1 y1 u1 v1))])+unNum (resBy [resWhole [F.int .i64 (crossW x0 y0 x1 y1 u0 v0)],resWhole [F.int .i64 (IntKind.i64.wrap (u1-u0))]])) (unNum (resBy [resWhole [F.int .i64 v0],numF (IntKind.i64.wrap (crossW x0 y0 x1 y1 u0 v0-crossW x0 y0 x1 y1 u1 v1))])+unNum (resBy [resWhole [F.int .i64 (crossW x0 y0 x1 y1 u0 v0)],resWhole [F.int .i64 (IntKind.i64.wrap (v1-v0))]])) (IntKind.i64.wrap (crossW x0 y0 x1 y1 u0 v0-crossW x0 y0 x1 y1 u1 v1)))) (unWs (spotF (unNum (resBy [resWhole [F.int .i64 u0],numF (IntKind.i64.wrap (crossW x0 y0 x1 y1 u0 v0-crossW x0 y0 x1 y1 u1 v1))])+unNum (resBy [resWhole [F.int .i64 (crossW x0 y0 x1 y1 u0 v0)],resWhole [F.int .i64 (IntKind.i64.wrap (u1-u0))]])) (unNum (resBy [resWhole [F.int .i64 v0],numF (IntKind.i64.wrap (crossW x0 y0 x1 y1 u0 v0-crossW x0 y0 x1 y1 u1 v1))])+unNum (resBy [resWhole [F.int .i64 (crossW x0 y0 x1 y1 u0 v0)],resWhole [F.int .i64 (IntKind.i64.wrap (v1-v0))]])) (IntKind.i64.wrap (crossW x0 y0 x1 y1 u0 v0-crossW x0 y0 x1 y1 u1 v1))))),F.int .u64 (ptWV 4 (unXs (spotF (unNum (resBy [resWhole [F.int .i64 u0],numF (IntKind.i64.wrap (crossW x0 y0 x1 y1 u0 v0-crossW x0 y0 x1 y1 u1 v1))])+unNum (resBy [resWhole [F.int .i64 (crossW x0 y0 x1 y1 u0 v0)],resWhole [F.int .i64 (IntKind.i64.wrap (u1-u0))]])) (unNum (resBy [resWhole [F.int .i64 v0],numF (IntKind.i64.wrap (crossW x0 y0 x1 y1 u0 v0-crossW x0 y0 x1 y1 u1 v1))])+unNum (resBy [resWhole [F.int .i64 (crossW x0 y0 x1 y1 u0 v0)],resWhole [F.int .i64 (IntKind.i64.wrap (v1-v0))]])) (IntKind.i64.wrap (crossW x0 y0 x1 y1 u0 v0-crossW x0 y0 x1 y1 u1 v1)))) (unYs (spotF (unNum (resBy [resWhole [F.int .i64 u0],numF (IntKind.i64.wrap (crossW x0 y0 x1 y1 u0 v0-crossW x0 y0 x1 y1 u1 v1))])+unNum (resBy [resWhole [F.int .i64 (crossW x0 y0 x1 y1 u0 v0)],resWhole [F.int .i64 (IntKind.i64.wrap (u1-u0))]])) (unNum (resBy [resWhole [F.int .i64 v0],numF (IntKind.i64.wrap (crossW x0 y0 x1 y1 u0 v0-crossW x0 y0 x1 y1 u1 v1))])+unNum (resBy [resWhole [F.int .i64 (crossW x0 y0 x1 y1 u0 v0)],resWhole [F.int .i64 (IntKind.i64.wrap (v1-v0))]])) (IntKind.i64.wrap (crossW x0 y0 x1 y1 u0 v0-crossW x0 y0 x1 y1 u1 v1)))) (unWs (spotF (unNum (resBy [resWhole [F.int .i64 u0],numF (IntKind.i64.wrap (crossW x0 y0 x1 y1 u0 v0-crossW x0 y0 x1 y1 u1 v1))])+unNum (resBy [resWhole [F.int .i64 (crossW x0 y0 x1 y1 u0 v0)],resWhole [F.int .i64 (IntKind.i64.wrap (u1-u0))]])) (unNum (resBy [resWhole [F.int .i64 v0],numF (IntKind.i64.wrap (crossW x0 y0 x1 y1 u0 v0-crossW x0 y0 x1 y1 u1 v1))])+unNum (resBy [resWhole [F.int .i64 (crossW x0 y0 x1 y1 u0 v0)],resWhole [F.int .i64 (IntKind.i64.wrap (v1-v0))]])) (IntKind.i64.wrap (crossW x0 y0 x1 y1 u0 v0-crossW x0 y0 x1 y1 u1 v1))))),F.int .u64 (ptWV 5 (unXs (spotF (unNum (resBy [resWhole [F.int .i64 u0],numF (IntKind.i64.wrap (crossW x0 y0 x1 y1 u0 v0-crossW x0 y0 x1 y1 u1 v1))])+unNum (resBy [resWhole [F.int .i64 (crossW x0 y0 x1 y1 u0 v0)],resWhole [F.int .i64 (IntKind.i64.wrap (u1-u0))]])) (unNum (resBy [resWhole [F.int .i64 v0],numF (IntKind.i64.wrap (crossW x0 y0 x1 y1 u0 v0-crossW x0 y0 x1 y1 u1 v1))])+unNum (resBy [resWhole [F.int .i64 (crossW x0 y0 x1 y1 u0 v0)],resWhole [F.int .i64 (IntKind.i64.wrap (v1-v0))]])) (IntKind.i64.wrap (crossW x0 y0 x1 y1 u0 v0-crossW x0 y0 x1 y1 u1 v1)))) (unYs (spotF (unNum (resBy [resWhole [F.int .i64 u0],numF (IntKind.i64.wrap (crossW x0 y0 x1 y1 u0 v0-crossW x0 y0 x1 y1 u1 v1))])+unNum (resBy [resWhole [F.int .i64 (crossW x0 y0 x1 y1 u0 v0)],resWhole [F.int .i64 (IntKind.i64.wrap (u1-u0))]])) (unNum (resBy [resWhole [F.int .i64 v0],numF (IntKind.i64.wrap (crossW x0 y0 x1 y1 u0 v0-crossW x0 y0 x1 y1 u1 v1))])+unNum (resBy [resWhole [F.int .i64 (crossW x0 y0 x1 y1 u0 v0)],resWhole [F.int .i64 (IntKind.i64.wrap (v1-v0))]])) (IntKind.i64.wrap (crossW x0 y0 x1 y1 u0 v0-crossW x0 y0 x1 y1 u1 v1)))) (unWs (spotF (unNum (resBy [resWhole [F.int .i64 u0],numF (IntKind.i64.wrap (crossW x0 y0 x1 y1 u0 v0-crossW x0 y0 x1 y1 u1 v1))])+unNum (resBy [resWhole [F.int .i64 (crossW x0 y0 x1 y1 u0 v0)],resWhole [F.int .i64 (IntKind.i64.wrap (u1-u0))]])) (unNum (resBy [resWhole [F.int .i64 v0],numF (IntKind.i64.wrap (crossW x0 y0 x1 y1 u0 v0-crossW x0 y0 x1 y1 u1 v1))])+unNum (resBy [resWhole [F.int .i64 (crossW x0 y0 x1 y1 u0 v0)],resWhole [F.int .i64 (IntKind.i64.wrap (v1-v0))]])) (IntKind.i64.wrap (crossW x0 y0 x1 y1 u0 v0-crossW x0 y0 x1 y1 u1 v1))))),F.int .u64 (ptWV 6 (unXs (spotF (unNum (resBy [resWhole [F.int .i64 u0],numF (IntKind.i64.wrap (crossW x0 y0 x1 y1 u0 v0-crossW x0 y0 x1 y1 u1 v1))])+unNum (resBy [resWhole [F.int .i64 (crossW x0 y0 x1 y1 u0 v0)],resWhole [F.int .i64 (IntKind.i64.wrap (u1-u0))]])) (unNum (resBy [resWhole [F.int .i64 v0],numF (IntKind.i64.wrap (crossW x0 y0 x1 y1 u0 v0-crossW x0 y0 x1 y1 u1 v1))])+unNum (resBy [resWhole [F.int .i64 (crossW x0 y0 x1 y1 u0 v0)],resWhole [F.int .i64 (IntKind.i64.wrap (v1-v0))]])) (IntKind.i64.wrap (crossW x0 y0 x1 y1 u0 v0-crossW x0 y0 x1 y1 u1 v1)))) (unYs (spotF (unNum (resBy [resWhole [F.int .i64 u0],numF (IntKind.i64.wrap (crossW x0 y0 x1 y1 u0 v0-crossW x0 y0 x1 y1 u1 v1))])+unNum (resBy [resWhole [F.int .i64 (crossW x0 y0 x1 y1 u0 v0)],resWhole [F.int .i64 (IntKind.i64.wrap (u1-u0))]])) (unNum (resBy [resWhole [F.int .i64 v0],numF (IntKind.i64.wrap (crossW x0 y0 x1 y1 u0 v0-crossW x0 y0 x1 y1 u1 v1))])+unNum (resBy [resWhole [F.int .i64 (crossW x0 y0 x1 y1 u0 v0)],resWhole [F.int .i64 (IntKind.i64.wrap (v1-v0))]])) (IntKind.i64.wrap (crossW x0 y0 x1 y1 u0 v0-crossW x0 y0 x1 y1 u1 v1)))) (unWs (spotF (unNum (resBy [resWhole [F.int .i64 u0],numF (IntKind.i64.wrap (crossW x0 y0 x1 y1 u0 v0-crossW x0 y0 x1 y1 u1 v1))])+unNum (resBy [resWhole [F.int .i64 (crossW x0 y0 x1 y1 u0 v0)],resWhole [F.int .i64 (IntKind.i64.wrap (u1-u0))]])) (unNum (resBy [resWhole [F.int .i64 v0],numF (IntKind.i64.wrap (crossW x0 y0 x1 y1 u0 v0-crossW x0 y0 x1 y1 u1 v1))])+unNum (resBy [resWhole [F.int .i64 (crossW x0 y0 x1 y1 u0 v0)],resWhole [F.int .i64 (IntKind.i64.wrap (v1-v0))]])) (IntKind.i64.wrap (crossW x0 y0 x1 y1 u0 v0-crossW x0 y0 x1 y1 u1 v1))))),F.int .u64 (ptWV 7 (unXs (spotF (unNum (resBy [resWhole [F.int .i64 u0],numF (IntKind.i64.wrap (crossW x0 y0 x1 y1 u0 v0-crossW x0 y0 x1 y1 u1 v1))])+unNum (resBy [resWhole [F.int .i64 (crossW x0 y0 x1 y1 u0 v0)],resWhole [F.int .i64 (IntKind.i64.wrap (u1-u0))]])) (unNum (resBy [resWhole [F.int .i64 v0],numF (IntKind.i64.wrap (crossW x0 y0 x1 y1 u0 v0-crossW x0 y0 x1 y1 u1 v1))])+unNum (resBy [resWhole [F.int .i64 (crossW x0 y0 x1 y1 u0 v0)],resWhole [F.int .i64 (IntKind.i64.wrap (v1-v0))]])) (IntKind.i64.wrap (crossW x0 y0 x1 y1 u0 v0-crossW x0 y0 x1 y1 u1 v1)))) (unYs (spotF (unNum (resBy [resWhole [F.int .i64 u0],numF (IntKind.i64.wrap (crossW x0 y0 x1 y1 u0 v0-crossW x0 y0 x1 y1 u1 v1))])+unNum (resBy [resWhole [F.int .i64 (crossW x0 y0 x1 y1 u0 v0)],resWhole [F.int .i64 (IntKind.i64.wrap (u1-u0))]])) (unNum (resBy [resWhole [F.int .i64 v0],numF (IntKind.i64.wrap (crossW x0 y0 x1 y1 u0 v0-crossW x0 y0 x1 y1 u1 v1))])+unNum (resBy [resWhole [F.int .i64 (crossW x0 y0 x1 y1 u0 v0)],resWhole [F.int .i64 (IntKind.i64.wrap (v1-v0))]])) (IntKind.i64.wrap (crossW x0 y0 x1 y1 u0 v0-crossW x0 y0 x1 y1 u1 v1)))) (unWs (spotF (unNum (resBy [resWhole [F.int .i64 u0],numF (IntKind.i64.wrap (crossW x0 y0 x1 y1 u0 v0-crossW x0 y0 x1 y1 u1 v1))])+unNum (resBy [resWhole [F.int .i64 (crossW x0 y0 x1 y1 u0 v0)],resWhole [F.int .i64 (IntKind.i64.wrap (u1-u0))]])) (unNum (resBy [resWhole [F.int .i64 v0],numF (IntKind.i64.wrap (crossW x0 y0 x1 y1 u0 v0-crossW x0 y0 x1 y1 u1 v1))])+unNum (resBy [resWhole [F.int .i64 (crossW x0 y0 x1 y1 u0 v0)],resWhole [F.int .i64 (IntKind.i64.wrap (v1-v0))]])) (IntKind.i64.wrap (crossW x0 y0 x1 y1 u0 v0-crossW x0 y0 x1 y1 u1 v1))))),F.int .u64 (ptWV 8 (unXs (spotF (unNum (resBy [resWhole [F.int .i64 u0],numF (IntKind.i64.wrap (crossW x0 y0 x1 y1 u0 v0-crossW x0 y0 x1 y1 u1 v1))])+unNum (resBy [resWhole [F.int .i64 (crossW x0 y0 x1 y1 u0 v0)],resWhole [F.int .i64 (IntKind.i64.wrap (u1-u0))]])) (unNum (resBy [resWhole [F.int .i64 v0],numF (IntKind.i64.wrap (crossW x0 y0 x1 y1 u0 v0-crossW x0 y0 x1 y1 u1 v1))])+unNum (resBy [resWhole [F.int .i64 (crossW x0 y0 x1 y1 u0 v0)],resWhole [F.int .i64 (IntKind.i64.wrap (v1-v0))]])) (IntKind.i64.wrap (crossW x0 y0 x1 y1 u0 v0-crossW x0 y0 x1 y1 u1 v1)))) (unYs (spotF (unNum (resBy [resWhole [F.int .i64 u0],numF (IntKind.i64.wrap (crossW x0 y0 x1 y1 u0 v0-crossW x0 y0 x1 y1 u1 v1))])+unNum (resBy [resWhole [F.int .i64 (crossW x0 y0 x1 y1 u0 v0)],resWhole [F.int .i64 (IntKind.i64.wrap (u1-u0))]])) (unNum (resBy [resWhole [F.int .i64 v0],numF (IntKind.i64.wrap (crossW x0 y0 x1 y1 u0 v0-crossW x0 y0 x1 y1 u1 v1))])+unNum (resBy [resWhole [F.int .i64 (crossW x0 y0 x1 y1 u0 v0)],resWhole [F.int .i64 (IntKind.i64.wrap (v1-v0))]])) (IntKind.i64.wrap (crossW x0 y0 x1 y1 u0 v0-crossW x0 y0 x1 y1 u1 v1)))) (unWs (spotF (unNum (resBy [resWhole [F.int .i64 u0],numF (IntKind.i64.wrap (crossW x0 y0 x1 y1 u0 v0-crossW x0 y0 x1 y1 u1 v1))])+unNum (resBy [resWhole [F.int .i64 (crossW x0 y0 x1 y1 u0 v0)],resWhole [F.int .i64 (IntKind.i64.wrap (u1-u0))]])) (unNum (resBy [resWhole [F.int .i64 v0],numF (IntKind.i64.wrap (crossW x0 y0 x1 y1 u0 v0-crossW x0 y0 x1 y1 u1 v1))])+unNum (resBy [resWhole [F.int .i64 (crossW x0 y0 x1 y1 u0 v0)],resWhole [F.int .i64 (IntKind.i64.wrap (v1-v0))]])) (IntKind.i64.wrap (crossW x0 y0 x1 y1 u0 v0-crossW x0 y0 x1 y1 u1 v1))))),F.int .u64 (ptWV 9 (unXs (spotF (unNum (resBy [resWhole [F.int .i64 u0],numF (IntKind.i64.wrap (crossW x0 y0 x1 y1 u0 v0-crossW x0 y0 x1 y1 u1 v1))])+unNum (resBy [resWhole [F.int .i64 (crossW x0 y0 x1 y1 u0 v0)],resWhole [F.int .i64 (IntKind.i64.wrap (u1-u0))]])) (unNum (resBy [resWhole [F.int .i64 v0],numF (IntKind.i64.wrap (crossW x0 y0 x1 y1 u0 v0-crossW x0 y0 x1 y1 u1 v1))])+unNum (resBy [resWhole [F.int .i64 (crossW x0 y0 x1 y1 u0 v0)],resWhole [F.int .i64 (IntKind.i64.wrap (v1-v0))]])) (IntKind.i64.wrap (crossW x0 y0 x1 y1 u0 v0-crossW x0 y0 x1 y1 u1 v1)))) (unYs (spotF (unNum (resBy [resWhole [F.int .i64 u0],numF (IntKind.i64.wrap (crossW x0 y0 x1 y1 u0 v0-crossW x0 y0 x1 y1 u1 v1))])+unNum (resBy [resWhole [F.int .i64 (crossW x0 y0 x1 y1 u0 v0)],resWhole [F.int .i64 (IntKind.i64.wrap (u1-u0))]])) (unNum (resBy [resWhole [F.int .i64 v0],numF (IntKind.i64.wrap (crossW x0 y0 x1 y1 u0 v0-crossW x0 y0 x1 y1 u1 v1))])+unNum (resBy [resWhole [F.int .i64 (crossW x0 y0 x1 y1 u0 v0)],resWhole [F.int .i64 (IntKind.i64.wrap (v1-v0))]])) (IntKind.i64.wrap (crossW x0 y0 x1 y1 u0 v0-crossW x0 y0 x1 y1 u1 v1)))) (unWs (spotF (unNum (resBy [resWhole [F.int .i64 u0],numF (IntKind.i64.wrap (crossW x0 y0 x1 y1 u0 v0-crossW x0 y0 x1 y1 u1 v1))])+unNum (resBy [resWhole [F.int .i64 (crossW x0 y0 x1 y1 u0 v0)],resWhole [F.int .i64 (IntKind.i64.wrap (u1-u0))]])) (unNum (resBy [resWhole [F.int .i64 v0],numF (IntKind.i64.wrap (crossW x0 y0 x1 y1 u0 v0-crossW x0 y0 x1 y1 u1 v1))])+unNum (resBy [resWhole [F.int .i64 (crossW x0 y0 x1 y1 u0 v0)],resWhole [F.int .i64 (IntKind.i64.wrap (v1-v0))]])) (IntKind.i64.wrap (crossW x0 y0 x1 y1 u0 v0-crossW x0 y0 x1 y1 u1 v1))))),F.int .u64 (ptWV 10 (unXs (spotF (unNum (resBy [resWhole [F.int .i64 u0],numF (IntKind.i64.wrap (crossW x0 y0 x1 y1 u0 v0-crossW x0 y0 x1 y1 u1 v1))])+unNum (resBy [resWhole [F.int .i64 (crossW x0 y0 x1 y1 u0 v0)],resWhole [F.int .i64 (IntKind.i64.wrap (u1-u0))]])) (unNum (resBy [resWhole [F.int .i64 v0],numF (IntKind.i64.wrap (crossW x0 y0 x1 y1 u0 v0-crossW x0 y0 x1 y1 u1 v1))])+unNum (resBy [resWhole [F.int .i64 (crossW x0 y0 x1 y1 u0 v0)],resWhole [F.int .i64 (IntKind.i64.wrap (v1-v0))]])) (IntKind.i64.wrap (crossW x0 y0 x1 y1 u0 v0-crossW x0 y0 x1 y1 u1 v1)))) (unYs (spotF (unNum (resBy [resWhole [F.int .i64 u0],numF (IntKind.i64.wrap (crossW x0 y0 x1 y1 u0 v0-crossW x0 y0 x1 y1 u1 v1))])+unNum (resBy [resWhole [F.int .i64 (crossW x0 y0 x1 y1 u0 v0)],resWhole [F.int .i64 (IntKind.i64.wrap (u1-u0))]])) (unNum (resBy [resWhole [F.int .i64 v0],numF (IntKind.i64.wrap (crossW x0 y0 x1 y1 u0 v0-crossW x0 y0 x1 y1 u1 v1))])+unNum (resBy [resWhole [F.int .i64 (crossW x0 y0 x1 y1 u0 v0)],resWhole [F.int .i64 (IntKind.i64.wrap (v1-v0))]])) (IntKind.i64.wrap (crossW x0 y0 x1 y1 u0 v0-crossW x0 y0 x1 y1 u1 v1)))) (unWs (spotF (unNum (resBy [resWhole [F.int .i64 u0],numF (IntKind.i64.wrap (crossW x0 y0 x1 y1 u0 v0-crossW x0 y0 x1 y1 u1 v1))])+unNum (resBy [resWhole [F.int .i64 (crossW x0 y0 x1 y1 u0 v0)],resWhole [F.int .i64 (IntKind.i64.wrap (u1-u0))]])) (unNum (resBy [resWhole [F.int .i64 v0],numF (IntKind.i64.wrap (crossW x0 y0 x1 y1 u0 v0-crossW x0 y0 x1 y1 u1 v1))])+unNum (resBy [resWhole [F.int .i64 (crossW x0 y0 x1 y1 u0 v0)],resWhole [F.int .i64 (IntKind.i64.wrap (v1-v0))]])) (IntKind.i64.wrap (crossW x0 y0 x1 y1 u0 v0-crossW x0 y0 x1 y1 u1 v1))))),F.int .u64 (ptWV 11 (unXs (spotF (unNum (resBy [resWhole [F.int .i64 u0],numF (IntKind.i64.wrap (crossW x0 y0 x1 y1 u0 v0-crossW x0 y0 x1 y1 u1 v1))])+unNum (resBy [resWhole [F.int .i64 (crossW x0 y0 x1 y1 u0 v0)],resWhole [F.int .i64 (IntKind.i64.wrap (u1-u0))]])) (unNum (resBy [resWhole [F.int .i64 v0],numF (IntKind.i64.wrap (crossW x0 y0 x1 y1 u0 v0-crossW x0 y0 x1 y1 u1 v1))])+unNum (resBy [resWhole [F.int .i64 (crossW x0 y0 x1 y1 u0 v0)],resWhole [F.int .i64 (IntKind.i64.wrap (v1-v0))]])) (IntKind.i64.wrap (crossW x0 y0 x1 y1 u0 v0-crossW x0 y0 x1 y1 u1 v1)))) (unYs (spotF (unNum (resBy [resWhole [F.int .i64 u0],numF (IntKind.i64.wrap (crossW x0 y0 x1 y1 u0 v0-crossW x0 y0 x1 y1 u1 v1))])+unNum (resBy [resWhole [F.int .i64 (crossW x0 y0 x1 y1 u0 v0)],resWhole [F.int .i64 (IntKind.i64.wrap (u1-u0))]])) (unNum (resBy [resWhole [F.int .i64 v0],numF (IntKind.i64.wrap (crossW x0 y0 x1 y1 u0 v0-crossW x0 y0 x1 y1 u1 v1))])+unNum (resBy [resWhole [F.int .i64 (crossW x0 y0 x1 y1 u0 v0)],resWhole [F.int .i64 (IntKind.i64.wrap (v1-v0))]])) (IntKind.i64.wrap (crossW x0 y0 x1 y1 u0 v0-crossW x0 y0 x1 y1 u1 v1)))) (unWs (spotF (unNum (resBy [resWhole [F.int .i64 u0],numF (IntKind.i64.wrap (crossW x0 y0 x1 y1 u0 v0-crossW x0 y0 x1 y1 u1 v1))])+unNum (resBy [resWhole [F.int .i64 (crossW x0 y0 x1 y1 u0 v0)],resWhole [F.int .i64 (IntKind.i64.wrap (u1-u0))]])) (unNum (resBy [resWhole [F.int .i64 v0],numF (IntKind.i64.wrap (crossW x0 y0 x1 y1 u0 v0-crossW x0 y0 x1 y1 u1 v1))])+unNum (resBy [resWhole [F.int .i64 (crossW x0 y0 x1 y1 u0 v0)],resWhole [F.int .i64 (IntKind.i64.wrap (v1-v0))]])) (IntKind.i64.wrap (crossW x0 y0 x1 y1 u0 v0-crossW x0 y0 x1 y1 u1 v1)))))],F.agg [F.int .u64 0,F.int .u64 0,F.int .u64 0,F.int .u64 0,F.int .u64 0,F.int .u64 0,F.int .u64 0,F.int .u64 0,F.int .u64 0,F.int .u64 0,F.int .u64 0,F.int .u64 0]]))
 none)
 none)
 none)
 none)
 none)
 none)
 none)
 none)
 none)
 none)
 none)
 none)
 none)
 none))
 (ret (F.tup [F.int .i64 0,F.agg [F.int .u64 0,F.int .u64 0,F.int .u64 0,F.int .u64 0,F.int .u64 0,F.int .u64 0,F.int .u64 0,F.int .u64 0,F.int .u64 0,F.int .u64 0,F.int .u64 0,F.int .u64 0],F.agg [F.int .u64 0,F.int .u64 0,F.int .u64 0,F.int .u64 0,F.int .u64 0,F.int .u64 0,F.int .u64 0,F.int .u64 0,F.int .u64 0,F.int .u64 0,F.int .u64 0,F.int .u64 0]])))))
 (ret (F.tup [F.int .i64 0,F.agg [F.int .u64 0,F.int .u64 0,F.int .u64 0,F.int .u64 0,F.int .u64 0,F.int .u64 0,F.int .u64 0,F.int .u64 0,F.int .u64 0,F.int .u64 0,F.int .u64 0,F.int .u64 0],F.agg [F.int .u64 0,F.int .u64 0,F.int .u64 0,F.int .u64 0,F.int .u64 0,F.int .u64 0,F.int .u64 0,F.int .u64 0,F.int .u64 0,F.int .u64 0,F.int .u64 0,F.int .u64 0]])))
def G33 (x0:Int) (y0:Int) (x1:Int) (y1:Int) (u0:Int) (v0:Int) (u1:Int) (v1:Int):Option (F):=T33 some x0 y0 x1 y1 u0 v0 u1 v1
theorem t33 (x0:Int) (y0:Int) (x1:Int) (y1:Int) (u0:Int) (v0:Int) (u1:Int) (v1:Int) (r:F) (h:G33 x0 y0 x1 y1 u0 v0 u1 v1=some r):Ends Tryz.prog Tryz.f33.results.toList [.code (bodyOf Tryz.f33)] (start Tryz.f33.ntmps ([F.agg [F.int .i64 x0,F.int .i64 y0,F.int .i64 x1,F.int .i64 y1],F.agg [F.int .i64 u0,F.int .i64 v0,F.int .i64 u1,F.int .i64 v1]].map .f)) (r):=by
 refine Ends.of_run tyOK envH8_ok (T:=[]) (n:=200) ?_
 refine gE (Y:=T33 (fun r=>some (.ret (r))) x0 y0 x1 y1 u0 v0 u1 v1) (by kernel_rfl) ?_
 exact (gS h (fun _ h=>(gS h (fun _ h=>gR (by cases h;rfl)) (fun _ h=>(gS h (fun _ h=>(gS h (fun _ h=>(gS h (fun _ h=>(gS h (fun _ h=>(gS h (fun _ h=>gR (by cases h;rfl)) (fun _ h=>(gS h (fun _ h=>(gS h (fun _ h=>gR (by cases h;rfl)) gN)) (fun _ h=>(gS h (fun _ h=>(gS h (fun _ h=>gR (by cases h;rfl)) gN)) gN)))))) (fun _ h=>(gS h (fun _ h=>gR (by cases h;rfl)) (fun _ h=>(gS h (fun _ h=>(gS h (fun _ h=>gR (by cases h;rfl)) gN)) (fun _ h=>(gS h (fun _ h=>(gS h (fun _ h=>gR (by cases h;rfl)) gN)) gN)))))))) (fun _ h=>(gS h (fun _ h=>(gS h (fun _ h=>gR (by cases h;rfl)) (fun _ h=>(gS h (fun _ h=>(gS h (fun _ h=>gR (by cases h;rfl)) gN)) (fun _ h=>(gS h (fun _ h=>(gS h (fun _ h=>gR (by cases h;rfl)) gN)) gN)))))) (fun _ h=>(gS h (fun _ h=>gR (by cases h;rfl)) (fun _ h=>(gS h (fun _ h=>(gS h (fun _ h=>gR (by cases h;rfl)) gN)) (fun _ h=>(gS h (fun _ h=>(gS h (fun _ h=>gR (by cases h;rfl)) gN)) gN)))))))))) (fun _ h=>(gS h (fun _ h=>(gS h (fun _ h=>gR (by cases h;rfl)) (fun _ h=>(gS h (fun _ h=>(gS h (fun _ h=>(gS h (fun _ h=>(gS h (fun _ h=>(gS h (fun _ h=>(gS h (fun _ h=>(gS h (fun _ h=>(gS h (fun _ h=>(gS h (fun _ h=>(gS h (fun _ h=>(gS h (fun _ h=>(gS h (fun _ h=>(gS h (fun _ h=>(gS h (fun _ h=>gR (by cases h;rfl)) gN)) gN)) gN)) gN)) gN)) gN)) gN)) gN)) gN)) gN)) gN)) gN)) gN)) gN)))) (fun _ h=>gR (by cases h;rfl)))))) (fun _ h=>(gS h (fun _ h=>(gS h (fun _ h=>gR (by cases h;rfl)) (fun _ h=>(gS h (fun _ h=>(gS h (fun _ h=>(gS h (fun _ h=>(gS h (fun _ h=>(gS h (fun _ h=>(gS h (fun _ h=>(gS h (fun _ h=>(gS h (fun _ h=>(gS h (fun _ h=>(gS h (fun _ h=>(gS h (fun _ h=>(gS h (fun _ h=>(gS h (fun _ h=>(gS h (fun _ h=>gR (by cases h;rfl)) gN)) gN)) gN)) gN)) gN)) gN)) gN)) gN)) gN)) gN)) gN)) gN)) gN)) gN)))) (fun _ h=>gR (by cases h;rfl)))))))) (fun _ h=>gR (by cases h;rfl)))
def goodI (X:Option F) (M S:Prop):Prop:=∃ (k a0 a1 a2 a3 a4 a5 a6 a7 a8 a9 a10 a11 b0 b1 b2 b3 b4 b5 b6 b7 b8 b9 b10 b11:Int),X=some (F.tup [.int .i64 k,.agg [.int .u64 a0,.int .u64 a1,.int .u64 a2,.int .u64 a3,.int .u64 a4,.int .u64 a5,.int .u64 a6,.int .u64 a7,.int .u64 a8,.int .u64 a9,.int .u64 a10,.int .u64 a11],.agg [.int .u64 b0,.int .u64 b1,.int .u64 b2,.int .u64 b3,.int .u64 b4,.int .u64 b5,.int .u64 b6,.int .u64 b7,.int .u64 b8,.int .u64 b9,.int .u64 b10,.int .u64 b11]])∧kindOk k M S
theorem goodI_of {k a0 a1 a2 a3 a4 a5 a6 a7 a8 a9 a10 a11 b0 b1 b2 b3 b4 b5 b6 b7 b8 b9 b10 b11:Int} {M S:Prop} (h:kindOk k M S):goodI (some (F.tup [.int .i64 k,.agg [.int .u64 a0,.int .u64 a1,.int .u64 a2,.int .u64 a3,.int .u64 a4,.int .u64 a5,.int .u64 a6,.int .u64 a7,.int .u64 a8,.int .u64 a9,.int .u64 a10,.int .u64 a11],.agg [.int .u64 b0,.int .u64 b1,.int .u64 b2,.int .u64 b3,.int .u64 b4,.int .u64 b5,.int .u64 b6,.int .u64 b7,.int .u64 b8,.int .u64 b9,.int .u64 b10,.int .u64 b11]])) M S:=⟨_,_,_,_,_,_,_,_,_,_,_,_,_,_,_,_,_,_,_,_,_,_,_,_,_,rfl,h⟩
theorem goodI_sel {c:Bool} {X Y:Option F} {M S:Prop} (h1:c=true→goodI X M S) (h2:c=false→goodI Y M S):goodI (bsel c X Y) M S:=by
 cases c
 ·exact h2 rfl
 ·exact h1 rfl
theorem spans_meets {x0 y0 x1 y1 u0 v0 u1 v1:Int} (h:spans x0 y0 x1 y1 u0 v0 u1 v1):meets x0 y0 x1 y1 u0 v0 u1 v1:=by
 obtain ⟨h1,h2,h3,h4⟩:=h
 refine .inl ⟨h1,h2,?_⟩
 unfold lexLt at h3 h4
 unfold lexLe
 omega
theorem kind_no {x0 y0 x1 y1 u0 v0 u1 v1:Int} (h:¬ meets x0 y0 x1 y1 u0 v0 u1 v1):kindOk 0 (meets x0 y0 x1 y1 u0 v0 u1 v1) (spans x0 y0 x1 y1 u0 v0 u1 v1):=⟨.inl rfl,by simp [h],⟨fun e=>by omega,fun g=>absurd (spans_meets g) h⟩⟩
theorem mx_eq (a b:Int):(if b > a then b else a)=max a b:=by
 rw [Int.max_def]
 split <;> split <;> omega
theorem mn_eq (a b:Int):(if b<a then b else a)=min a b:=by
 rw [Int.min_def]
 split <;> split <;> omega
theorem cmpV_neg (x0 y0 x1 y1:Int):decide (cmpV x0 y0 x1 y1<0)=(lessV x0 y0 x1 y1):=by
 unfold cmpV
 cases h1:(x0==x1&&y0==y1) with
 | true =>
  simp only [Bool.and_eq_true,beq_iff_eq] at h1
  cases h2:lessV x0 y0 x1 y1 with
  | false=>rfl
  | true =>
   have:=lessV_lt.1 h2
   unfold lexLt at this
   omega
 | false=>cases lessV x0 y0 x1 y1 <;> rfl
theorem cmpV_zero (x0 y0 x1 y1:Int):(cmpV x0 y0 x1 y1==0)=(x0==x1&&y0==y1):=by
 unfold cmpV
 cases (x0==x1&&y0==y1) <;> cases lessV x0 y0 x1 y1 <;> rfl
theorem meet_col {x0 y0 x1 y1 u0 v0 u1 v1:Int} (h0:spotIn x0 y0) (h1:spotIn x1 y1) (k0:spotIn u0 v0) (k1:spotIn u1 v1) (hs:lexLt x0 y0 x1 y1) (ht:lexLt u0 v0 u1 v1) (ha:crossZ x0 y0 x1 y1 u0 v0=0) (hb:crossZ x0 y0 x1 y1 u1 v1=0)
  (hA:¬ (max x0 u0 > min x1 u1)) (hB:¬ (max (min y0 y1) (min v0 v1) > min (max y0 y1) (max v0 v1))):goodI (G33 x0 y0 x1 y1 u0 v0 u1 v1) (meets x0 y0 x1 y1 u0 v0 u1 v1) (spans x0 y0 x1 y1 u0 v0 u1 v1):=by
 have i:∀ {x y:Int},spotIn x y→isI64 x=true∧isI64 y=true:=fun h=>by
  unfold spotIn at h
  exact ⟨isI64_iff.2 (by omega),isI64_iff.2 (by omega)⟩
 have hm:meets x0 y0 x1 y1 u0 v0 u1 v1 ↔ (lexLe u0 v0 x1 y1∧lexLe x0 y0 u1 v1):=by
  unfold meets
  rw [ha,hb]
  constructor
  ·rintro (⟨_,_,h⟩ | ⟨h,_⟩)
   ·exact h
   ·exact absurd ⟨rfl,rfl⟩ h
  ·exact fun h=>.inl ⟨rfl,rfl,h⟩
 have hsp:spans x0 y0 x1 y1 u0 v0 u1 v1 ↔ (lexLt u0 v0 x1 y1∧lexLt x0 y0 u1 v1):=by
  unfold spans
  rw [ha,hb]
  exact ⟨fun h=>h.2.2,fun h=>⟨rfl,rfl,h⟩⟩
 unfold G33 T33
 rw [(crossW_eq h0 h1 k0).1,(crossW_eq h0 h1 k1).1,ha,hb]
 simp only [if_true,Bool.false_eq_true,if_false,mx_eq,mn_eq,decide_eq_false hA,decide_eq_false hB,beq_self_eq_true,bsel_true,bsel_false,cmpV_pos,cmpV_neg,cmpV_zero,i h0,i h1,i k0,i k1,Bool.and_self]
 clear hA hB
 unfold lexLt at hs ht
 repeat' first
  | (refine goodI_of ?_;refine kindOk_of fun j hj=>?_;rw [hm,hsp];clear hm hsp ha hb i h0 h1 k0 k1;simp only [lessV_lt,lessV_no,Bool.and_true,Bool.and_eq_true,Bool.and_eq_false_iff,beq_iff_eq,beq_eq_false_iff_ne,ne_eq] at *;unfold lexLe at *;unfold lexLt at *;omega)
  | (refine goodI_sel (fun _=>?_) (fun _=>?_))
theorem meet_off {x0 y0 x1 y1 u0 v0 u1 v1:Int} (h0:spotIn x0 y0) (h1:spotIn x1 y1) (k0:spotIn u0 v0) (k1:spotIn u1 v1) (hn:¬ (crossZ x0 y0 x1 y1 u0 v0=0∧crossZ x0 y0 x1 y1 u1 v1=0))
  (ho:¬ (apart (crossZ x0 y0 x1 y1 u0 v0) (crossZ x0 y0 x1 y1 u1 v1)∧apart (crossZ u0 v0 u1 v1 x0 y0) (crossZ u0 v0 u1 v1 x1 y1)))
  (hA:¬ (max x0 u0 > min x1 u1)) (hB:¬ (max (min y0 y1) (min v0 v1) > min (max y0 y1) (max v0 v1))):goodI (G33 x0 y0 x1 y1 u0 v0 u1 v1) (meets x0 y0 x1 y1 u0 v0 u1 v1) (spans x0 y0 x1 y1 u0 v0 u1 v1):=by
 have hm:¬ meets x0 y0 x1 y1 u0 v0 u1 v1:=by
  unfold meets
  rintro (⟨a,b,_⟩ | ⟨_,h⟩)
  ·exact hn ⟨a,b⟩
  ·exact ho h
 have z:=kind_no hm
 have tt:(true==true)=true:=rfl
 have ft:(false==true)=false:=rfl
 have tf:(true==false)=false:=rfl
 have ff:(false==false)=true:=rfl
 unfold G33 T33
 rw [(crossW_eq h0 h1 k0).1,(crossW_eq h0 h1 k1).1,(crossW_eq k0 k1 h0).1,(crossW_eq k0 k1 h1).1]
 simp only [if_true,Bool.false_eq_true,if_false,mx_eq,mn_eq,decide_eq_false hA,decide_eq_false hB,ff,bsel_true,bsel_false,signV_sign]
 clear hA hB
 generalize crossZ x0 y0 x1 y1 u0 v0=A at *
 generalize crossZ x0 y0 x1 y1 u1 v1=B at *
 generalize crossZ u0 v0 u1 v1 x0 y0=C at *
 generalize crossZ u0 v0 u1 v1 x1 y1=D at *
 by_cases ap:apart A B
 ·have cd:¬ apart C D:=fun h=>ho ⟨ap,h⟩
  rw [apart_yes ap,apart_no cd]
  by_cases hA:A=0
  ·have hB:¬ B=0:=fun h=>hn ⟨hA,h⟩
   rw [show (A==0)=true from beq_iff_eq.2 hA,show (B==0)=false from beq_eq_false_iff_ne.2 hB]
   simp only [tt,ff,bsel_true,bsel_false]
   exact goodI_of z
  ·rw [show (A==0)=false from beq_eq_false_iff_ne.2 hA]
   simp only [ft,ff,bsel_true,bsel_false]
   exact goodI_of z
 ·rw [apart_no ap]
  by_cases hA:A=0
  ·exact absurd (show apart A B by unfold apart;omega) ap
  ·rw [show (A==0)=false from beq_eq_false_iff_ne.2 hA]
   simp only [ft,tf,bsel_true,bsel_false]
   exact goodI_of z
theorem mulC {a b:Int} (ha:-1000000≤a∧a≤1000000) (hb:-8000000000000≤b∧b≤8000000000000):-8000000000000000000≤a*b∧a*b≤8000000000000000000:=by
 have h:(a*b).natAbs≤1000000*8000000000000:=by rw [Int.natAbs_mul];exact Nat.mul_le_mul (by omega) (by omega)
 omega
theorem meet_in {x0 y0 x1 y1 u0 v0 u1 v1:Int} (h0:spotIn x0 y0) (h1:spotIn x1 y1) (k0:spotIn u0 v0) (k1:spotIn u1 v1) (hn:¬ (crossZ x0 y0 x1 y1 u0 v0=0∧crossZ x0 y0 x1 y1 u1 v1=0))
  (ho:apart (crossZ x0 y0 x1 y1 u0 v0) (crossZ x0 y0 x1 y1 u1 v1)∧apart (crossZ u0 v0 u1 v1 x0 y0) (crossZ u0 v0 u1 v1 x1 y1))
  (hA:¬ (max x0 u0 > min x1 u1)) (hB:¬ (max (min y0 y1) (min v0 v1) > min (max y0 y1) (max v0 v1))):goodI (G33 x0 y0 x1 y1 u0 v0 u1 v1) (meets x0 y0 x1 y1 u0 v0 u1 v1) (spans x0 y0 x1 y1 u0 v0 u1 v1):=by
 have hm:meets x0 y0 x1 y1 u0 v0 u1 v1:=.inr ⟨hn,ho⟩
 have hsp:¬ spans x0 y0 x1 y1 u0 v0 u1 v1:=fun h=>hn ⟨h.1,h.2.1⟩
 have z:kindOk 1 (meets x0 y0 x1 y1 u0 v0 u1 v1) (spans x0 y0 x1 y1 u0 v0 u1 v1):=⟨.inr (.inl rfl),by simp [hm],by simp [hsp]⟩
 have tt:(true==true)=true:=rfl
 have ft:(false==true)=false:=rfl
 have ff:(false==false)=true:=rfl
 obtain ⟨e0,l0,g0⟩:=crossW_eq h0 h1 k0
 obtain ⟨e1,l1,g1⟩:=crossW_eq h0 h1 k1
 have s0:=h0
 have s1:=h1
 have t0:=k0
 have t1:=k1
 unfold spotIn at s0 s1 t0 t1
 have r:∀ n:Int,resWhole [F.int .i64 n]=numF n:=fun _=>rfl
 unfold G33 T33
 rw [e0,e1,(crossW_eq k0 k1 h0).1,(crossW_eq k0 k1 h1).1]
 simp only [if_true,Bool.false_eq_true,if_false,mx_eq,mn_eq,decide_eq_false hA,decide_eq_false hB,ff,bsel_true,bsel_false,signV_sign,apart_yes ho.1,apart_yes ho.2]
 clear hA hB hm hsp
 have wx:IntKind.i64.wrap (u1-u0)=u1-u0:=wrapI (by omega) (by omega)
 have wy:IntKind.i64.wrap (v1-v0)=v1-v0:=wrapI (by omega) (by omega)
 have ho1:=ho.1
 generalize crossZ x0 y0 x1 y1 u0 v0=A at *
 generalize crossZ x0 y0 x1 y1 u1 v1=B at *
 have wd:IntKind.i64.wrap (A-B)=A-B:=wrapI (by omega) (by omega)
 have n1:∀ {w:Int},isI64 w=true→w.natAbs<18446744073709551616 ^ 1:=fun h=>by have:=isI64_iff.1 h;omega
 have iA:isI64 A=true:=isI64_iff.2 (by omega)
 have id:isI64 (A-B)=true:=isI64_iff.2 (by omega)
 have iu:isI64 u0=true:=isI64_iff.2 (by omega)
 have iv:isI64 v0=true:=isI64_iff.2 (by omega)
 have ix:isI64 (u1-u0)=true:=isI64_iff.2 (by omega)
 have iy:isI64 (v1-v0)=true:=isI64_iff.2 (by omega)
 have bx:(u0*(A-B)+A*(u1-u0)).natAbs<18446744073709551616 ^ 1:=by
  have e:u0*(A-B)+A*(u1-u0)=u1*A-u0*B:=by grind
  have m1:=mulC (a:=u1) (b:=A) (by omega) (by omega)
  have m2:=mulC (a:=u0) (b:=B) (by omega) (by omega)
  rw [e,Nat.pow_one]
  omega
 have by':(v0*(A-B)+A*(v1-v0)).natAbs<18446744073709551616 ^ 1:=by
  have e:v0*(A-B)+A*(v1-v0)=v1*A-v0*B:=by grind
  have m1:=mulC (a:=v1) (b:=A) (by omega) (by omega)
  have m2:=mulC (a:=v0) (b:=B) (by omega) (by omega)
  rw [e,Nat.pow_one]
  omega
 have hsp3:isSpot3 1 (spotF (u0*(A-B)+A*(u1-u0)) (v0*(A-B)+A*(v1-v0)) (A-B))=true:=isSpot3_spotF bx by' (n1 id)
 simp only [wx,wy,wd,r,resBy_num,unNum_numF,iA,id,iu,iv,ix,iy,num_ok (n1 iA) (show 1≤400 by omega),num_ok (n1 id) (show 1≤400 by omega),num_ok (n1 iu) (show 1≤400 by omega),num_ok (n1 iv) (show 1≤400 by omega),num_ok (n1 ix) (show 1≤400 by omega),num_ok (n1 iy) (show 1≤400 by omega),
  num_ok (mul_bound (n1 iu) (n1 id)) (show 1+1≤400 by omega),num_ok (mul_bound (n1 iv) (n1 id)) (show 1+1≤400 by omega),num_ok (mul_bound (n1 iA) (n1 ix)) (show 1+1≤400 by omega),num_ok (mul_bound (n1 iA) (n1 iy)) (show 1+1≤400 by omega),hsp3,Bool.and_self,bsel_true]
 by_cases hA:A=0
 ·have hB:¬ B=0:=fun h=>hn ⟨hA,h⟩
  rw [show (A==0)=true from beq_iff_eq.2 hA,show (B==0)=false from beq_eq_false_iff_ne.2 hB]
  simp only [tt,ff,bsel_true,bsel_false]
  exact goodI_of z
 ·rw [show (A==0)=false from beq_eq_false_iff_ne.2 hA]
  simp only [ft,ff,bsel_true,bsel_false]
  exact goodI_of z
theorem meet_law {x0 y0 x1 y1 u0 v0 u1 v1:Int} (h0:spotIn x0 y0) (h1:spotIn x1 y1) (k0:spotIn u0 v0) (k1:spotIn u1 v1) (hs:lexLt x0 y0 x1 y1) (ht:lexLt u0 v0 u1 v1):goodI (G33 x0 y0 x1 y1 u0 v0 u1 v1) (meets x0 y0 x1 y1 u0 v0 u1 v1) (spans x0 y0 x1 y1 u0 v0 u1 v1):=by
 have box:=meets_box (x0:=x0) (y0:=y0) (x1:=x1) (y1:=y1) (u0:=u0) (v0:=v0) (u1:=u1) (v1:=v1) hs ht
 have ff:(false==false)=true:=rfl
 have tf:(true==false)=false:=rfl
 by_cases hA:max x0 u0 > min x1 u1
 ·have hm:¬ meets x0 y0 x1 y1 u0 v0 u1 v1:=fun h=>by
   have:=(box h).1
   unfold lexLt at hs ht
   omega
  unfold G33 T33
  simp only [if_true,Bool.false_eq_true,if_false,mx_eq,mn_eq,decide_eq_true hA,tf,bsel_false]
  exact goodI_of (kind_no hm)
 ·by_cases hB:max (min y0 y1) (min v0 v1) > min (max y0 y1) (max v0 v1)
  ·have hm:¬ meets x0 y0 x1 y1 u0 v0 u1 v1:=fun h=>by
    have:=(box h).2
    omega
   unfold G33 T33
   simp only [if_true,Bool.false_eq_true,if_false,mx_eq,mn_eq,decide_eq_false hA,decide_eq_true hB,ff,bsel_true]
   exact goodI_of (kind_no hm)
  ·by_cases hn:crossZ x0 y0 x1 y1 u0 v0=0∧crossZ x0 y0 x1 y1 u1 v1=0
   ·exact meet_col h0 h1 k0 k1 hs ht hn.1 hn.2 hA hB
   ·by_cases ho:apart (crossZ x0 y0 x1 y1 u0 v0) (crossZ x0 y0 x1 y1 u1 v1)∧apart (crossZ u0 v0 u1 v1 x0 y0) (crossZ u0 v0 u1 v1 x1 y1)
    ·exact meet_in h0 h1 k0 k1 hn ho hA hB
    ·exact meet_off h0 h1 k0 k1 hn ho hA hB
def kindIV (x0 y0 x1 y1 u0 v0 u1 v1:Int):Int:=match G33 x0 y0 x1 y1 u0 v0 u1 v1 with | some (.tup [.int _ k,_,_])=>k | _=>0
def mtWV (i:Nat) (x0 y0 x1 y1 u0 v0 u1 v1:Int):Int:=match G33 x0 y0 x1 y1 u0 v0 u1 v1 with | some (.tup [_,.agg l,.agg m])=>intAt (l++m) i | _=>0
theorem kindI_ok {x0 y0 x1 y1 u0 v0 u1 v1:Int} (hs:segOkV x0 y0 x1 y1=true) (ht:segOkV u0 v0 u1 v1=true):kindOk (kindIV x0 y0 x1 y1 u0 v0 u1 v1) (meets x0 y0 x1 y1 u0 v0 u1 v1) (spans x0 y0 x1 y1 u0 v0 u1 v1):=by
 obtain ⟨h0,h1,h2⟩:=sgOk_parts hs
 obtain ⟨k0,k1,k2⟩:=sgOk_parts ht
 obtain ⟨_,_,_,_,_,_,_,_,_,_,_,_,_,_,_,_,_,_,_,_,_,_,_,_,_,e,h⟩:=meet_law h0 h1 k0 k1 h2 k2
 unfold kindIV
 rw [e]
 exact h
theorem kindI_3 {x0 y0 x1 y1 u0 v0 u1 v1:Int} (hs:segOkV x0 y0 x1 y1=true) (ht:segOkV u0 v0 u1 v1=true):kindIV x0 y0 x1 y1 u0 v0 u1 v1=kind3V x0 y0 x1 y1 u0 v0 u1 v1:=kindOk_eq (kindI_ok hs ht) (kind3_ok hs ht)
def resMeetI:List F→F | [.agg [.int .i64 a,.int .i64 b,.int .i64 c,.int .i64 d],.agg [.int .i64 e,.int .i64 f,.int .i64 g,.int .i64 h]]=>.tup [.int .i64 (kindIV a b c d e f g h),.agg [.int .u64 (mtWV 0 a b c d e f g h),.int .u64 (mtWV 1 a b c d e f g h),.int .u64 (mtWV 2 a b c d e f g h),.int .u64 (mtWV 3 a b c d e f g h),.int .u64 (mtWV 4 a b c d e f g h),.int .u64 (mtWV 5 a b c d e f g h),.int .u64 (mtWV 6 a b c d e f g h),.int .u64 (mtWV 7 a b c d e f g h),.int .u64 (mtWV 8 a b c d e f g h),.int .u64 (mtWV 9 a b c d e f g h),.int .u64 (mtWV 10 a b c d e f g h),.int .u64 (mtWV 11 a b c d e f g h)],.agg [.int .u64 (mtWV 12 a b c d e f g h),.int .u64 (mtWV 13 a b c d e f g h),.int .u64 (mtWV 14 a b c d e f g h),.int .u64 (mtWV 15 a b c d e f g h),.int .u64 (mtWV 16 a b c d e f g h),.int .u64 (mtWV 17 a b c d e f g h),.int .u64 (mtWV 18 a b c d e f g h),.int .u64 (mtWV 19 a b c d e f g h),.int .u64 (mtWV 20 a b c d e f g h),.int .u64 (mtWV 21 a b c d e f g h),.int .u64 (mtWV 22 a b c d e f g h),.int .u64 (mtWV 23 a b c d e f g h)]] | _=>.dflt
theorem okMeetI:PureOK Tryz.prog 33 preMeet3 resMeetI :=
 fn_pure (c:=bodyOf Tryz.f33) Tryz.func33 (by kernel_rfl) (by kernel_rfl) fun xs hp=>match xs,hp with
 | [.agg [.int .i64 a,.int .i64 b,.int .i64 c,.int .i64 d],.agg [.int .i64 e,.int .i64 f,.int .i64 g,.int .i64 h]],hp=>by
  simp only [preMeet3,Bool.and_eq_true] at hp
  obtain ⟨h0,h1,h2⟩:=sgOk_parts hp.1
  obtain ⟨k0,k1,k2⟩:=sgOk_parts hp.2
  obtain ⟨k,p0,p1,p2,p3,p4,p5,p6,p7,p8,p9,p10,p11,q0,q1,q2,q3,q4,q5,q6,q7,q8,q9,q10,q11,e1,hk⟩:=meet_law h0 h1 k0 k1 h2 k2
  have t:=t33 a b c d e f g h _ e1
  have r:resMeetI [.agg [.int .i64 a,.int .i64 b,.int .i64 c,.int .i64 d],.agg [.int .i64 e,.int .i64 f,.int .i64 g,.int .i64 h]]=.tup [.int .i64 k,.agg [.int .u64 p0,.int .u64 p1,.int .u64 p2,.int .u64 p3,.int .u64 p4,.int .u64 p5,.int .u64 p6,.int .u64 p7,.int .u64 p8,.int .u64 p9,.int .u64 p10,.int .u64 p11],.agg [.int .u64 q0,.int .u64 q1,.int .u64 q2,.int .u64 q3,.int .u64 q4,.int .u64 q5,.int .u64 q6,.int .u64 q7,.int .u64 q8,.int .u64 q9,.int .u64 q10,.int .u64 q11]]:=by
   show F.tup [.int .i64 (kindIV a b c d e f g h),.agg [.int .u64 (mtWV 0 a b c d e f g h),.int .u64 (mtWV 1 a b c d e f g h),.int .u64 (mtWV 2 a b c d e f g h),.int .u64 (mtWV 3 a b c d e f g h),.int .u64 (mtWV 4 a b c d e f g h),.int .u64 (mtWV 5 a b c d e f g h),.int .u64 (mtWV 6 a b c d e f g h),.int .u64 (mtWV 7 a b c d e f g h),.int .u64 (mtWV 8 a b c d e f g h),.int .u64 (mtWV 9 a b c d e f g h),.int .u64 (mtWV 10 a b c d e f g h),.int .u64 (mtWV 11 a b c d e f g h)],.agg [.int .u64 (mtWV 12 a b c d e f g h),.int .u64 (mtWV 13 a b c d e f g h),.int .u64 (mtWV 14 a b c d e f g h),.int .u64 (mtWV 15 a b c d e f g h),.int .u64 (mtWV 16 a b c d e f g h),.int .u64 (mtWV 17 a b c d e f g h),.int .u64 (mtWV 18 a b c d e f g h),.int .u64 (mtWV 19 a b c d e f g h),.int .u64 (mtWV 20 a b c d e f g h),.int .u64 (mtWV 21 a b c d e f g h),.int .u64 (mtWV 22 a b c d e f g h),.int .u64 (mtWV 23 a b c d e f g h)]]=_
   simp only [kindIV,mtWV,e1]
   rfl
  rw [r]
  exact t
def envH9:Env:=envH8.add 33 (.pure preMeet3 resMeetI)
theorem envH9_ok:EnvOK Tryz.prog envH9:=(Env.add_ok envH8_ok okMeetI.sp)
end
noncomputable section
def envH10:Env:=envH8
theorem envH10_ok:EnvOK Tryz.prog envH10:=envH8_ok
end
noncomputable section
set_option maxHeartbeats 1000000
def rowFree (h:Nat→Nat→Bool) (m n:Nat):Bool:=allUp (fun i=>allUp (fun j=>!h i j) 0 m) 0 n
theorem getD_in {α:Type} {l:List α} {d:α} {i:Nat} (h:i<l.length):l.getD i d ∈ l:=by
 rw [List.getD_eq_getElem?_getD,List.getElem?_eq_getElem h]
 exact List.getElem_mem h
def envH11:Env:=envH10
theorem envH11_ok:EnvOK Tryz.prog envH11:=envH10_ok
end
noncomputable section
def envH12:Env:=envH11.or envH9
theorem envH12_ok:EnvOK Tryz.prog envH12:=Env.or_ok envH11_ok envH9_ok
end
noncomputable section
set_option maxHeartbeats 1000000
theorem leg_ok {a b:Pt} (ha:spotIn a.x a.y) (hb:spotIn b.x b.y) (h:a ≠ b):segOkV (legOf a b).x0 (legOf a b).y0 (legOf a b).x1 (legOf a b).y1=true:=by
 have oa:=spotOk_iff.2 ha
 have ob:=spotOk_iff.2 hb
 unfold segOkV
 rcases leg_cases a b h with ⟨h1,h2⟩ | ⟨h1,h2⟩ <;> rw [h2] <;> simp only [oa,ob,lessV_lt.2 h1,Bool.and_self]
/-! Both tell the same. -/
def envH13:Env:=envH12
theorem envH13_ok:EnvOK Tryz.prog envH13:=envH12_ok
end
noncomputable section
def envZ5a:Env:=envZ3.or envH13
theorem envZ5a_ok:EnvOK Tryz.prog envZ5a:=Env.or_ok envZ3_ok envH13_ok
end
noncomputable section
def envZ5:Env:=envZ5a
theorem envZ5_ok:EnvOK Tryz.prog envZ5:=envZ5a_ok
end
noncomputable section
variable {P:Program}
def bxPre (dec:List U→Option (Nat × F)) (pre:List F→F→Bool) (us:List U) (H:List HO):Bool:=match dec us with
 | some (o,x)=>(match H[o]? with
  | some (.box cu)=>(match toFs [] cu with
   | some cs=>pre cs x
   | none=>false)
  | _=>false)
 | none=>false
def bxRes (dec:List U→Option (Nat × F)) (res:List F→F→F × List F) (us:List U) (H:List HO):U × List HO:=match dec us with
 | some (o,x)=>(match H[o]? with
  | some (.box cu)=>(match toFs [] cu with
   | some cs=>(.f (res cs x).1,H.set o (boxF (res cs x).2))
   | none=>(.bad,H))
  | _=>(.bad,H))
 | none=>(.bad,H)
theorem box_shared {f:FuncId} {dec:List U→Option (Nat × F)} {mk:F→List U} {pre:List F→F→Bool} {res:List F→F→F × List F}
  (hdec:∀ us o x,dec us=some (o,x)→∀ (w:World) (Z:Nat→Prop) (m:Nat→Nat) (H:List HO) (cu:List U) (cs:List F) (args:List Value),H[o]?=some (.box cu)→RepUs w Z m H us args→RepUs w Z (fun _=>m o) [boxF cs] (mk x) args)
  (h:∀ cs x,pre cs x=true→SubOK P f (mk x) [boxF cs] (res cs x).1 [(res cs x).2]):SpOK P f (.shared (bxPre dec pre) (bxRes dec res)):=by
 intro us H hp w Z m args hH hL
 unfold bxPre at hp
 split at hp
 ·rename_i o x hd
  split at hp
  ·rename_i cu ho
   split at hp
   ·rename_i cs hcs
    have hres:bxRes dec res us H=(.f (res cs x).1,H.set o (boxF (res cs x).2)):=by simp only [bxRes,hd,ho,hcs]
    rw [hres]
    obtain ⟨hl1,hg1⟩:=toFs_get cu cs hcs
    have hlo:liveAt H o:=⟨_,ho,rfl⟩
    have hobk:=hH.ob o _ ho
    have hHsub:HOK w Z (fun _=>m o) [boxF cs]:=by
     refine ⟨hH.zlt,fun _ _=>hH.apart o hlo,fun a b ha hb _=>?_,fun k ob hk=>?_⟩
     ·obtain ⟨_,ha,_⟩:=ha
      obtain ⟨_,hb,_⟩:=hb
      have:=(List.getElem?_eq_some_iff.1 ha).1
      have:=(List.getElem?_eq_some_iff.1 hb).1
      simp at *
      omega
     ·have hk0:=(List.getElem?_eq_some_iff.1 hk).1
      obtain rfl:k=0:=by simp at hk0;exact hk0
      simp at hk;subst hk
      obtain ⟨c,el,fr,q1,q2,q3,q4⟩:=hobk
      refine ⟨c,el,fr,q1,q2,by rw [List.length_map,← hl1];exact q3,fun j u hu=>?_⟩
      rw [List.getElem?_map] at hu
      cases hxj:cs[j]? with
      | none=>rw [hxj] at hu;cases hu
      | some y =>
       rw [hxj] at hu;cases hu
       have hj:=(List.getElem?_eq_some_iff.1 hxj).1
       have huj:cu[j]?=some cu[j]:=List.getElem?_eq_getElem (by omega)
       obtain ⟨v,hv,hr⟩:=q4 j _ huj
       exact ⟨v,hv,.f _ _ (toF_rep_nil hH hr (hg1 j _ y huj hxj))⟩
    have hLsub:=hdec us o x hd w Z m H cu cs args.toList ho hL
    refine (h cs x hp w Z (fun _=>m o) args hHsub hLsub).mono fun v w' ⟨Z',m',hE,hH',hr⟩=>?_
    have hm0:m' 0=m o:=by
     have:=hE.evol 0 (boxF cs) (boxF (res cs x).2) rfl rfl
     simp only [boxF,Evol] at this
     exact this.2
    have hlen:(res cs x).2.length=cs.length:=by
     have:=hE.evol 0 (boxF cs) (boxF (res cs x).2) rfl rfl
     simp only [boxF,Evol,List.length_map] at this
     exact this.1
    have hlt:o<H.length:=(List.getElem?_eq_some_iff.1 ho).1
    have hlive:∀ k,liveAt (H.set o (boxF (res cs x).2)) k→liveAt H k:=by
     intro k ⟨ob1,h1,hd⟩
     by_cases hk:o=k
     ·subst hk;exact hlo
     ·rw [List.getElem?_set_ne hk] at h1;exact ⟨ob1,h1,hd⟩
    have hkeep:∀ k,liveAt H k→k ≠ o→w'.heap[m k]?=w.heap[m k]?:=by
     intro k hk hne
     refine hE.rest _ (hH.blk_lt hk) fun o' ho' e=>hne (hH.inj k o hk hlo e.symm)
    have hEE:Ext w Z m H w' Z' m (H.set o (boxF (res cs x).2)):=by
     refine ⟨hE.os,hE.tape,hE.output,hE.size,hE.sub,?_,hE.kept,?_,by simp,?_,fun k hk=>.inl ⟨hlive k hk,rfl⟩⟩
     ·intro b hb
      rcases hE.back b hb with h1 | h1 | ⟨o',ho',e⟩
      ·exact .inl h1
      ·exact .inr (.inl h1)
      ·exact .inr (.inr ⟨o,hlo,e⟩)
     ·intro b hb hn
      exact hE.rest b hb fun o' ho' e=>hn o hlo e
     ·intro k ob ob' hk hk'
      by_cases hko:o=k
      ·subst hko
       rw [List.getElem?_set_self hlt] at hk'
       rw [ho] at hk
       cases hk;cases hk'
       simp only [boxF,Evol,List.length_map]
       exact ⟨by rw [hlen,hl1],trivial⟩
      ·rw [List.getElem?_set_ne hko,hk] at hk'
       cases hk'
       cases ob with
       | arr sz n g =>
        refine ⟨rfl,Nat.le_refl _,fun _=>⟨rfl,?_⟩⟩
        simp only [blockCells,hkeep k ⟨_,hk,rfl⟩ (fun e=>hko e.symm)]
       | _=>simp [Evol]
    refine ⟨Z',m,hEE,⟨hH'.zlt,?_,fun a b ha hb e=>hH.inj a b (hlive a ha) (hlive b hb) e,?_⟩,.f _ _ hr⟩
    ·intro k hk hz
     have hk':=hlive k hk
     by_cases hko:k=o
     ·subst hko
      exact hH'.apart 0 ⟨_,rfl,rfl⟩ (by rw [hm0];exact hz)
     ·rcases hE.back _ hz with h1 | h1 | ⟨o',ho',e⟩
      ·exact hH.apart k hk' h1
      ·have:=hH.blk_lt hk';omega
      ·exact hko (hH.inj k o hk' hlo e.symm)
    ·intro k ob hk
     by_cases hko:o=k
     ·subst hko
      rw [List.getElem?_set_self hlt] at hk
      cases hk
      obtain ⟨c,el,fr,q1,q2,q3,q4⟩:=hH'.ob 0 _ rfl
      rw [hm0] at q1 q2
      refine ⟨c,el,fr,q1,q2,q3,fun j u hu=>?_⟩
      obtain ⟨v,hv,hr⟩:=q4 j u hu
      refine ⟨v,hv,?_⟩
      rw [List.getElem?_map] at hu
      cases hxj:(res cs x).2[j]? with
      | none=>rw [hxj] at hu;cases hu
      | some y=>rw [hxj] at hu;cases hu;cases hr with | f _ _ hr=>exact .f _ _ hr
     ·rw [List.getElem?_set_ne hko] at hk
      by_cases hd:ob.live=true
      ·exact (hH.ob k ob hk).mono hEE (hkeep k ⟨_,hk,hd⟩ (fun e=>hko e.symm))
      ·cases ob <;> simp_all [ObOK,HO.live]
   ·cases hp
  ·cases hp
 ·cases hp
theorem rep_hp0 {w:World} {Z:Nat→Prop} {m:Nat→Nat} {H:List HO} {o:Nat} {v:Value} {cu:List U} {cs:List F} (ho:H[o]?=some (.box cu)) (h:RepU w Z m H (.hp o 0) v):RepU w Z (fun _=>m o) [boxF cs] (.hp 0 0) v:=by
 cases h with
 | hp _ _ _ h1 hk hvv=>exact .hp 0 0 v h1 ⟨_,rfl,by simp [boxF]⟩ fun cs' _=>hvv _ ho
theorem rep_fU {w:World} {Z:Nat→Prop} {m m':Nat→Nat} {H H':List HO} {x:F} {v:Value} (h:RepU w Z m H (.f x) v):RepU w Z m' H' (.f x) v:=by
 cases h with
 | f _ _ h=>exact .f _ _ h
def decArg:List U→Option (Nat × F)
 | [.f x,.hp o 0]=>some (o,x)
 | _=>none
theorem decArg_ok:∀ us o x,decArg us=some (o,x)→∀ (w:World) (Z:Nat→Prop) (m:Nat→Nat) (H:List HO) (cu:List U) (cs:List F) (args:List Value),H[o]?=some (.box cu)→RepUs w Z m H us args→RepUs w Z (fun _=>m o) [boxF cs] [.f x,.hp 0 0] args:=by
 intro us o x hd w Z m H cu cs args ho hL
 unfold decArg at hd
 split at hd
 ·rename_i y q
  cases hd
  refine ⟨hL.1,fun j u v hu hv=>?_⟩
  match j,hu with
  | 0,hu=>cases hu;exact rep_fU (hL.2 0 _ v rfl hv)
  | 1,hu=>cases hu;exact rep_hp0 ho (hL.2 1 _ v rfl hv)
  | j+2,hu=>simp at hu
 ·cases hd
def decFn (g:FuncId):List U→Option (Nat × F)
 | [.f x,.fn g' [.hp o 0]]=>if g'=g then some (o,x) else none
 | _=>none
theorem decFn_ok (g:FuncId):∀ us o x,decFn g us=some (o,x)→∀ (w:World) (Z:Nat→Prop) (m:Nat→Nat) (H:List HO) (cu:List U) (cs:List F) (args:List Value),H[o]?=some (.box cu)→RepUs w Z m H us args→RepUs w Z (fun _=>m o) [boxF cs] [.f x,.fn g [.hp 0 0]] args:=by
 intro us o x hd w Z m H cu cs args ho hL
 unfold decFn at hd
 split at hd
 ·rename_i y g' q
  split at hd
  ·rename_i hg
   subst hg
   cases hd
   refine ⟨hL.1,fun j u v hu hv=>?_⟩
   match j,hu with
   | 0,hu=>cases hu;exact rep_fU (hL.2 0 _ v rfl hv)
   | 1,hu =>
    cases hu
    have:=hL.2 1 _ v rfl hv
    cases this with
    | fn _ _ vs hl hr =>
     refine .fn _ _ vs hl fun j u v hu hv=>?_
     match j,hu with
     | 0,hu=>cases hu;exact rep_hp0 ho (hr 0 _ v rfl hv)
     | j+1,hu=>simp at hu
   | j+2,hu=>simp at hu
  ·cases hd
 ·cases hd
theorem rep_hp00 {w:World} {Z:Nat→Prop} {m:Nat→Nat} {v:Value} {cs ds:List F} (h:RepU w Z m [boxF cs] (.hp 0 0) v):RepU w Z m [boxF ds] (.hp 0 0) v:=by
 cases h with
 | hp _ _ _ h1 hk hvv=>exact .hp 0 0 v h1 ⟨_,rfl,by simp [boxF]⟩ fun cs' _=>hvv _ rfl
theorem rep_fle {w:World} {Z:Nat→Prop} {m m':Nat→Nat} {H H':List HO} {x y:F} {v:Value} (hle:FLe x y) (h:RepU w Z m H (.f x) v):RepU w Z m' H' (.f y) v:=by
 cases h with
 | f _ _ h=>exact .f _ _ (hle _ _ _ h)
def argMk (x:F):List U:=[.f x,.hp 0 0]
def fnMk (g:FuncId) (x:F):List U:=[.f x,.fn g [.hp 0 0]]
theorem argMk_le {x y:F} (hle:FLe x y) (w:World) (Z:Nat→Prop) (m:Nat→Nat) (cs ds:List F) (args:List Value) (h:RepUs w Z m [boxF cs] (argMk x) args):RepUs w Z m [boxF ds] (argMk y) args:=by
 refine ⟨h.1,fun j u v hu hv=>?_⟩
 match j,hu with
 | 0,hu=>cases hu;exact rep_fle hle (h.2 0 _ v rfl hv)
 | 1,hu=>cases hu;exact rep_hp00 (h.2 1 _ v rfl hv)
 | j+2,hu=>simp [argMk] at hu
theorem fnMk_le {g:FuncId} {x y:F} (hle:FLe x y) (w:World) (Z:Nat→Prop) (m:Nat→Nat) (cs ds:List F) (args:List Value) (h:RepUs w Z m [boxF cs] (fnMk g x) args):RepUs w Z m [boxF ds] (fnMk g y) args:=by
 refine ⟨h.1,fun j u v hu hv=>?_⟩
 match j,hu with
 | 0,hu=>cases hu;exact rep_fle hle (h.2 0 _ v rfl hv)
 | 1,hu =>
  cases hu
  have:=h.2 1 _ v rfl hv
  cases this with
  | fn _ _ vs hl hr =>
   refine .fn _ _ vs hl fun j u v hu hv=>?_
   match j,hu with
   | 0,hu=>cases hu;exact rep_hp00 (hr 0 _ v rfl hv)
   | j+1,hu=>simp at hu
 | j+2,hu=>simp [fnMk] at hu
theorem fn_box_at {f:FuncId} {fn:Func} {c:Code} (hf:P.funcs[f]?=some fn) (hb:fn.body=some c) (hodd:oddFn fn=false) {dec:List U→Option (Nat × F)} {mk:F→List U} {pre:List F→F→Bool} {res:List F→F→F × List F}
  (hdec:∀ us o x,dec us=some (o,x)→∀ (w:World) (Z:Nat→Prop) (m:Nat→Nat) (H:List HO) (cu:List U) (cs:List F) (args:List Value),H[o]?=some (.box cu)→RepUs w Z m H us args→RepUs w Z (fun _=>m o) [boxF cs] (mk x) args)
  (hmk:∀ {x y:F},FLe x y→∀ (w:World) (Z:Nat→Prop) (m:Nat→Nat) (cs ds:List F) (args:List Value),RepUs w Z m [boxF cs] (mk x) args→RepUs w Z m [boxF ds] (mk y) args)
  (h:∀ cs x,pre cs x=true→∃ ds y r os,FsLe cs ds∧FLe x y∧EndsN P 1 fn.results.toList [.code c] (startN fn.ntmps (mk y) [boxF ds]) (.tup [r,.agg os])∧FLe r (res cs x).1∧FsLe os (res cs x).2):SpOK P f (.shared (bxPre dec pre) (bxRes dec res)) :=
 box_shared hdec fun cs x hp w Z m args hH hL=>by
  obtain ⟨ds,y,r,os,h1,h2,h3,h4,h5⟩:=h cs x hp
  exact (fn_sub hf hb hodd (H:=[boxF ds]) (os:=[os]) rfl (by simp) h3 w Z m args (hH.box_le h1) (hmk h2 w Z m cs ds _ hL)).mono fun v w' ⟨Z',m',hE,hH',hr⟩=>⟨Z',m',hE.box_le h1 h5,hH'.box_le h5,h4 _ _ _ hr⟩
end
noncomputable section
def ringF (r:List Pt):F:=.agg [ptsF r]
def isRing:F→Bool
 | .agg [x]=>isPts x
 | _=>false
def unRing:F→List Pt
 | .agg [x]=>unPts x
 | _=>[]
theorem unRing_ringF (r:List Pt):unRing (ringF r)=r:=unPts_ptsF r
theorem isRing_ringF (r:List Pt):isRing (ringF r)=true:=isPts_ptsF r
theorem ring_form {x:F} (h:isRing x=true):∃ y,x=.agg [y]∧isPts y=true:=by
 unfold isRing at h
 split at h
 ·exact ⟨_,rfl,h⟩
 ·cases h
theorem ring_eqv {x:F} (h:isRing x=true):FLe x (ringF (unRing x))∧FLe (ringF (unRing x)) x:=by
 obtain ⟨y,rfl,hy⟩:=ring_form h
 exact ⟨FLe.agg ⟨(pts_eqv hy).1,trivial⟩,FLe.agg ⟨(pts_eqv hy).2,trivial⟩⟩
theorem ring_el {x:F} (h:isRing x=true):ElLe x (ringF (unRing x))∧ElLe (ringF (unRing x)) x:=by
 obtain ⟨y,rfl,hy⟩:=ring_form h
 have hc:cellF y=true:=by
  cases y with
  | sl n g=>rfl
  | _=>simp [isPts,isSl] at hy
 exact ⟨ElLe.agg ⟨(pts_eqv hy).1,trivial⟩ fun _ u hu=>by
   simp only [List.mem_cons,List.not_mem_nil,or_false] at hu
   subst hu
   rfl,
  ElLe.agg ⟨(pts_eqv hy).2,trivial⟩ fun _ u hu=>by
   simp only [List.mem_cons,List.not_mem_nil,or_false] at hu
   subst hu
   exact hc⟩
def ringsF (l:List (List Pt)):F:=slF ringF [] l
def isRings (x:F):Bool:=isSl isRing x
def unRings (x:F):List (List Pt):=unSl unRing x
theorem unRings_ringsF (l:List (List Pt)):unRings (ringsF l)=l:=unSl_slF (fun r=>unRing_ringF r) l
theorem isRings_ringsF (l:List (List Pt)):isRings (ringsF l)=true:=isSl_slF l fun r _=>isRing_ringF r
theorem rings_eqv {x:F} (h:isRings x=true):FLe x (ringsF (unRings x))∧FLe (ringsF (unRings x)) x:=slF_eqv' (fun _ h=>ring_el h) h
theorem unPts_take (q:List Pt) (i:Nat) (h:i≤q.length):unPts (F.sl i fun j=>ptF (q.getD j .zero))=q.take i∧isPts (F.sl i fun j=>ptF (q.getD j .zero))=true:=by
 constructor
 ·show (List.range i).map (fun j=>unPt (ptF (q.getD j .zero)))=_
  apply List.ext_getElem
  ·simp;omega
  ·intro j h1 h2
   simp at h1
   simp [List.getD,List.getElem?_eq_getElem (show j<q.length by omega)]
   rfl
 ·simp only [isPts,isSl,List.all_eq_true,List.mem_range]
  exact fun _ _=>rfl
theorem unRings_take (l:List (List Pt)) (i:Nat) (h:i≤l.length):unRings (F.sl i fun j=>ringF (l.getD j []))=l.take i∧isRings (F.sl i fun j=>ringF (l.getD j []))=true:=by
 constructor
 ·show (List.range i).map (fun j=>unRing (ringF (l.getD j [])))=_
  apply List.ext_getElem
  ·simp;omega
  ·intro j h1 h2
   simp at h1
   simp [List.getD,List.getElem?_eq_getElem (show j<l.length by omega),unRing_ringF]
 ·simp only [isRings,isSl,List.all_eq_true,List.mem_range]
  exact fun _ _=>isRing_ringF _
def sideAt (q:List Pt) (i:Nat):Sg:=legOf (q.getD i .zero) (q.getD ((i+1) % q.length) .zero)
def sidesOf (q:List Pt):List Sg:=(List.range q.length).map (sideAt q)
theorem sidesOf_len (q:List Pt):(sidesOf q).length=q.length:=by simp [sidesOf]
theorem sidesOf_get (q:List Pt) {i:Nat} (h:i<q.length):(sidesOf q).getD i .zero=sideAt q i:=by
 simp [sidesOf,List.getD,h]
end
noncomputable section
/-! ### function 37 -/
def T37 {ρ:Type} (ret:(Int)→(Int)→(Int)→(Int)→Option ρ) (q:List Pt) (i:Int):Option ρ :=
 (bsel (decide (0≤i))
 (bsel (decide (i<(↑q.length:Int)))
 (bsel ((↑q.length:Int) != 0)
 (bsel (decide (0≤(IntKind.i64.wrap (i+1)).tmod (↑q.length:Int)))
 (bsel (decide ((IntKind.i64.wrap (i+1)).tmod (↑q.length:Int)<(↑q.length:Int)))
 (bsel (lessV (q.getD ((IntKind.i64.wrap (i+1)).tmod (↑q.length:Int)).toNat Pt.zero).x (q.getD ((IntKind.i64.wrap (i+1)).tmod (↑q.length:Int)).toNat Pt.zero).y (q.getD i.toNat Pt.zero).x (q.getD i.toNat Pt.zero).y)
 (ret ((q.getD ((IntKind.i64.wrap (i+1)).tmod (↑q.length:Int)).toNat Pt.zero).x) ((q.getD ((IntKind.i64.wrap (i+1)).tmod (↑q.length:Int)).toNat Pt.zero).y) ((q.getD i.toNat Pt.zero).x) ((q.getD i.toNat Pt.zero).y))
 (ret ((q.getD i.toNat Pt.zero).x) ((q.getD i.toNat Pt.zero).y) ((q.getD ((IntKind.i64.wrap (i+1)).tmod (↑q.length:Int)).toNat Pt.zero).x) ((q.getD ((IntKind.i64.wrap (i+1)).tmod (↑q.length:Int)).toNat Pt.zero).y)))
 none)
 none)
 none)
 none)
 none)
def G37 (q:List Pt) (i:Int):Option ((Int) × (Int) × (Int) × (Int)):=T37 (fun a b c d=>some (a,b,c,d)) q i
theorem t37 (q:List Pt) (i:Int) (a:Int) (b:Int) (c:Int) (d:Int) (h:G37 q i=some (a,b,c,d)):Ends Tryz.prog Tryz.f37.results.toList [.code (bodyOf Tryz.f37)] (start Tryz.f37.ntmps ([F.agg [ptsF q],F.int .i64 i].map .f)) (F.agg [F.int .i64 a,F.int .i64 b,F.int .i64 c,F.int .i64 d]):=by
 refine Ends.of_run tyOK envZ5_ok (T:=[]) (n:=200) ?_
 refine gE (Y:=T37 (fun a b c d=>some (.ret (F.agg [F.int .i64 a,F.int .i64 b,F.int .i64 c,F.int .i64 d]))) q i) (by kernel_rfl) ?_
 exact (gS h (fun _ h=>(gS h (fun _ h=>(gS h (fun _ h=>(gS h (fun _ h=>(gS h (fun _ h=>(gS h (fun _ h=>gR (by cases h;rfl)) (fun _ h=>gR (by cases h;rfl)))) gN)) gN)) gN)) gN)) gN)
theorem tmod_nat (m n:Nat):((m:Nat):Int).tmod (n:Int)=((m % n:Nat):Int):=rfl
theorem next_conds {n i:Nat} (hi:i<n) (hn:n≤1000):IntKind.i64.wrap ((i:Int)+1)=((i+1:Nat):Int)∧decide ((0:Int)≤i)=true∧decide ((i:Int)<(n:Int))=true∧((n:Int) != 0)=true∧decide ((0:Int)≤(((i+1) % n:Nat):Int))=true∧decide ((((i+1) % n:Nat):Int)<(n:Int))=true:=by
 have h:=Nat.mod_lt (i+1) (show 0<n by omega)
 refine ⟨by rw [wrapI (by omega) (by omega)];omega,decide_eq_true (by omega),decide_eq_true (by omega),by rw [bne_iff_ne];omega,decide_eq_true (by omega),decide_eq_true (by omega)⟩
theorem side_law {q:List Pt} {i:Nat} (hi:i<q.length) (hn:q.length≤1000):G37 q i=some ((sideAt q i).x0,(sideAt q i).y0,(sideAt q i).x1,(sideAt q i).y1):=by
 obtain ⟨c1,c2,c3,c4,c5,c6⟩:=next_conds hi hn
 unfold G37 T37
 simp only [c1,tmod_nat,c2,c3,c4,c5,c6,Int.toNat_natCast,bsel_true]
 unfold sideAt legOf
 cases lessV (q.getD ((i+1) % q.length) .zero).x (q.getD ((i+1) % q.length) .zero).y (q.getD i .zero).x (q.getD i .zero).y <;> rfl
def isAt (q:List Pt) (i:Int):Bool:=decide (0≤i)&&decide (i<(q.length:Int))&&decide (q.length≤1000)
theorem isAt_iff {q:List Pt} {i:Int}:isAt q i=true ↔ (0≤i∧i<(q.length:Int))∧q.length≤1000:=by simp only [isAt,Bool.and_eq_true,decide_eq_true_eq]
def preSideAt:List F→Bool | [x,.int .i64 i]=>isRing x&&isAt (unRing x) i | _=>false
def resSideAt:List F→F | [x,.int .i64 i]=>sgF (sideAt (unRing x) i.toNat) | _=>.dflt
theorem okSideAt:PureOK Tryz.prog 37 preSideAt resSideAt :=
 fn_pure_at (c:=bodyOf Tryz.f37) Tryz.func37 (by kernel_rfl) (by kernel_rfl) fun xs hp=>match xs,hp with
 | [x,.int .i64 i],hp=>by
  simp only [preSideAt,Bool.and_eq_true] at hp
  obtain ⟨⟨h1,h2⟩,h3⟩:=isAt_iff.1 hp.2
  have h:=side_law (q:=unRing x) (i:=i.toNat) (by omega) h3
  rw [Int.toNat_of_nonneg h1] at h
  exact ⟨[ringF (unRing x),.int .i64 i],_,⟨(ring_eqv hp.1).1,.refl _,trivial⟩,t37 _ _ _ _ _ _ h,.refl _⟩
/-! ### function 42 -/
def S42_2 (q:List Pt) (x:Int) (y:Int) (n:Int) (i:Int):St:=⟨(U.f (ptsF q)) :: bads 2 ((U.hp 0 0) :: bads 3 ((U.f (F.int .i64 n)) :: (U.f (F.int .i64 i)) :: bads 10 [])),[HO.box [(U.f (F.int .i64 x)),(U.f (F.int .i64 y))]]⟩
def T42_2 {ρ:Type} (ret:(Int)→Option ρ) (c2:(List Pt)→(Int)→(Int)→(Int)→(Int)→Option ρ) (q:List Pt) (x:Int) (y:Int) (n:Int) (i:Int):Option ρ :=
 (bsel (decide (i<n))
 (bsel (decide (0≤i))
 (bsel (decide (i<(↑q.length:Int)))
 (bsel (x==(q.getD i.toNat Pt.zero).x&&(y==(q.getD i.toNat Pt.zero).y&&true))
 (ret (i))
 (c2 (q) (x) (y) (n) (IntKind.i64.wrap (i+1))))
 none)
 none)
 (ret (-1)))
def L42_2:Nat→(List Pt)→(Int)→(Int)→(Int)→(Int)→Option (Int)
 | 0,_,_,_,_,_=>none
 | k+1,q,x,y,n,i=>T42_2 some (L42_2 k) q x y n i
def T42 {ρ:Type} (ret:(Int)→Option ρ) (c2:(List Pt)→(Int)→(Int)→(Int)→(Int)→Option ρ) (q:List Pt) (x:Int) (y:Int):Option ρ :=
 (c2 (q) (x) (y) ((↑q.length:Int)) (0))
def G42 (k:Nat) (q:List Pt) (x:Int) (y:Int):Option (Int):=T42 some (L42_2 k) q x y
theorem t42_2:∀ (k:Nat) (q:List Pt) (x:Int) (y:Int) (n:Int) (i:Int) (r:Int),L42_2 k q x y n i=some r→Ends Tryz.prog Tryz.f42.results.toList (at_ Tryz.f42 2) (S42_2 q x y n i) (F.int .i64 r)
 | 0,_,_,_,_,_,_,h=>nomatch h
 | k+1,q,x,y,n,i,r,h=>by
  refine Ends.of_cut tyOK envZ5_ok (T:=[(2,[0,3,7,8],1000)]) (n:=200) ?_
  refine gE (Y:=T42_2 (fun r=>some (.ret (F.int .i64 r))) (fun q x y n i=>some (.cut (at_ Tryz.f42 2) (S42_2 q x y n i))) q x y n i) (by kernel_rfl) ?_
  exact (gS h (fun _ h=>(gS h (fun _ h=>(gS h (fun _ h=>(gS h (fun _ h=>gR (by cases h;rfl)) (fun _ h=>gC (t42_2 k _ _ _ _ _ r h)))) gN)) gN)) (fun _ h=>gR (by cases h;rfl)))
theorem t42 (k:Nat) (q:List Pt) (x:Int) (y:Int) (r:Int) (h:G42 k q x y=some r):Ends Tryz.prog Tryz.f42.results.toList [.code (bodyOf Tryz.f42)] (start Tryz.f42.ntmps ([ptsF q,F.agg [F.int .i64 x,F.int .i64 y]].map .f)) (F.int .i64 r):=by
 refine Ends.of_run tyOK envZ5_ok (T:=[(2,[0,3,7,8],1000)]) (n:=200) ?_
 refine gE (Y:=T42 (fun r=>some (.ret (F.int .i64 r))) (fun q x y n i=>some (.cut (at_ Tryz.f42 2) (S42_2 q x y n i))) q x y) (by kernel_rfl) ?_
 exact gC (t42_2 k _ _ _ _ _ r h)
def idxGo (x y:Int):List Pt→Nat→Int
 | [],_=>-1
 | p :: r,i=>bif x==p.x&&y==p.y then (i:Int) else idxGo x y r (i+1)
def hasV (q:List Pt) (x y:Int):Bool:=q.any fun p=>x==p.x&&y==p.y
theorem idx_has (x y:Int):∀ (r:List Pt) (i:Nat),decide (idxGo x y r i ≥ 0)=hasV r x y
 | [],i=>rfl
 | p :: r,i=>by
  unfold hasV idxGo
  rw [List.any_cons]
  cases x==p.x&&y==p.y with
  | true=>rw [cond_true,decide_eq_true (by omega)];rfl
  | false=>rw [cond_false,idx_has x y r (i+1)];rfl
theorem idx_loop {q:List Pt} (hn:q.length≤1000) (x y:Int):∀ (d i k:Nat),i+d=q.length→d+1≤k→L42_2 k q x y q.length i=some (idxGo x y (q.drop i) i)
 | d,i,0,_,hk=>by omega
 | 0,i,k+1,hi,hk=>by
  rw [L42_2]
  unfold T42_2
  rw [decide_eq_false (show ¬ (i:Int)<q.length by omega),List.drop_eq_nil_of_le (by omega)]
  rfl
 | d+1,i,k+1,hi,hk=>by
  have hlt:i<q.length:=by omega
  have hg:q.getD i Pt.zero=q[i]:=by simp [List.getD,List.getElem?_eq_getElem hlt]
  have wi:IntKind.i64.wrap ((i:Int)+1)=((i+1:Nat):Int):=by rw [wrapI (by omega) (by omega)];omega
  rw [L42_2]
  unfold T42_2
  rw [decide_eq_true (show (i:Int)<q.length by omega),decide_eq_true (show (0:Int)≤i by omega),Int.toNat_natCast,hg,wi,idx_loop hn x y d (i+1) k (by omega) (by omega),List.drop_eq_getElem_cons hlt,idxGo]
  simp only [bsel_true,Bool.and_true]
  cases x==q[i].x&&y==q[i].y <;> rfl
def isShort (q:List Pt):Bool:=decide (q.length≤1000)
def preIdx:List F→Bool | [x,.agg [.int .i64 _,.int .i64 _]]=>isPts x&&isShort (unPts x) | _=>false
def resIdx:List F→F | [x,.agg [.int .i64 a,.int .i64 b]]=>.int .i64 (idxGo a b (unPts x) 0) | _=>.dflt
theorem okIdx:PureOK Tryz.prog 42 preIdx resIdx :=
 fn_pure_at (c:=bodyOf Tryz.f42) Tryz.func42 (by kernel_rfl) (by kernel_rfl) fun xs hp=>match xs,hp with
 | [x,.agg [.int .i64 a,.int .i64 b]],hp=>by
  simp only [preIdx,Bool.and_eq_true] at hp
  exact ⟨[ptsF (unPts x),_],_,⟨(pts_eqv hp.1).1,.refl _,trivial⟩,t42 2000 _ _ _ _ (by
   unfold G42 T42
   have h2:(unPts x).length≤1000:=of_decide_eq_true hp.2
   exact idx_loop h2 a b (unPts x).length 0 2000 (by omega) (by omega)),.refl _⟩
/-! ### function 32 -/
def S32_3 (q:List Pt) (n:Nat) (g:Nat→F) (m:Int) (i:Int):St:=⟨bads 1 ((U.hp 0 0) :: bads 1 ((U.hs 1 n 0 n) :: bads 4 ((U.f (ptsF q)) :: (U.f (F.int .i64 m)) :: (U.f (F.int .i64 i)) :: bads 21 []))),[HO.box [(U.f (ptsF q))],HO.arr 4 n g]⟩
def T32_3 {ρ:Type} (ret:(F)→Option ρ) (c3:(List Pt)→(Nat)→(Nat→F)→(Int)→(Int)→Option ρ) (q:List Pt) (n:Nat) (g:Nat→F) (m:Int) (i:Int):Option ρ :=
 (bsel (decide (i<m))
 (bsel (decide (0≤i))
 (bsel (decide (i<(↑q.length:Int)))
 (bsel ((↑q.length:Int) != 0)
 (bsel (decide (0≤(IntKind.i64.wrap (i+1)).tmod (↑q.length:Int)))
 (bsel (decide ((IntKind.i64.wrap (i+1)).tmod (↑q.length:Int)<(↑q.length:Int)))
 (bsel (decide (n=n))
 (bsel (decide (n=n))
 (bsel (decide ((↑(n+1):Int)*(((32:Nat):Int)+1)≤(↑limit:Int)))
 (c3 (q) (n+1) (fun j ↦ if j<n then g j else F.agg [F.int .i64 (legOf { x:=(q.getD i.toNat Pt.zero).x,y:=(q.getD i.toNat Pt.zero).y } { x:=(q.getD ((IntKind.i64.wrap (i+1)).tmod (↑q.length:Int)).toNat Pt.zero).x,y:=(q.getD ((IntKind.i64.wrap (i+1)).tmod (↑q.length:Int)).toNat Pt.zero).y }).x0,F.int .i64 (legOf { x:=(q.getD i.toNat Pt.zero).x,y:=(q.getD i.toNat Pt.zero).y } { x:=(q.getD ((IntKind.i64.wrap (i+1)).tmod (↑q.length:Int)).toNat Pt.zero).x,y:=(q.getD ((IntKind.i64.wrap (i+1)).tmod (↑q.length:Int)).toNat Pt.zero).y }).y0,F.int .i64 (legOf { x:=(q.getD i.toNat Pt.zero).x,y:=(q.getD i.toNat Pt.zero).y } { x:=(q.getD ((IntKind.i64.wrap (i+1)).tmod (↑q.length:Int)).toNat Pt.zero).x,y:=(q.getD ((IntKind.i64.wrap (i+1)).tmod (↑q.length:Int)).toNat Pt.zero).y }).x1,F.int .i64 (legOf { x:=(q.getD i.toNat Pt.zero).x,y:=(q.getD i.toNat Pt.zero).y } { x:=(q.getD ((IntKind.i64.wrap (i+1)).tmod (↑q.length:Int)).toNat Pt.zero).x,y:=(q.getD ((IntKind.i64.wrap (i+1)).tmod (↑q.length:Int)).toNat Pt.zero).y }).y1]) (m) (IntKind.i64.wrap (i+1)))
 none)
 none)
 none)
 none)
 none)
 none)
 none)
 none)
 (bsel (decide (n=n))
 (ret (F.sl n g))
 none))
def L32_3:Nat→(List Pt)→(Nat)→(Nat→F)→(Int)→(Int)→Option (F)
 | 0,_,_,_,_,_=>none
 | k+1,q,n,g,m,i=>T32_3 some (L32_3 k) q n g m i
def T32 {ρ:Type} (ret:(F)→Option ρ) (c3:(List Pt)→(Nat)→(Nat→F)→(Int)→(Int)→Option ρ) (q:List Pt):Option ρ :=
 (c3 (q) (0) (lget []) ((↑q.length:Int)) (0))
def G32 (k:Nat) (q:List Pt):Option (F):=T32 some (L32_3 k) q
theorem t32_3:∀ (k:Nat) (q:List Pt) (n:Nat) (g:Nat→F) (m:Int) (i:Int) (r:F),L32_3 k q n g m i=some r→Ends Tryz.prog Tryz.f32.results.toList (at_ Tryz.f32 3) (S32_3 q n g m i) (r)
 | 0,_,_,_,_,_,_,h=>nomatch h
 | k+1,q,n,g,m,i,r,h=>by
  refine Ends.of_cut tyOK envZ5_ok (T:=[(3,[1,3,8,9,10],1000)]) (n:=200) ?_
  refine gE (Y:=T32_3 (fun r=>some (.ret (r))) (fun q n g m i=>some (.cut (at_ Tryz.f32 3) (S32_3 q n g m i))) q n g m i) (by kernel_rfl) ?_
  exact (gS h (fun _ h=>(gS h (fun _ h=>(gS h (fun _ h=>(gS h (fun _ h=>(gS h (fun _ h=>(gS h (fun _ h=>(gS h (fun _ h=>(gS h (fun _ h=>(gS h (fun _ h=>gC (t32_3 k _ _ _ _ _ r h)) gN)) gN)) gN)) gN)) gN)) gN)) gN)) gN)) (fun _ h=>(gS h (fun _ h=>gR (by cases h;rfl)) gN)))
theorem t32 (k:Nat) (q:List Pt) (r:F) (h:G32 k q=some r):Ends Tryz.prog Tryz.f32.results.toList [.code (bodyOf Tryz.f32)] (start Tryz.f32.ntmps ([F.agg [ptsF q]].map .f)) (r):=by
 refine Ends.of_run tyOK envZ5_ok (T:=[(3,[1,3,8,9,10],1000)]) (n:=200) ?_
 refine gE (Y:=T32 (fun r=>some (.ret (r))) (fun q n g m i=>some (.cut (at_ Tryz.f32 3) (S32_3 q n g m i))) q) (by kernel_rfl) ?_
 exact gC (t32_3 k _ _ _ _ _ r h)
theorem sides_loop {q:List Pt} (hn:q.length≤1000):∀ (d i k:Nat) (g:Nat→F),i+d=q.length→d+1≤k→(∀ j,j<i→g j=sgF (sideAt q j))→∃ g',L32_3 k q i g q.length i=some (.sl q.length g')∧∀ j,j<q.length→g' j=sgF (sideAt q j)
 | d,i,0,_,_,hk,_=>by omega
 | 0,i,k+1,g,hi,hk,hg=>by
  obtain rfl:i=q.length:=by omega
  refine ⟨g,?_,hg⟩
  rw [L32_3]
  unfold T32_3
  rw [decide_eq_false (by omega),decide_eq_true (show q.length=q.length from rfl)]
  rfl
 | d+1,i,k+1,g,hi,hk,hg=>by
  obtain ⟨c1,c2,c3,c4,c5,c6⟩:=next_conds (n:=q.length) (i:=i) (by omega) hn
  have c7:decide (((i+1:Nat):Int)*(((32:Nat):Int)+1)≤(limit:Int))=true:=by rw [limit_eq];exact decide_eq_true (by omega)
  rw [L32_3]
  unfold T32_3
  simp only [c1,tmod_nat,c2,c3,c4,c5,c6,c7,Int.toNat_natCast,decide_true,bsel_true,pt_eta]
  refine sides_loop hn d (i+1) k _ (by omega) (by omega) fun j hj=>?_
  by_cases h:j<i
  ·rw [if_pos h,hg j h]
  ·obtain rfl:j=i:=by omega
   rw [if_neg h]
   rfl
def preSides:List F→Bool | [x]=>isRing x&&isShort (unRing x) | _=>false
def resSides:List F→F | [x]=>segsF (sidesOf (unRing x)) | _=>.dflt
theorem okSides:PureOK Tryz.prog 32 preSides resSides :=
 fn_pure_at (c:=bodyOf Tryz.f32) Tryz.func32 (by kernel_rfl) (by kernel_rfl) fun xs hp=>match xs,hp with
 | [x],hp=>by
  simp only [preSides,Bool.and_eq_true] at hp
  have h2:(unRing x).length≤1000:=of_decide_eq_true hp.2
  obtain ⟨g,e,hg⟩:=sides_loop h2 (unRing x).length 0 2000 (lget []) (by omega) (by omega) fun j hj=>by omega
  refine ⟨[ringF (unRing x)],_,⟨(ring_eqv hp.1).1,trivial⟩,t32 2000 _ _ e,?_⟩
  show FLe _ (segsF (sidesOf (unRing x)))
  unfold segsF slF
  rw [sidesOf_len]
  exact FLe.sl fun j hj=>by rw [hg j hj,sidesOf_get _ hj]
def envK1:Env:=((envZ5.add 37 (.pure preSideAt resSideAt)).add 42 (.pure preIdx resIdx)).add 32 (.pure preSides resSides)
theorem envK1_ok:EnvOK Tryz.prog envK1:=(Env.add_ok (Env.add_ok (Env.add_ok envZ5_ok okSideAt.sp) okIdx.sp) okSides.sp)
end
noncomputable section
/-! ### function 31 -/
def T31 {ρ:Type} (ret:(Bool)→Option ρ) (q:List Pt) (x:Int) (y:Int):Option ρ :=
 (bsel (isPts (ptsF q)&&isShort (unPts (ptsF q)))
 (ret (decide (idxGo x y (unPts (ptsF q)) 0 ≥ 0)))
 none)
def G31 (q:List Pt) (x:Int) (y:Int):Option (Bool):=T31 some q x y
theorem t31 (q:List Pt) (x:Int) (y:Int) (b:Bool) (h:G31 q x y=some b):Ends Tryz.prog Tryz.f31.results.toList [.code (bodyOf Tryz.f31)] (start Tryz.f31.ntmps ([ptsF q,F.agg [F.int .i64 x,F.int .i64 y]].map .f)) (F.bool b):=by
 refine Ends.of_run tyOK envK1_ok (T:=[]) (n:=200) ?_
 refine gE (Y:=T31 (fun b=>some (.ret (F.bool b))) q x y) (by kernel_rfl) ?_
 exact (gS h (fun _ h=>gR (by cases h;rfl)) gN)
def resHas:List F→F | [x,.agg [.int .i64 a,.int .i64 b]]=>.bool (hasV (unPts x) a b) | _=>.dflt
theorem okHas:PureOK Tryz.prog 31 preIdx resHas :=
 fn_pure_at (c:=bodyOf Tryz.f31) Tryz.func31 (by kernel_rfl) (by kernel_rfl) fun xs hp=>match xs,hp with
 | [x,.agg [.int .i64 a,.int .i64 b]],hp=>by
  simp only [preIdx,Bool.and_eq_true] at hp
  exact ⟨[ptsF (unPts x),_],_,⟨(pts_eqv hp.1).1,.refl _,trivial⟩,t31 _ _ _ _ (by
   unfold G31 T31
   rw [isPts_ptsF,unPts_ptsF,hp.2,idx_has]
   rfl),.refl _⟩
def envK2a:Env:=envK1.add 31 (.pure preIdx resHas)
theorem envK2a_ok:EnvOK Tryz.prog envK2a:=(Env.add_ok envK1_ok okHas.sp)
end
noncomputable section
set_option maxHeartbeats 1000000
theorem unRing_agg (q:List Pt):unRing (F.agg [ptsF q])=q:=unPts_ptsF q
theorem isRing_agg (q:List Pt):isRing (F.agg [ptsF q])=true:=isPts_ptsF q
def k3 (s t:Sg):Int:=kind3V s.x0 s.y0 s.x1 s.y1 t.x0 t.y0 t.x1 t.y1
def kI (s t:Sg):Int:=kindIV s.x0 s.y0 s.x1 s.y1 t.x0 t.y0 t.x1 t.y1
def okS (s:Sg):Bool:=segOkV s.x0 s.y0 s.x1 s.y1
theorem kI_3 {s t:Sg} (hs:okS s=true) (ht:okS t=true):kI s t=k3 s t:=kindI_3 hs ht
theorem k3_range {s t:Sg} (hs:okS s=true) (ht:okS t=true):k3 s t=0 ∨ k3 s t=1 ∨ k3 s t=2:=(kind3_ok hs ht).1
def sideNx (n i j:Nat):Bool:=decide (j+1=i) || (decide (j=0)&&decide (i+1=n))
def bad3 (m:Int) (nx:Bool):Bool:=bif nx then m != 1 else m != 0
def badI (m:Int) (nx:Bool):Bool:=m==2 || (m==1 && !nx)
def samePt (q:List Pt) (i j:Nat):Bool:=(q.getD i .zero).x==(q.getD j .zero).x&&(q.getD i .zero).y==(q.getD j .zero).y
def cross3 (q:List Pt) (i j:Nat):Bool:=bad3 (k3 (sideAt q i) (sideAt q j)) (sideNx q.length i j)
def crossI (q:List Pt) (i j:Nat):Bool:=badI (kI (sideAt q i) (sideAt q j)) (sideNx q.length i j)
def triFree (h:Nat→Nat→Bool) (i d:Nat):Bool:=allUp (fun i=>allUp (fun j=>!h i j) 0 i) i d
def faultBy (h:List Pt→Nat→Nat→Bool) (q:List Pt):Int :=
 bif decide (q.length<3) then 1 else bif decide (q.length > 12) then 2 else bif !(q.all fun p=>spotOkV p.x p.y) then 3 else bif !triFree (samePt q) 0 q.length then 4 else bif !triFree (h q) 0 q.length then 5 else 0
def fault3V (q:List Pt):Int:=faultBy cross3 q
def faultIV (q:List Pt):Int:=faultBy crossI q
theorem tri_iff {h:Nat→Nat→Bool} {n:Nat}:triFree h 0 n=true ↔ ∀ i,i<n→∀ j,j<i→h i j=false:=by
 unfold triFree
 rw [allUp_iff]
 constructor
 ·intro g i hi j hj
  have:=(allUp_iff _ _ _).1 (g i (by omega) (by omega)) j (by omega) (by omega)
  simpa using this
 ·intro g i _ hi
  rw [allUp_iff]
  intro j _ hj
  rw [g i (by omega) j (by omega)]
  rfl
structure RingIn (q:List Pt):Prop where
 low:3≤q.length
 high:q.length≤12
 spots:∀ p ∈ q,spotIn p.x p.y
 unlike:∀ i,i<q.length→∀ j,j<i→q.getD i .zero ≠ q.getD j .zero
theorem unlike_ne {q:List Pt} (h:RingIn q) {i j:Nat} (hi:i<q.length) (hj:j<q.length) (hij:i ≠ j):q.getD i .zero ≠ q.getD j .zero:=by
 rcases Nat.lt_or_ge j i with h1 | h1
 ·exact h.unlike i hi j h1
 ·exact fun e=>h.unlike j hj i (by omega) e.symm
theorem next_ne {n i:Nat} (hi:i<n) (hn:3≤n):(i+1) % n ≠ i∧(i+1) % n<n:=by
 refine ⟨?_,Nat.mod_lt _ (by omega)⟩
 by_cases h:i+1=n
 ·rw [h,Nat.mod_self];omega
 ·rw [Nat.mod_eq_of_lt (by omega)];omega
theorem side_ok {q:List Pt} (h:RingIn q) {i:Nat} (hi:i<q.length):okS (sideAt q i)=true:=by
 obtain ⟨h1,h2⟩:=next_ne hi h.low
 exact leg_ok (h.spots _ (getD_in hi)) (h.spots _ (getD_in h2)) (unlike_ne h hi h2 (fun e=>h1 e.symm))
theorem same_ne {q:List Pt} {i j:Nat} (h:samePt q i j=false):q.getD i .zero ≠ q.getD j .zero:=fun e=>by
 unfold samePt at h
 rw [e,beq_self_eq_true,beq_self_eq_true] at h
 cases h
theorem ringIn_of {q:List Pt} (h1:¬ q.length<3) (h2:¬ q.length > 12) (h3:(q.all fun p=>spotOkV p.x p.y)=true) (h4:triFree (samePt q) 0 q.length=true):RingIn q :=
 ⟨by omega,by omega,fun p hp=>spotOk_iff.1 (List.all_eq_true.1 h3 p hp),fun i hi j hj=>same_ne (tri_iff.1 h4 i hi j hj)⟩
/-! The reference. -/
/-! ### function 19 -/
def S19_7 (q:List Pt) (n:Int) (i:Int):St:=⟨bads 1 ((U.hp 0 0) :: bads 1 ((U.f (F.int .i64 n)) :: (U.f (F.int .i64 i)) :: bads 96 [])),[HO.box [(U.f (ptsF q))]]⟩
def S19_12 (q:List Pt) (n:Int) (i:Int):St:=⟨bads 1 ((U.hp 0 0) :: bads 1 ((U.f (F.int .i64 n)) :: bads 1 ((U.f (F.int .i64 i)) :: bads 95 []))),[HO.box [(U.f (ptsF q))]]⟩
def S19_15 (q:List Pt) (n:Int) (i:Int) (j:Int):St:=⟨bads 1 ((U.hp 0 0) :: bads 1 ((U.f (F.int .i64 n)) :: bads 1 ((U.f (F.int .i64 i)) :: (U.f (F.int .i64 j)) :: bads 94 []))),[HO.box [(U.f (ptsF q))]]⟩
def S19_20 (q:List Pt) (n:Int) (i:Int):St:=⟨bads 1 ((U.hp 0 0) :: bads 1 ((U.f (F.int .i64 n)) :: bads 3 ((U.f (F.int .i64 i)) :: bads 93 []))),[HO.box [(U.f (ptsF q))]]⟩
def S19_23 (q:List Pt) (n:Int) (i:Int) (j:Int):St:=⟨bads 1 ((U.hp 0 0) :: bads 1 ((U.f (F.int .i64 n)) :: bads 3 ((U.f (F.int .i64 i)) :: (U.f (F.int .i64 j)) :: bads 92 []))),[HO.box [(U.f (ptsF q))]]⟩
abbrev KJ71 (ρ:Type):=(List Pt)→(Int)→(Int)→Option ρ
abbrev KJ72 (ρ:Type):=(List Pt)→(Int)→(Int)→(Int)→Option ρ
def T19_7 {ρ:Type} (ret:(Int)→Option ρ) (c7:KJ71 ρ) (c12:KJ71 ρ) (c15:KJ72 ρ) (c20:KJ71 ρ) (c23:KJ72 ρ) (q:List Pt) (n:Int) (i:Int):Option ρ :=
 (bsel (decide (i<n))
 (bsel (decide (0≤i))
 (bsel (decide (i<(↑q.length:Int)))
 (bsel (!spotOkV (q.getD i.toNat Pt.zero).x (q.getD i.toNat Pt.zero).y)
 (ret (3))
 (c7 (q) (n) (IntKind.i64.wrap (i+1))))
 none)
 none)
 (c12 (q) (n) (0)))
def T19_12 {ρ:Type} (ret:(Int)→Option ρ) (c7:KJ71 ρ) (c12:KJ71 ρ) (c15:KJ72 ρ) (c20:KJ71 ρ) (c23:KJ72 ρ) (q:List Pt) (n:Int) (i:Int):Option ρ :=
 (bsel (decide (i<n))
 (c15 (q) (n) (i) (0))
 (c20 (q) (n) (0)))
def T19_15 {ρ:Type} (ret:(Int)→Option ρ) (c7:KJ71 ρ) (c12:KJ71 ρ) (c15:KJ72 ρ) (c20:KJ71 ρ) (c23:KJ72 ρ) (q:List Pt) (n:Int) (i:Int) (j:Int):Option ρ :=
 (bsel (decide (j<i))
 (bsel (decide (0≤i))
 (bsel (decide (i<(↑q.length:Int)))
 (bsel (decide (0≤j))
 (bsel (decide (j<(↑q.length:Int)))
 (bsel ((q.getD i.toNat Pt.zero).x==(q.getD j.toNat Pt.zero).x&&((q.getD i.toNat Pt.zero).y==(q.getD j.toNat Pt.zero).y&&true))
 (ret (4))
 (c15 (q) (n) (i) (IntKind.i64.wrap (j+1))))
 none)
 none)
 none)
 none)
 (c12 (q) (n) (IntKind.i64.wrap (i+1))))
def T19_20 {ρ:Type} (ret:(Int)→Option ρ) (c7:KJ71 ρ) (c12:KJ71 ρ) (c15:KJ72 ρ) (c20:KJ71 ρ) (c23:KJ72 ρ) (q:List Pt) (n:Int) (i:Int):Option ρ :=
 (bsel (decide (i<n))
 (c23 (q) (n) (i) (0))
 (ret (0)))
def T19_23 {ρ:Type} (ret:(Int)→Option ρ) (c7:KJ71 ρ) (c12:KJ71 ρ) (c15:KJ72 ρ) (c20:KJ71 ρ) (c23:KJ72 ρ) (q:List Pt) (n:Int) (i:Int) (j:Int):Option ρ :=
 (bsel (decide (j<i))
 (bsel (isRing (F.agg [ptsF q])&&isAt (unRing (F.agg [ptsF q])) i)
 (bsel (isRing (F.agg [ptsF q])&&isAt (unRing (F.agg [ptsF q])) j)
 (bsel (segOkV (sideAt (unRing (F.agg [ptsF q])) i.toNat).x0 (sideAt (unRing (F.agg [ptsF q])) i.toNat).y0 (sideAt (unRing (F.agg [ptsF q])) i.toNat).x1 (sideAt (unRing (F.agg [ptsF q])) i.toNat).y1&&segOkV (sideAt (unRing (F.agg [ptsF q])) j.toNat).x0 (sideAt (unRing (F.agg [ptsF q])) j.toNat).y0 (sideAt (unRing (F.agg [ptsF q])) j.toNat).x1 (sideAt (unRing (F.agg [ptsF q])) j.toNat).y1)
 (bsel ((j==IntKind.i64.wrap (i-1))==false)
 (bsel ((j==0)==true)
 (bsel ((i==IntKind.i64.wrap (n-1))==true)
 (bsel ((kind3V (sideAt (unRing (F.agg [ptsF q])) i.toNat).x0 (sideAt (unRing (F.agg [ptsF q])) i.toNat).y0 (sideAt (unRing (F.agg [ptsF q])) i.toNat).x1 (sideAt (unRing (F.agg [ptsF q])) i.toNat).y1 (sideAt (unRing (F.agg [ptsF q])) j.toNat).x0 (sideAt (unRing (F.agg [ptsF q])) j.toNat).y0 (sideAt (unRing (F.agg [ptsF q])) j.toNat).x1 (sideAt (unRing (F.agg [ptsF q])) j.toNat).y1 != 1)==false)
 (bsel ((!i==IntKind.i64.wrap (n-1))==true)
 (bsel (kind3V (sideAt (unRing (F.agg [ptsF q])) i.toNat).x0 (sideAt (unRing (F.agg [ptsF q])) i.toNat).y0 (sideAt (unRing (F.agg [ptsF q])) i.toNat).x1 (sideAt (unRing (F.agg [ptsF q])) i.toNat).y1 (sideAt (unRing (F.agg [ptsF q])) j.toNat).x0 (sideAt (unRing (F.agg [ptsF q])) j.toNat).y0 (sideAt (unRing (F.agg [ptsF q])) j.toNat).x1 (sideAt (unRing (F.agg [ptsF q])) j.toNat).y1 != 0)
 (ret (5))
 (c23 (q) (n) (i) (IntKind.i64.wrap (j+1))))
 (c23 (q) (n) (i) (IntKind.i64.wrap (j+1))))
 (ret (5)))
 (bsel ((!i==IntKind.i64.wrap (n-1))==true)
 (bsel (kind3V (sideAt (unRing (F.agg [ptsF q])) i.toNat).x0 (sideAt (unRing (F.agg [ptsF q])) i.toNat).y0 (sideAt (unRing (F.agg [ptsF q])) i.toNat).x1 (sideAt (unRing (F.agg [ptsF q])) i.toNat).y1 (sideAt (unRing (F.agg [ptsF q])) j.toNat).x0 (sideAt (unRing (F.agg [ptsF q])) j.toNat).y0 (sideAt (unRing (F.agg [ptsF q])) j.toNat).x1 (sideAt (unRing (F.agg [ptsF q])) j.toNat).y1 != 0)
 (ret (5))
 (c23 (q) (n) (i) (IntKind.i64.wrap (j+1))))
 (c23 (q) (n) (i) (IntKind.i64.wrap (j+1)))))
 (bsel (kind3V (sideAt (unRing (F.agg [ptsF q])) i.toNat).x0 (sideAt (unRing (F.agg [ptsF q])) i.toNat).y0 (sideAt (unRing (F.agg [ptsF q])) i.toNat).x1 (sideAt (unRing (F.agg [ptsF q])) i.toNat).y1 (sideAt (unRing (F.agg [ptsF q])) j.toNat).x0 (sideAt (unRing (F.agg [ptsF q])) j.toNat).y0 (sideAt (unRing (F.agg [ptsF q])) j.toNat).x1 (sideAt (unRing (F.agg [ptsF q])) j.toNat).y1 != 0)
 (ret (5))
 (c23 (q) (n) (i) (IntKind.i64.wrap (j+1)))))
 (bsel ((kind3V (sideAt (unRing (F.agg [ptsF q])) i.toNat).x0 (sideAt (unRing (F.agg [ptsF q])) i.toNat).y0 (sideAt (unRing (F.agg [ptsF q])) i.toNat).x1 (sideAt (unRing (F.agg [ptsF q])) i.toNat).y1 (sideAt (unRing (F.agg [ptsF q])) j.toNat).x0 (sideAt (unRing (F.agg [ptsF q])) j.toNat).y0 (sideAt (unRing (F.agg [ptsF q])) j.toNat).x1 (sideAt (unRing (F.agg [ptsF q])) j.toNat).y1 != 1)==false)
 (c23 (q) (n) (i) (IntKind.i64.wrap (j+1)))
 (ret (5))))
 none)
 none)
 none)
 (c20 (q) (n) (IntKind.i64.wrap (i+1))))
mutual
def L19_7:Nat→(List Pt)→(Int)→(Int)→Option (Int)
 | 0,_,_,_=>none
 | k+1,q,n,i=>T19_7 some (L19_7 k) (L19_12 k) (L19_15 k) (L19_20 k) (L19_23 k) q n i
 termination_by structural k=>k
def L19_12:Nat→(List Pt)→(Int)→(Int)→Option (Int)
 | 0,_,_,_=>none
 | k+1,q,n,i=>T19_12 some (L19_7 k) (L19_12 k) (L19_15 k) (L19_20 k) (L19_23 k) q n i
 termination_by structural k=>k
def L19_15:Nat→(List Pt)→(Int)→(Int)→(Int)→Option (Int)
 | 0,_,_,_,_=>none
 | k+1,q,n,i,j=>T19_15 some (L19_7 k) (L19_12 k) (L19_15 k) (L19_20 k) (L19_23 k) q n i j
 termination_by structural k=>k
def L19_20:Nat→(List Pt)→(Int)→(Int)→Option (Int)
 | 0,_,_,_=>none
 | k+1,q,n,i=>T19_20 some (L19_7 k) (L19_12 k) (L19_15 k) (L19_20 k) (L19_23 k) q n i
 termination_by structural k=>k
def L19_23:Nat→(List Pt)→(Int)→(Int)→(Int)→Option (Int)
 | 0,_,_,_,_=>none
 | k+1,q,n,i,j=>T19_23 some (L19_7 k) (L19_12 k) (L19_15 k) (L19_20 k) (L19_23 k) q n i j
 termination_by structural k=>k
end
def T19 {ρ:Type} (ret:(Int)→Option ρ) (c7:KJ71 ρ) (c12:KJ71 ρ) (c15:KJ72 ρ) (c20:KJ71 ρ) (c23:KJ72 ρ) (q:List Pt):Option ρ :=
 (bsel (decide ((↑q.length:Int)<3))
 (ret (1))
 (bsel (decide ((↑q.length:Int) > 12))
 (ret (2))
 (c7 (q) ((↑q.length:Int)) (0))))
def G19 (k:Nat) (q:List Pt):Option (Int):=T19 some (L19_7 k) (L19_12 k) (L19_15 k) (L19_20 k) (L19_23 k) q
mutual
theorem t19_7:∀ (k:Nat) (q:List Pt) (n:Int) (i:Int) (r:Int),L19_7 k q n i=some r→Ends Tryz.prog Tryz.f19.results.toList (at_ Tryz.f19 7) (S19_7 q n i) (F.int .i64 r)
 | 0,_,_,_,_,h=>nomatch h
 | k+1,q,n,i,r,h=>by
  refine Ends.of_cut tyOK envK2a_ok (T:=[(7,[1,3,4],1000),(12,[1,3,5],1000),(15,[1,3,5,6],1000),(20,[1,3,7],1000),(23,[1,3,7,8],1000)]) (n:=200) ?_
  refine gE (Y:=T19_7 (fun r=>some (.ret (F.int .i64 r))) (fun q n i=>some (.cut (at_ Tryz.f19 7) (S19_7 q n i))) (fun q n i=>some (.cut (at_ Tryz.f19 12) (S19_12 q n i))) (fun q n i j=>some (.cut (at_ Tryz.f19 15) (S19_15 q n i j))) (fun q n i=>some (.cut (at_ Tryz.f19 20) (S19_20 q n i))) (fun q n i j=>some (.cut (at_ Tryz.f19 23) (S19_23 q n i j))) q n i) (by kernel_rfl) ?_
  exact (gS h (fun _ h=>(gS h (fun _ h=>(gS h (fun _ h=>(gS h (fun _ h=>gR (by cases h;rfl)) (fun _ h=>gC (t19_7 k _ _ _ r h)))) gN)) gN)) (fun _ h=>gC (t19_12 k _ _ _ r h)))
theorem t19_12:∀ (k:Nat) (q:List Pt) (n:Int) (i:Int) (r:Int),L19_12 k q n i=some r→Ends Tryz.prog Tryz.f19.results.toList (at_ Tryz.f19 12) (S19_12 q n i) (F.int .i64 r)
 | 0,_,_,_,_,h=>nomatch h
 | k+1,q,n,i,r,h=>by
  refine Ends.of_cut tyOK envK2a_ok (T:=[(7,[1,3,4],1000),(12,[1,3,5],1000),(15,[1,3,5,6],1000),(20,[1,3,7],1000),(23,[1,3,7,8],1000)]) (n:=200) ?_
  refine gE (Y:=T19_12 (fun r=>some (.ret (F.int .i64 r))) (fun q n i=>some (.cut (at_ Tryz.f19 7) (S19_7 q n i))) (fun q n i=>some (.cut (at_ Tryz.f19 12) (S19_12 q n i))) (fun q n i j=>some (.cut (at_ Tryz.f19 15) (S19_15 q n i j))) (fun q n i=>some (.cut (at_ Tryz.f19 20) (S19_20 q n i))) (fun q n i j=>some (.cut (at_ Tryz.f19 23) (S19_23 q n i j))) q n i) (by kernel_rfl) ?_
  exact (gS h (fun _ h=>gC (t19_15 k _ _ _ _ r h)) (fun _ h=>gC (t19_20 k _ _ _ r h)))
theorem t19_15:∀ (k:Nat) (q:List Pt) (n:Int) (i:Int) (j:Int) (r:Int),L19_15 k q n i j=some r→Ends Tryz.prog Tryz.f19.results.toList (at_ Tryz.f19 15) (S19_15 q n i j) (F.int .i64 r)
 | 0,_,_,_,_,_,h=>nomatch h
 | k+1,q,n,i,j,r,h=>by
  refine Ends.of_cut tyOK envK2a_ok (T:=[(7,[1,3,4],1000),(12,[1,3,5],1000),(15,[1,3,5,6],1000),(20,[1,3,7],1000),(23,[1,3,7,8],1000)]) (n:=200) ?_
  refine gE (Y:=T19_15 (fun r=>some (.ret (F.int .i64 r))) (fun q n i=>some (.cut (at_ Tryz.f19 7) (S19_7 q n i))) (fun q n i=>some (.cut (at_ Tryz.f19 12) (S19_12 q n i))) (fun q n i j=>some (.cut (at_ Tryz.f19 15) (S19_15 q n i j))) (fun q n i=>some (.cut (at_ Tryz.f19 20) (S19_20 q n i))) (fun q n i j=>some (.cut (at_ Tryz.f19 23) (S19_23 q n i j))) q n i j) (by kernel_rfl) ?_
  exact (gS h (fun _ h=>(gS h (fun _ h=>(gS h (fun _ h=>(gS h (fun _ h=>(gS h (fun _ h=>(gS h (fun _ h=>gR (by cases h;rfl)) (fun _ h=>gC (t19_15 k _ _ _ _ r h)))) gN)) gN)) gN)) gN)) (fun _ h=>gC (t19_12 k _ _ _ r h)))
theorem t19_20:∀ (k:Nat) (q:List Pt) (n:Int) (i:Int) (r:Int),L19_20 k q n i=some r→Ends Tryz.prog Tryz.f19.results.toList (at_ Tryz.f19 20) (S19_20 q n i) (F.int .i64 r)
 | 0,_,_,_,_,h=>nomatch h
 | k+1,q,n,i,r,h=>by
  refine Ends.of_cut tyOK envK2a_ok (T:=[(7,[1,3,4],1000),(12,[1,3,5],1000),(15,[1,3,5,6],1000),(20,[1,3,7],1000),(23,[1,3,7,8],1000)]) (n:=200) ?_
  refine gE (Y:=T19_20 (fun r=>some (.ret (F.int .i64 r))) (fun q n i=>some (.cut (at_ Tryz.f19 7) (S19_7 q n i))) (fun q n i=>some (.cut (at_ Tryz.f19 12) (S19_12 q n i))) (fun q n i j=>some (.cut (at_ Tryz.f19 15) (S19_15 q n i j))) (fun q n i=>some (.cut (at_ Tryz.f19 20) (S19_20 q n i))) (fun q n i j=>some (.cut (at_ Tryz.f19 23) (S19_23 q n i j))) q n i) (by kernel_rfl) ?_
  exact (gS h (fun _ h=>gC (t19_23 k _ _ _ _ r h)) (fun _ h=>gR (by cases h;rfl)))
theorem t19_23:∀ (k:Nat) (q:List Pt) (n:Int) (i:Int) (j:Int) (r:Int),L19_23 k q n i j=some r→Ends Tryz.prog Tryz.f19.results.toList (at_ Tryz.f19 23) (S19_23 q n i j) (F.int .i64 r)
 | 0,_,_,_,_,_,h=>nomatch h
 | k+1,q,n,i,j,r,h=>by
  refine Ends.of_cut tyOK envK2a_ok (T:=[(7,[1,3,4],1000),(12,[1,3,5],1000),(15,[1,3,5,6],1000),(20,[1,3,7],1000),(23,[1,3,7,8],1000)]) (n:=200) ?_
  refine gE (Y:=T19_23 (fun r=>some (.ret (F.int .i64 r))) (fun q n i=>some (.cut (at_ Tryz.f19 7) (S19_7 q n i))) (fun q n i=>some (.cut (at_ Tryz.f19 12) (S19_12 q n i))) (fun q n i j=>some (.cut (at_ Tryz.f19 15) (S19_15 q n i j))) (fun q n i=>some (.cut (at_ Tryz.f19 20) (S19_20 q n i))) (fun q n i j=>some (.cut (at_ Tryz.f19 23) (S19_23 q n i j))) q n i j) (by kernel_rfl) ?_
  exact (gS h (fun _ h=>(gS h (fun _ h=>(gS h (fun _ h=>(gS h (fun _ h=>(gS h (fun _ h=>(gS h (fun _ h=>(gS h (fun _ h=>(gS h (fun _ h=>(gS h (fun _ h=>(gS h (fun _ h=>gR (by cases h;rfl)) (fun _ h=>gC (t19_23 k _ _ _ _ r h)))) (fun _ h=>gC (t19_23 k _ _ _ _ r h)))) (fun _ h=>gR (by cases h;rfl)))) (fun _ h=>(gS h (fun _ h=>(gS h (fun _ h=>gR (by cases h;rfl)) (fun _ h=>gC (t19_23 k _ _ _ _ r h)))) (fun _ h=>gC (t19_23 k _ _ _ _ r h)))))) (fun _ h=>(gS h (fun _ h=>gR (by cases h;rfl)) (fun _ h=>gC (t19_23 k _ _ _ _ r h)))))) (fun _ h=>(gS h (fun _ h=>gC (t19_23 k _ _ _ _ r h)) (fun _ h=>gR (by cases h;rfl)))))) gN)) gN)) gN)) (fun _ h=>gC (t19_20 k _ _ _ r h)))
end
theorem t19 (k:Nat) (q:List Pt) (r:Int) (h:G19 k q=some r):Ends Tryz.prog Tryz.f19.results.toList [.code (bodyOf Tryz.f19)] (start Tryz.f19.ntmps ([F.agg [ptsF q]].map .f)) (F.int .i64 r):=by
 refine Ends.of_run tyOK envK2a_ok (T:=[(7,[1,3,4],1000),(12,[1,3,5],1000),(15,[1,3,5,6],1000),(20,[1,3,7],1000),(23,[1,3,7,8],1000)]) (n:=200) ?_
 refine gE (Y:=T19 (fun r=>some (.ret (F.int .i64 r))) (fun q n i=>some (.cut (at_ Tryz.f19 7) (S19_7 q n i))) (fun q n i=>some (.cut (at_ Tryz.f19 12) (S19_12 q n i))) (fun q n i j=>some (.cut (at_ Tryz.f19 15) (S19_15 q n i j))) (fun q n i=>some (.cut (at_ Tryz.f19 20) (S19_20 q n i))) (fun q n i j=>some (.cut (at_ Tryz.f19 23) (S19_23 q n i j))) q) (by kernel_rfl) ?_
 exact (gS h (fun _ h=>gR (by cases h;rfl)) (fun _ h=>(gS h (fun _ h=>gR (by cases h;rfl)) (fun _ h=>gC (t19_7 k _ _ _ r h)))))
theorem next_eq {n i j:Nat} (hn:n≤12) (hi:i<n) (hj:j<i):(((j:Int)==IntKind.i64.wrap ((i:Int)-1))=decide (j+1=i))∧(((j:Int)==0)=decide (j=0))∧(((i:Int)==IntKind.i64.wrap ((n:Int)-1))=decide (i+1=n)):=by
 rw [wrapI (by omega) (by omega),wrapI (by omega) (by omega)]
 refine ⟨?_,?_,?_⟩ <;> (rw [Bool.eq_iff_iff,beq_iff_eq,decide_eq_true_eq];omega)
theorem rf23_loop {q:List Pt} (h:RingIn q) {i:Nat} (hi:i<q.length) {R:Int} {K:Nat} (hout:∀ k,K≤k→L19_20 k q q.length ((i+1:Nat):Int)=some R) :
  ∀ (d j k:Nat),j+d=i→d+1+K≤k→L19_23 k q q.length i j=some (bif allUp (fun j=>!cross3 q i j) j d then R else 5)
 | d,j,0,_,hk=>by omega
 | 0,j,k+1,hj,hk=>by
  have:=h.high
  rw [L19_23]
  unfold T19_23
  rw [decide_eq_false (show ¬ (j:Int)<i by omega),bsel_false,wrapI (by omega) (by omega),show (i:Int)+1=((i+1:Nat):Int) by omega,hout k (by omega)]
  rfl
 | d+1,j,k+1,hj,hk=>by
  have hh:=h.high
  have ih:=rf23_loop h hi hout d (j+1) k (by omega) (by omega)
  have wj:IntKind.i64.wrap ((j:Int)+1)=((j+1:Nat):Int):=by rw [wrapI (by omega) (by omega)];omega
  have si:=side_ok h hi
  have sj:=side_ok h (show j<q.length by omega)
  unfold okS at si sj
  obtain ⟨n1,n2,n3⟩:=next_eq h.high hi (show j<i by omega)
  have hc:cross3 q i j=bad3 (kind3V (sideAt q i).x0 (sideAt q i).y0 (sideAt q i).x1 (sideAt q i).y1 (sideAt q j).x0 (sideAt q j).y0 (sideAt q j).x1 (sideAt q j).y1) (decide (j+1=i) || (decide (j=0)&&decide (i+1=q.length))):=rfl
  rw [L19_23]
  unfold T19_23
  simp only [decide_eq_true (show (j:Int)<i by omega),unRing_agg,isRing_agg,isAt_iff.2 ⟨⟨show (0:Int)≤i by omega,show (i:Int)<q.length by omega⟩,show q.length≤1000 by omega⟩,isAt_iff.2 ⟨⟨show (0:Int)≤j by omega,show (j:Int)<q.length by omega⟩,show q.length≤1000 by omega⟩,Int.toNat_natCast,si,sj,n1,n2,n3,wj,ih,Bool.and_self,bsel_true]
  rw [allUp_cut,hc]
  unfold bad3
  cases decide (j+1=i) <;> cases decide (j=0) <;> cases decide (i+1=q.length) <;> cases (kind3V (sideAt q i).x0 (sideAt q i).y0 (sideAt q i).x1 (sideAt q i).y1 (sideAt q j).x0 (sideAt q j).y0 (sideAt q j).x1 (sideAt q j).y1 != 1) <;> cases (kind3V (sideAt q i).x0 (sideAt q i).y0 (sideAt q i).x1 (sideAt q i).y1 (sideAt q j).x0 (sideAt q j).y0 (sideAt q j).x1 (sideAt q j).y1 != 0) <;> rfl
theorem rf20_loop {q:List Pt} (h:RingIn q):∀ (d i k:Nat),i+d=q.length→15*d+1≤k→L19_20 k q q.length i=some (bif triFree (cross3 q) i d then 0 else 5)
 | d,i,0,_,hk=>by omega
 | 0,i,k+1,hi,hk=>by
  rw [L19_20]
  unfold T19_20
  rw [decide_eq_false (show ¬ (i:Int)<q.length by omega)]
  rfl
 | d+1,i,k+1,hi,hk=>by
  have:=h.high
  have ih:=rf23_loop h (i:=i) (by omega) (K:=15*d+1) (fun k hk=>rf20_loop h d (i+1) k (by omega) hk) i 0 k (by omega) (by omega)
  rw [L19_20]
  unfold T19_20
  rw [decide_eq_true (show (i:Int)<q.length by omega),bsel_true]
  refine ih.trans ?_
  unfold triFree
  rw [allUp_cut]
  cases allUp (fun j=>!cross3 q i j) 0 i <;> rfl
theorem rf15_loop {q:List Pt} (hn:q.length≤12) {i:Nat} (hi:i<q.length) {R:Int} {K:Nat} (hout:allUp (fun j=>!samePt q i j) 0 i=true→∀ k,K≤k→L19_12 k q q.length ((i+1:Nat):Int)=some R) :
  ∀ (d j k:Nat),j+d=i→d+1+K≤k→allUp (fun j=>!samePt q i j) 0 i=allUp (fun j=>!samePt q i j) j d→L19_15 k q q.length i j=some (bif allUp (fun j=>!samePt q i j) j d then R else 4)
 | d,j,0,_,hk,_=>by omega
 | 0,j,k+1,hj,hk,he=>by
  rw [L19_15]
  unfold T19_15
  rw [decide_eq_false (show ¬ (j:Int)<i by omega),bsel_false,wrapI (by omega) (by omega),show (i:Int)+1=((i+1:Nat):Int) by omega,hout he k (by omega)]
  rfl
 | d+1,j,k+1,hj,hk,he=>by
  have wj:IntKind.i64.wrap ((j:Int)+1)=((j+1:Nat):Int):=by rw [wrapI (by omega) (by omega)];omega
  have hs:samePt q i j=((q.getD i .zero).x==(q.getD j .zero).x&&(q.getD i .zero).y==(q.getD j .zero).y):=rfl
  rw [L19_15]
  unfold T19_15
  simp only [decide_eq_true (show (j:Int)<i by omega),decide_eq_true (show (0:Int)≤i by omega),decide_eq_true (show (i:Int)<q.length by omega),decide_eq_true (show (0:Int)≤j by omega),decide_eq_true (show (j:Int)<q.length by omega),Int.toNat_natCast,wj,Bool.and_true,bsel_true]
  rw [← hs]
  rw [allUp_cut] at he ⊢
  cases hc:samePt q i j with
  | true=>rfl
  | false =>
   rw [hc] at he
   rw [bsel_false,rf15_loop hn hi hout d (j+1) k (by omega) (by omega) he]
   rfl
theorem rf12_loop {q:List Pt} (hn:q.length≤12) {R:Int} {K:Nat} (hout:triFree (samePt q) 0 q.length=true→∀ k,K≤k→L19_20 k q q.length 0=some R) :
  ∀ (d i k:Nat),i+d=q.length→15*d+1+K≤k→(triFree (samePt q) i d=true→triFree (samePt q) 0 q.length=true)→L19_12 k q q.length i=some (bif triFree (samePt q) i d then R else 4)
 | d,i,0,_,hk,_=>by omega
 | 0,i,k+1,hi,hk,he=>by
  rw [L19_12]
  unfold T19_12
  rw [decide_eq_false (show ¬ (i:Int)<q.length by omega),bsel_false,hout (he rfl) k (by omega)]
  rfl
 | d+1,i,k+1,hi,hk,he=>by
  have cut:triFree (samePt q) i (d+1)=(allUp (fun j=>!samePt q i j) 0 i&&triFree (samePt q) (i+1) d):=rfl
  have ih:=rf15_loop hn (i:=i) (by omega) (R:=bif triFree (samePt q) (i+1) d then R else 4) (K:=15*d+1+K) (fun hc k hk=>rf12_loop hn hout d (i+1) k (by omega) hk fun ht=>he (by rw [cut,hc,ht];rfl)) i 0 k (by omega) (by omega) rfl
  rw [L19_12]
  unfold T19_12
  rw [decide_eq_true (show (i:Int)<q.length by omega),bsel_true,cut]
  refine ih.trans ?_
  cases allUp (fun j=>!samePt q i j) 0 i <;> rfl
theorem rf7_loop {q:List Pt} (hn:q.length≤12) {R:Int} {K:Nat} (hout:(q.all fun p=>spotOkV p.x p.y)=true→∀ k,K≤k→L19_12 k q q.length 0=some R) :
  ∀ (d i k:Nat),i+d=q.length→d+1+K≤k→((q.drop i).all (fun p=>spotOkV p.x p.y)=true→(q.all fun p=>spotOkV p.x p.y)=true)→L19_7 k q q.length i=some (bif (q.drop i).all fun p=>spotOkV p.x p.y then R else 3)
 | d,i,0,_,hk,_=>by omega
 | 0,i,k+1,hi,hk,he=>by
  rw [List.drop_eq_nil_of_le (by omega)] at he ⊢
  rw [L19_7]
  unfold T19_7
  rw [decide_eq_false (show ¬ (i:Int)<q.length by omega),bsel_false,hout (he rfl) k (by omega)]
  rfl
 | d+1,i,k+1,hi,hk,he=>by
  have hlt:i<q.length:=by omega
  have hg:q.getD i Pt.zero=q[i]:=by simp [List.getD,List.getElem?_eq_getElem hlt]
  rw [List.drop_eq_getElem_cons hlt,List.all_cons] at he ⊢
  rw [L19_7]
  unfold T19_7
  rw [decide_eq_true (show (i:Int)<q.length by omega),decide_eq_true (show (0:Int)≤i by omega),Int.toNat_natCast,hg,wrapI (by omega) (by omega),show (i:Int)+1=((i+1:Nat):Int) by omega]
  simp only [bsel_true]
  cases ho:spotOkV q[i].x q[i].y with
  | false=>rfl
  | true =>
   rw [Bool.not_true,bsel_false,rf7_loop hn hout d (i+1) k (by omega) (by omega) fun ht=>he (by rw [ho,ht];rfl)]
   rfl
theorem fault3_law (q:List Pt):G19 600 q=some (fault3V q):=by
 unfold G19 T19 fault3V faultBy
 by_cases h1:q.length<3
 ·rw [decide_eq_true (show (q.length:Int)<3 by omega),decide_eq_true h1];rfl
 ·by_cases h2:q.length > 12
  ·rw [decide_eq_false (show ¬ (q.length:Int)<3 by omega),decide_eq_false h1,decide_eq_true (show (q.length:Int) > 12 by omega),decide_eq_true h2];rfl
  ·rw [decide_eq_false (show ¬ (q.length:Int)<3 by omega),decide_eq_false h1,decide_eq_false (show ¬ (q.length:Int) > 12 by omega),decide_eq_false h2]
   have:=rf7_loop (q:=q) (by omega) (R:=bif triFree (samePt q) 0 q.length then (bif triFree (cross3 q) 0 q.length then 0 else 5) else 4) (K:=400) (fun h3 k hk=>rf12_loop (by omega) (R:=bif triFree (cross3 q) 0 q.length then 0 else 5) (K:=190) (fun h4 k hk=>rf20_loop (ringIn_of h1 h2 h3 h4) q.length 0 k (by omega) (by omega)) q.length 0 k (by omega) (by omega) id) q.length 0 600 (by omega) (by omega) id
   refine this.trans ?_
   rw [List.drop_zero]
   cases (q.all fun p=>spotOkV p.x p.y) <;> cases triFree (samePt q) 0 q.length <;> cases triFree (cross3 q) 0 q.length <;> rfl
def preRg:List F→Bool | [x]=>isRing x | _=>false
def resFault3:List F→F | [x]=>.int .i64 (fault3V (unRing x)) | _=>.dflt
theorem okFault3:PureOK Tryz.prog 19 preRg resFault3 :=
 fn_pure_at (c:=bodyOf Tryz.f19) Tryz.func19 (by kernel_rfl) (by kernel_rfl) fun xs hp=>match xs,hp with
 | [x],hp=>⟨[ringF (unRing x)],_,⟨(ring_eqv hp).1,trivial⟩,t19 600 _ _ (fault3_law _),.refl _⟩
def envK2:Env:=envK2a.add 19 (.pure preRg resFault3)
theorem envK2_ok:EnvOK Tryz.prog envK2:=(Env.add_ok envK2a_ok okFault3.sp)
end
end Go.Proofs.YtkjjmmgddehbhaaGreat.R
