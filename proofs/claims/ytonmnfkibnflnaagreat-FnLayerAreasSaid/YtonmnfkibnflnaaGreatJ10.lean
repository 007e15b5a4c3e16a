/-
 The own walk and what it shows,part 10 of 10.
-/
import Derived.Test.YtonmnfkibnflnaaGreatJ1
import Derived.Test.YtonmnfkibnflnaaGreatJ2
import Derived.Test.YtonmnfkibnflnaaGreatJ3
import Derived.Test.YtonmnfkibnflnaaGreatJ4
import Derived.Test.YtonmnfkibnflnaaGreatJ5
import Derived.Test.YtonmnfkibnflnaaGreatJ6
import Derived.Test.YtonmnfkibnflnaaGreatJ7
import Derived.Test.YtonmnfkibnflnaaGreatJ8
import Derived.Test.YtonmnfkibnflnaaGreatJ9
set_option linter.unusedVariables false
set_option linter.unusedSimpArgs false
set_option maxRecDepth 100000
set_option exponentiation.threshold 30000
namespace Go.Proofs.YtonmnfkibnflnaaGreat.R
open Go
theorem Ny {X Y M:Nat→Int} {n:Nat} (h:Grid X Y M n) {i:Nat} (hi:i<n):X ((i+1) % n)=X (i+1)∧Y ((i+1) % n)=Y (i+1):=by
 by_cases h1:i+1<n
 ·rw [Nat.mod_eq_of_lt h1];exact ⟨rfl,rfl⟩
 ·have e:i+1=n:=by omega
  have p1:=h.px 0
  have p2:=h.py 0
  rw [Nat.zero_add] at p1 p2
  rw [e,Nat.mod_self];exact ⟨p1.symm,p2.symm⟩
theorem sK {X Y M:Nat→Int} {n:Nat} (h:Grid X Y M n):∃ i,i<n∧Y i ≠ Y (i+1):=by
 apply Classical.byContradiction
 intro hno
 have n3:=h.n3
 have hy:∀ i,Y i=Y 0:=by
  intro i
  induction i using Nat.strongRecOn with
  | _ i ih =>
   rcases i with _ | i
   ·rfl
   ·by_cases c:i<n
    ·have:Y i=Y (i+1):=Classical.byContradiction fun q=>hno ⟨i,c,q⟩
     rw [← this];exact ih i (by omega)
    ·have e:i+1=i+1-n+n:=by omega
     rw [e,h.py];exact ih _ (by omega)
 have hk:∀ i,upK (X i) (Y i) (X (i+1)) (Y (i+1))=decide (X i<X (i+1)):=fun i=>by
  unfold upK
  rw [hy i,hy (i+1)]
  simp
 have hb:∀ i,decide (X i<X (i+1))=decide (X 0<X 1):=by
  intro i
  induction i with
  | zero=>rfl
  | succ i ih =>
   have:=h.turn i (by unfold AK;rw [hy i,hy (i+1),hy (i+2),Int.sub_self];simp)
   rw [hk i] at this
   have k2:=hk (i+1)
   have e:i+1+1=i+2:=rfl
   rw [e] at k2 ⊢
   rw [← k2,← this,ih]
 have pn:=h.px 0
 rw [Nat.zero_add] at pn
 by_cases c:X 0<X 1
 ·have up:∀ i,X 0+i≤X i:=by
   intro i
   induction i with
   | zero=>simp
   | succ i ih =>
    have:=hb i
    rw [decide_eq_true c,decide_eq_true_eq] at this
    omega
  have:=up n
  omega
 ·have dn:∀ i,X i+i≤X 0:=by
   intro i
   induction i with
   | zero=>simp
   | succ i ih =>
    have h1:=hb i
    rw [decide_eq_false c,decide_eq_false_iff_not] at h1
    have h2:=h.ne i
    rw [hy i,hy (i+1)] at h2
    omega
  have:=dn n
  omega
structure Lay (m:Nat) (XX YY MM:Nat→Nat→Int) (nn:Nat→Nat):Prop where
 g:∀ r,r<m→Grid (XX r) (YY r) (MM r) (nn r)
 ap:∀ r s,r<m→s<m→r ≠ s→∀ i,i<nn r→∀ j,j<nn s→DM (XX r i) (YY r i) (XX r ((i+1) % nn r)) (YY r ((i+1) % nn r)) (XX s j) (YY s j) (XX s ((j+1) % nn s)) (YY s ((j+1) % nn s))
section
variable {m:Nat} {XX YY MM:Nat→Nat→Int} {nn:Nat→Nat} (h:Lay m XX YY MM nn) {dep:Nat→Nat}
 (hdl:∀ r s,r<m→s<m→(r != s&&Bw (XX s) (YY s) (nn s) (XX r 0) (YY r 0))=true→dep s<dep r)
include h hdl
omit hdl in
theorem QW {r s:Nat} (hr:r<m) (hs:s<m) (hrs:r ≠ s):∀ j,j<nn r→Bw (XX s) (YY s) (nn s) (XX r j) (YY r j)=Bw (XX s) (YY s) (nn s) (XX r 0) (YY r 0) :=
 RN fun j hj i hi=>(h.ap r s hr hs hrs j hj i hi).1
theorem mI {r s:Nat} (hr:r<m) (hs:s<m) {px py:Int} (h1:Bw (XX r) (YY r) (nn r) px py=true) (hR:(r != s&&Bw (XX s) (YY s) (nn s) (XX r 0) (YY r 0))=true):Bw (XX s) (YY s) (nn s) px py=true:=by
 have hR':=hR
 rw [Bool.and_eq_true,bne_iff_ne] at hR'
 refine Tv (h.ap r s hr hs hR'.1) (h.ap s r hs hr (fun e=>hR'.1 e.symm)) h1 (fun j hj=>by rw [QW h hr hs hR'.1 j hj];exact hR'.2) fun i hi=>?_
 rw [QW h hs hr (fun e=>hR'.1 e.symm) i hi]
 cases hc:Bw (XX r) (YY r) (nn r) (XX s 0) (YY s 0) with
 | false=>rfl
 | true =>
  have d1:=hdl r s hr hs hR
  have d2:=hdl s r hs hr (by rw [hc,Bool.and_true];exact bne_iff_ne.2 fun e=>hR'.1 e.symm)
  omega
omit hdl in
theorem tC {r s:Nat} (hr:r<m) (hs:s<m) (hrs:r ≠ s) {px py:Int} (h1:Bw (XX r) (YY r) (nn r) px py=true) (h2:Bw (XX s) (YY s) (nn s) px py=true) :
  (r != s&&Bw (XX s) (YY s) (nn s) (XX r 0) (YY r 0))=true ∨ (s != r&&Bw (XX r) (YY r) (nn r) (XX s 0) (YY s 0))=true:=by
 rcases rL (h.ap r s hr hs hrs) (h.ap s r hs hr (fun e=>hrs e.symm)) h1 h2 with ⟨j,hj,q⟩ | ⟨i,hi,q⟩
 ·left
  rw [QW h hr hs hrs j hj] at q
  rw [q,Bool.and_true];exact bne_iff_ne.2 hrs
 ·right
  rw [QW h hs hr (fun e=>hrs e.symm) i hi] at q
  rw [q,Bool.and_true];exact bne_iff_ne.2 fun e=>hrs e.symm
theorem VE (hd:∀ r,r<m→((dep r:Nat):Int)=Aj (fun s=>bI (r != s&&Bw (XX s) (YY s) (nn s) (XX r 0) (YY r 0))) m) (px py:Int) {c:Nat} (hc:Aj (fun r=>bI (Bw (XX r) (YY r) (nn r) px py)) m=c) :
  Aj (fun r=>I4 (dep r)*bI (Bw (XX r) (YY r) (nn r) px py)) m=((c % 2:Nat):Int) :=
 Vl (R:=fun r s=>r != s&&Bw (XX s) (YY s) (nn s) (XX r 0) (YY r 0)) hd (fun r s hr hs=>hdl r s hr hs) c _ hc (fun r s hr hs h1 hR=>mI h hdl hr hs h1 hR) fun r s hr hs hrs h1 h2=>tC h hr hs hrs h1 h2
omit hdl in
theorem lay_tie {r s i j:Nat} (hr:r<m) (hs:s<m) (hrs:r ≠ s) (hi:i<nn r) (hj:j<nn s) {y:Int} (h1:crS (YY r) i y ≠ 0) (h2:crS (YY s) j y ≠ 0) (e:zAt (XX r) (YY r) (MM r) i y=zAt (XX s) (YY s) (MM s) j y):False:=by
 have o1:=Nu (h.g r hr) h1
 have o2:=Nu (h.g s hs) h2
 rw [← e] at o2
 have a:=h.ap r s hr hs hrs i hi j hj
 rw [(Ny (h.g r hr) hi).1,(Ny (h.g r hr) hi).2,(Ny (h.g s hs) hj).1,(Ny (h.g s hs) hj).2] at a
 exact Tz a o1 o2 (LU h1) (LU h2)
omit hdl in
theorem iS {B:Nat} (hB:∀ r,r<m→∀ i,-(B:Int)≤XX r i∧XX r i≤B) {y:Int}:∀ (d r i:Nat),r<m→i<nn r→crS (YY r) i y ≠ 0→(B:Int)-zAt (XX r) (YY r) (MM r) i y≤d →
  ∃ r i,r<m∧i<nn r∧crS (YY r) i y ≠ 0∧∀ s j,s<m→j<nn s→crS (YY s) j y ≠ 0→zAt (XX s) (YY s) (MM s) j y≤zAt (XX r) (YY r) (MM r) i y
 | 0,r,i,hr,hi,hc,hz=>⟨r,i,hr,hi,hc,fun s j hs hj hcs=>by
  have:=(oL (h.g s hs) (hB s hs) hcs).2
  omega⟩
 | d+1,r,i,hr,hi,hc,hz=>by
  by_cases hall:∀ s j,s<m→j<nn s→crS (YY s) j y ≠ 0→zAt (XX s) (YY s) (MM s) j y≤zAt (XX r) (YY r) (MM r) i y
  ·exact ⟨r,i,hr,hi,hc,hall⟩
  ·obtain ⟨s,hall⟩:=Classical.not_forall.1 hall
   obtain ⟨j,hall⟩:=Classical.not_forall.1 hall
   obtain ⟨hs,hall⟩:=Classical.not_forall.1 hall
   obtain ⟨hj,hall⟩:=Classical.not_forall.1 hall
   obtain ⟨hcs,hall⟩:=Classical.not_forall.1 hall
   exact iS hB d s j hs hj hcs (by omega)
omit hdl in
theorem lay_top {B H:Nat} (hB:∀ r,r<m→∀ i,-(B:Int)≤XX r i∧XX r i≤B) (hH:∀ r,r<m→∀ i,-(2*(H:Int))≤YY r i∧YY r i≤2*(H:Int)) (hm:0<m) :
  ∃ k j,k<2*H∧j<2*(B+1)∧Aj (fun r=>bI (Bw (XX r) (YY r) (nn r) ((j:Int)-((B+1:Nat):Int)) (Co H k))) m=(1:Nat):=by
 obtain ⟨i0,hi0,hne⟩:=sK (h.g 0 hm)
 have v1:=(h.g 0 hm).even i0
 have v2:=(h.g 0 hm).even (i0+1)
 have b1:=hH 0 hm i0
 have b2:=hH 0 hm (i0+1)
 obtain ⟨k,hk,hrow⟩:∃ k:Nat,k<2*H∧crS (YY 0) i0 (Co H k) ≠ 0:=by
  rcases Int.lt_or_le (YY 0 i0) (YY 0 (i0+1)) with c | c
  ·refine ⟨((YY 0 i0+2*H) / 2).toNat,by omega,?_⟩
   rcases Dt (YY 0) i0 (Co H ((YY 0 i0+2*H) / 2).toNat) with ⟨p,q,e⟩ | ⟨p,q,e⟩ | ⟨p,q,e⟩
   ·omega
   ·omega
   ·unfold Co at p;omega
  ·refine ⟨((YY 0 (i0+1)+2*H) / 2).toNat,by omega,?_⟩
   rcases Dt (YY 0) i0 (Co H ((YY 0 (i0+1)+2*H) / 2).toNat) with ⟨p,q,e⟩ | ⟨p,q,e⟩ | ⟨p,q,e⟩
   ·omega
   ·omega
   ·unfold Co at q;omega
 have hodd:Co H k % 2=1:=by unfold Co;omega
 obtain ⟨y,hyk⟩:∃ y,Co H k=y:=⟨_,rfl⟩
 rw [hyk] at hrow hodd
 obtain ⟨r,i,hr,hi,hc,hmax⟩:=iS h hB ((B:Int)-zAt (XX 0) (YY 0) (MM 0) i0 y).toNat 0 i0 hm hi0 hrow (by omega)
 have zr:=oL (h.g r hr) (hB r hr) hc
 have hx:(((zAt (XX r) (YY r) (MM r) i y-1+((B+1:Nat):Int)).toNat:Nat):Int)-((B+1:Nat):Int)=zAt (XX r) (YY r) (MM r) i y-1:=by omega
 refine ⟨k,(zAt (XX r) (YY r) (MM r) i y-1+((B+1:Nat):Int)).toNat,hk,by omega,?_⟩
 rw [hx,hyk]
 rw [JM m hr fun s hs hsr=>?_]
 ·have st:=TN (h.g r hr) (x:=zAt (XX r) (YY r) (MM r) i y-1) hodd
  have e1:zAt (XX r) (YY r) (MM r) i y-1+1=zAt (XX r) (YY r) (MM r) i y:=by omega
  rw [e1,Qf (h.g r hr) hodd (x:=zAt (XX r) (YY r) (MM r) i y),DG (nn r) fun j hj=>?_,JM (nn r) hi fun j hj hji=>?_,decide_eq_true rfl] at st
  ·have p:=Qg (h.g r hr) (zAt (XX r) (YY r) (MM r) i y-1) y
   rw [← p,st]
   rcases Dt (YY r) i y with ⟨_,_,e⟩ | ⟨_,_,e⟩ | ⟨_,_,e⟩
   ·rw [e];rfl
   ·rw [e];rfl
   ·exact absurd e hc
  ·by_cases cj:crS (YY r) j y=0
   ·rw [cj,Int.zero_mul]
   ·rw [decide_eq_false fun z=>sL (h.g r hr) hj hi hji cj hc z];exact Int.mul_zero _
  ·by_cases cj:crS (YY r) j y=0
   ·rw [cj,Int.zero_mul]
   ·have:=hmax r j hr hj cj
    rw [decide_eq_false (by omega)];exact Int.mul_zero _
 ·have z:GB (XX s) (YY s) (nn s) (zAt (XX r) (YY r) (MM r) i y-1) y=0:=by
   rw [Qf (h.g s hs) hodd]
   refine DG (nn s) fun j hj=>?_
   by_cases cj:crS (YY s) j y=0
   ·rw [cj,Int.zero_mul]
   ·have h1:=hmax s j hs hj cj
    have h2:zAt (XX s) (YY s) (MM s) j y ≠ zAt (XX r) (YY r) (MM r) i y:=fun e=>lay_tie h hs hr hsr hj hi cj hc e
    rw [decide_eq_false (by omega)];exact Int.mul_zero _
  have p:=Qg (h.g s hs) (zAt (XX r) (YY r) (MM r) i y-1) y
  rw [z] at p
  rw [← p];rfl
theorem lay_pos {B H:Nat} (hd:∀ r,r<m→((dep r:Nat):Int)=Aj (fun s=>bI (r != s&&Bw (XX s) (YY s) (nn s) (XX r 0) (YY r 0))) m)
  (hB:∀ r,r<m→∀ i,-(B:Int)≤XX r i∧XX r i≤B) (hH:∀ r,r<m→∀ i,-(2*(H:Int))≤YY r i∧YY r i≤2*(H:Int)) (hm:0<m) :
  0<Aj (fun r=>I4 (dep r)*((P1 (XX r) (YY r) (nn r)).natAbs:Int)) m:=by
 have hB':∀ r,r<m→∀ i,-((B+1:Nat):Int)≤XX r i∧XX r i≤((B+1:Nat):Int):=fun r hr i=>by have:=hB r hr i;omega
 have e:Aj (fun r=>I4 (dep r)*((P1 (XX r) (YY r) (nn r)).natAbs:Int)) m =
   4*Aj (fun k=>Aj (fun j=>Aj (fun r=>I4 (dep r)*bI (Bw (XX r) (YY r) (nn r) ((j:Int)-((B+1:Nat):Int)) (Co H k))) m) (2*(B+1))) (2*H):=by
  have e1:∀ k,Aj (fun j=>Aj (fun r=>I4 (dep r)*bI (Bw (XX r) (YY r) (nn r) ((j:Int)-((B+1:Nat):Int)) (Co H k))) m) (2*(B+1))=Aj (fun r=>I4 (dep r)*Aj (fun j=>bI (Bw (XX r) (YY r) (nn r) ((j:Int)-((B+1:Nat):Int)) (Co H k))) (2*(B+1))) m:=fun k=>by
   rw [ID]
   exact A9 m fun r _=>DP _ _ _
  rw [A9 (2*H) fun k _=>e1 k,ID,← DP]
  refine A9 m fun r hr=>?_
  rw [oA (h.g r hr) (hB' r hr) (hH r hr),DP]
  generalize Aj (fun k=>Aj (fun j=>bI (Bw (XX r) (YY r) (nn r) ((j:Int)-((B+1:Nat):Int)) (Co H k))) (2*(B+1))) (2*H)=S
  grind
 rw [e]
 have nn0:∀ px py,∃ c:Nat,Aj (fun r=>bI (Bw (XX r) (YY r) (nn r) px py)) m=c:=fun px py=>by
  have:=D4 m fun r _=>Vr (Bw (XX r) (YY r) (nn r) px py)
  exact ⟨(Aj (fun r=>bI (Bw (XX r) (YY r) (nn r) px py)) m).toNat,by omega⟩
 have nn1:∀ px py,0≤Aj (fun r=>I4 (dep r)*bI (Bw (XX r) (YY r) (nn r) px py)) m:=fun px py=>by
  obtain ⟨c,hc⟩:=nn0 px py
  rw [VE h hdl hd px py hc];omega
 obtain ⟨k,j,hk,hj,h1⟩:=lay_top h hB hH hm
 have:=Oi (f:=fun k=>Aj (fun j=>Aj (fun r=>I4 (dep r)*bI (Bw (XX r) (YY r) (nn r) ((j:Int)-((B+1:Nat):Int)) (Co H k))) m) (2*(B+1))) (2*H) (fun k _=>D4 _ fun j _=>nn1 _ _)
  ⟨k,hk,Oi (2*(B+1)) (fun j _=>nn1 _ _) ⟨j,hj,by rw [VE h hdl hd _ _ h1];decide⟩⟩
 omega
end
noncomputable section
theorem Ra {n:Nat} (i:Nat) {t:Nat} (ht:t<n):((i+t) % n=i % n+t∧i % n+t<n) ∨ ((i+t) % n+n=i % n+t):=by
 have hn:i % n<n:=Nat.mod_lt _ (by omega)
 rw [← Nat.mod_add_mod]
 by_cases h:i % n+t<n
 ·exact .inl ⟨Nat.mod_eq_of_lt h,h⟩
 ·right
  rw [Nat.mod_eq_sub_mod (by omega),Nat.mod_eq_of_lt (by omega)]
  omega
theorem TT {q:List Pt} (h:A3 q=true) {i j:Nat} (hi:i<q.length) (hj:j<i):Es q i j=false:=by
 have h0:CK q=0:=eq_of_beq h
 unfold CK It at h0
 cases h5:BI (Es q) 0 q.length with
 | true=>exact QP.1 h5 i hi j hj
 | false =>
  exfalso
  rw [h5] at h0
  revert h0
  cases decide (q.length<3) <;> cases decide (q.length > 12) <;> cases (q.all fun p=>By p.x p.y) <;> cases BI (Bl q) 0 q.length <;> simp
theorem Tf {q:List Pt} (h:A3 q=true) {i j:Nat} (hi:i<q.length) (hj:j<i) (hs:IG q.length i j=false):¬ Pr (AO q i) (AO q j):=by
 have hq:=CU h
 have hk:=Jc (Dj hq hi) (Dj hq (show j<q.length by omega))
 have hc:=TT h hi hj
 unfold Es nX at hc
 rw [hs,cond_false,bne_eq_false_iff_eq] at hc
 exact fun hm=>hk.2.1.2 hm hc
theorem Q4 {q:List Pt} (h:A3 q=true) {i j:Nat} (hi:i<q.length) (hj:j<i) (hs:IG q.length i j=true) :
  ¬ Dx (AO q i).x0 (AO q i).y0 (AO q i).x1 (AO q i).y1 (AO q j).x0 (AO q j).y0 (AO q j).x1 (AO q j).y1:=by
 have hq:=CU h
 have hk:=Jc (Dj hq hi) (Dj hq (show j<q.length by omega))
 have hc:=TT h hi hj
 unfold Es nX at hc
 rw [hs,cond_true,bne_eq_false_iff_eq] at hc
 intro hm
 have:=hk.2.2.2 hm
 have e:k3 (AO q i) (AO q j)=2:=this
 omega
theorem qG {q:List Pt} (h:A3 q=true) {a b:Nat} (ha:a<q.length) (hb:b<q.length) (h1:a ≠ b) (h2:(a+1) % q.length ≠ b) (h3:(b+1) % q.length ≠ a) :
  DM (rx q a) (ry q a) (rx q ((a+1) % q.length)) (ry q ((a+1) % q.length)) (rx q b) (ry q b) (rx q ((b+1) % q.length)) (ry q ((b+1) % q.length)):=by
 have hq:=CU h
 have low:=hq.low
 obtain ⟨r1,e1⟩:=Cq hq ha
 obtain ⟨r2,e2⟩:=Cq hq hb
 have nx:∀ i j,i<q.length→j<i→(i+1) % q.length ≠ j→(j+1) % q.length ≠ i→IG q.length i j=false:=fun i j hi hj g1 g2=>by
  unfold IG
  rw [Nat.mod_eq_of_lt (show j+1<q.length by omega)] at g2
  rw [Bool.or_eq_false_iff,Bool.and_eq_false_iff]
  refine ⟨decide_eq_false g2,?_⟩
  by_cases c:i+1=q.length
  ·left
   rw [c,Nat.mod_self] at g1
   exact decide_eq_false fun e=>g1 e.symm
  ·exact .inr (decide_eq_false c)
 have hno:¬ Pr (AO q a) (AO q b):=by
  rcases Nat.lt_or_ge b a with c | c
  ·exact Tf h ha c (nx a b ha c h2 h3)
  ·have:=Tf h hb (show a<b by omega) (nx b a hb (by omega) h3 h2)
   exact fun hm=>this ((IM r1 r2).1 hm)
 have:=OP r1 r2 hno
 rcases e1 with e1 | e1 <;> rcases e2 with e2 | e2 <;> rw [e1,e2] at this
 ·exact this
 ·exact Gf this
 ·exact Gg this
 ·exact Gg (Gf this)
theorem TZ {dx dy ex ey:Int} (e:dx*ey=dy*ex) (h1:0<dx ∨ (dx=0∧0<dy)) (h2:0<ex ∨ (ex=0∧0<ey)):((dy<0 ∨ (dy=0∧0<dx)) ↔ (ey<0 ∨ (ey=0∧0<ex)))∧((0<dy ∨ (dy=0∧dx<0)) ↔ (0<ey ∨ (ey=0∧ex<0))):=by
 rcases h1 with h1 | ⟨rfl,h1⟩
 ·rcases h2 with h2 | ⟨rfl,h2⟩
  ·have:=EN h1 h2 (show dx*ey=ex*dy by rw [e,Int.mul_comm])
   omega
  ·have:=Int.mul_pos h1 h2
   rw [Int.mul_zero] at e
   omega
 ·rw [Int.zero_mul] at e
  have ez:ex=0:=by
   rcases Int.mul_eq_zero.1 e.symm with z | z
   ·omega
   ·exact z
  subst ez
  omega
theorem pV {ax ay bx bY cx cy:Int} (hz:AK ax ay bx bY cx cy=0) (h:(BP ax ay bx bY∧BP bx bY cx cy) ∨ (BP bx bY ax ay∧BP cx cy bx bY)):upK ax ay bx bY=upK bx bY cx cy:=by
 have e:(bx-ax)*(cy-bY)=(bY-ay)*(cx-bx):=by unfold AK at hz;grind
 have e':(ax-bx)*(bY-cy)=(ay-bY)*(bx-cx):=by grind
 have key:(upK ax ay bx bY=true ↔ upK bx bY cx cy=true):=by
  unfold upK
  unfold BP at h
  simp only [Bool.or_eq_true,Bool.and_eq_true,decide_eq_true_eq]
  rcases h with ⟨h1,h2⟩ | ⟨h1,h2⟩
  ·have:=TZ e (by omega) (by omega)
   omega
  ·have:=TZ e' (by omega) (by omega)
   omega
 cases h1:upK ax ay bx bY <;> cases h2:upK bx bY cx cy <;> rw [h1,h2] at key <;> simp at key ⊢
theorem lJ {q:List Pt} (h:A3 q=true) {a:Nat} (ha:a<q.length) (hz:AK (rx q a) (ry q a) (rx q ((a+1) % q.length)) (ry q ((a+1) % q.length)) (rx q (((a+1) % q.length+1) % q.length)) (ry q (((a+1) % q.length+1) % q.length))=0) :
  upK (rx q a) (ry q a) (rx q ((a+1) % q.length)) (ry q ((a+1) % q.length))=upK (rx q ((a+1) % q.length)) (ry q ((a+1) % q.length)) (rx q (((a+1) % q.length+1) % q.length)) (ry q (((a+1) % q.length+1) % q.length)):=by
 have hq:=CU h
 have low:=hq.low
 obtain ⟨n1,hb⟩:=Ir ha low
 obtain ⟨r1,e1⟩:=Cq hq ha
 obtain ⟨r2,e2⟩:=Cq hq hb
 have hs:¬ Dx (AO q a).x0 (AO q a).y0 (AO q a).x1 (AO q a).y1 (AO q ((a+1) % q.length)).x0 (AO q ((a+1) % q.length)).y0 (AO q ((a+1) % q.length)).x1 (AO q ((a+1) % q.length)).y1 ∨
   ¬ Dx (AO q ((a+1) % q.length)).x0 (AO q ((a+1) % q.length)).y0 (AO q ((a+1) % q.length)).x1 (AO q ((a+1) % q.length)).y1 (AO q a).x0 (AO q a).y0 (AO q a).x1 (AO q a).y1:=by
  by_cases c:a+1<q.length
  ·right
   rw [Nat.mod_eq_of_lt c]
   refine Q4 h c (by omega) ?_
   unfold IG
   rw [decide_eq_true rfl];rfl
  ·left
   have e:a+1=q.length:=by omega
   rw [e,Nat.mod_self]
   refine Q4 h ha (by omega) ?_
   unfold IG
   rw [decide_eq_true e];simp
 refine pV hz ?_
 generalize rx q a=ax at *
 generalize ry q a=ay at *
 generalize rx q ((a+1) % q.length)=bx at *
 generalize ry q ((a+1) % q.length)=bY at *
 generalize rx q (((a+1) % q.length+1) % q.length)=cx at *
 generalize ry q (((a+1) % q.length+1) % q.length)=cy at *
 generalize AO q a=S at *
 generalize AO q ((a+1) % q.length)=T at *
 have z1:AK bx bY ax ay cx cy=0:=by rw [Cw,hz];rfl
 have z2:AK bx bY cx cy ax ay=0:=by unfold AK at *;grind
 have z3:AK cx cy bx bY ax ay=0:=by unfold AK at *;grind
 have s1:=DA ax ay bx bY
 have s2:=CY ax ay bx bY
 have s3:=DA bx bY cx cy
 have s4:=CY bx bY cx cy
 have s5:=DA bx bY ax ay
 have s6:=CY cx cy bx bY
 unfold LC at r1 r2
 unfold Dx at hs
 rcases e1 with e1 | e1 <;> rcases e2 with e2 | e2 <;> subst e1 <;> subst e2
 ·exact .inl ⟨r1,r2⟩
 ·exfalso
  simp only [z1,z2,z3,hz,s1,s2,s3,s4,s5,s6,true_and] at hs
  exact hs.elim (fun k=>k ⟨r2,r1⟩) (fun k=>k ⟨r1,r2⟩)
 ·exfalso
  simp only [z1,z2,z3,hz,s1,s2,s3,s4,s5,s6,true_and] at hs
  exact hs.elim (fun k=>k ⟨r1,r2⟩) (fun k=>k ⟨r2,r1⟩)
 ·exact .inr ⟨r1,r2⟩
/-! Scaled: places by D, heights by 2. -/
theorem vT (D a b c d x y:Int):AK (D*a) (2*b) (D*c) (2*d) (D*x) (2*y)=2*D*AK a b c d x y:=by unfold AK;grind
theorem Ol {D:Int} (hD:0<D) (a b c d x y:Int):(0<AK (D*a) (2*b) (D*c) (2*d) (D*x) (2*y) ↔ 0<AK a b c d x y)∧(AK (D*a) (2*b) (D*c) (2*d) (D*x) (2*y)<0 ↔ AK a b c d x y<0)∧(AK (D*a) (2*b) (D*c) (2*d) (D*x) (2*y)=0 ↔ AK a b c d x y=0) :=
 EN (show (0:Int)<1 by decide) (show 0<2*D by omega) (by rw [Int.one_mul,vT])
theorem aW {D:Int} (hD:0<D) {px py qx qy ux uy vx vy:Int} (h:DM px py qx qy ux uy vx vy):DM (D*px) (2*py) (D*qx) (2*qy) (D*ux) (2*uy) (D*vx) (2*vy):=by
 have a:=Ol hD px py qx qy ux uy
 have b:=Ol hD px py qx qy vx vy
 have c:=Ol hD ux uy vx vy px py
 have d:=Ol hD ux uy vx vy qx qy
 constructor
 ·have:=h.1
  unfold Cj at *
  rw [a.1,a.2.1,a.2.2,b.1,b.2.1,b.2.2,c.1,c.2.1,c.2.2,d.1,d.2.1,d.2.2]
  exact this
 ·rintro ⟨h1,h2,h3⟩ y g1 g2
  exact h.2 ⟨a.2.2.1 h1,b.2.2.1 h2,by omega⟩ (y / 2) (by omega) (by omega)
theorem cut_sc {D:Int} (hD:0<D) (ux uy vx vy px py:Int):Cn (D*ux) (2*uy) (D*vx) (2*vy) (D*px) (2*py)=Cn ux uy vx vy px py:=by
 have e:∀ a b c d:Int,decide (0<AK (D*a) (2*b) (D*c) (2*d) (D*px) (2*py))=decide (0<AK a b c d px py):=fun a b c d=>decide_eq_decide.2 (Ol hD a b c d px py).1
 have e2:∀ a:Int,decide (2*a > 2*py)=decide (a > py):=fun a=>decide_eq_decide.2 (by omega)
 unfold Cn
 rw [e,e,e2,e2]
theorem up_sc {D:Int} (hD:0<D) (ax ay bx bY:Int):upK (D*ax) (2*ay) (D*bx) (2*bY)=upK ax ay bx bY:=by
 have e1:(D*ax<D*bx) ↔ ax<bx:=⟨fun h=>Int.lt_of_mul_lt_mul_left h (Int.le_of_lt hD),fun h=>Int.mul_lt_mul_of_pos_left h hD⟩
 unfold upK
 rw [decide_eq_decide.2 (show 2*bY<2*ay ↔ bY<ay by omega),decide_eq_decide.2 (show 2*bY=2*ay ↔ bY=ay by omega),decide_eq_decide.2 e1]
def scX (D:Int) (q:List Pt) (i:Nat):Int:=D*rx q (i % q.length)
def scY (q:List Pt) (i:Nat):Int:=2*ry q (i % q.length)
def scM (D:Int) (q:List Pt) (i:Nat):Int:=D / (2*(ry q ((i+1) % q.length)-ry q (i % q.length)))*(rx q ((i+1) % q.length)-rx q (i % q.length))
theorem sc_loop {D:Int} (hD:0<D) {q:List Pt} (h:A3 q=true):Loop (scX D q) (scY q) q.length:=by
 have hq:=CU h
 have low:=hq.low
 have nx:∀ i,(i+1) % q.length=(i % q.length+1) % q.length:=fun i=>by rw [Nat.mod_add_mod]
 have lt:∀ i,i % q.length<q.length:=fun i=>Nat.mod_lt _ (by omega)
 refine ⟨low,fun i=>?_,fun i=>?_,fun i t h1 h2=>?_,fun i=>?_,fun i hz=>?_⟩
 ·unfold scX;rw [Nat.add_mod_right]
 ·unfold scY;rw [Nat.add_mod_right]
 ·unfold scX scY
  refine aW hD ?_
  rw [nx i,nx (i+t)]
  have a:=Ra i (t:=t) (n:=q.length) (by omega)
  have b:=Ra i (t:=1) (n:=q.length) (by omega)
  have c:=Ra (i+t) (t:=1) (n:=q.length) (by omega)
  rw [nx i] at b
  rw [nx (i+t)] at c
  have l1:=lt i
  have l2:=lt (i+t)
  exact qG h l1 l2 (by omega) (by omega) (by omega)
 ·unfold scX scY
  rw [nx i]
  have l1:=lt i
  obtain ⟨g1,g2⟩:=Ir l1 low
  have hne:=Gp hq l1 g2 (fun e=>g1 e.symm)
  by_cases e:ry q (i % q.length)=ry q ((i % q.length+1) % q.length)
  ·left
   intro e2
   have e3:=Int.eq_of_mul_eq_mul_left (show D ≠ 0 by omega) e2
   apply hne
   unfold rx at e3
   unfold ry at e
   cases h1:q.getD (i % q.length) .zero
   cases h2:q.getD ((i % q.length+1) % q.length) .zero
   rw [h1,h2] at e e3
   simp only at e e3
   rw [e,e3]
  ·right;omega
 ·unfold scX scY at *
  have e2:(i+2) % q.length=((i % q.length+1) % q.length+1) % q.length:=by rw [← nx i,← nx (i+1)]
  rw [e2,nx i] at hz ⊢
  rw [up_sc hD,up_sc hD]
  exact lJ h (lt i) ((Ol hD _ _ _ _ _ _).2.2.1 hz)
theorem sc_grid {D:Int} (hD:0<D) {q:List Pt} (h:A3 q=true) (hdiv:∀ d:Int,d ≠ 0→-4000000≤d→d≤4000000→d ∣ D):Grid (scX D q) (scY q) (scM D q) q.length:=by
 have hq:=CU h
 have low:=hq.low
 refine ⟨sc_loop hD h,fun i=>by unfold scY;omega,fun i hne=>?_⟩
 have l1:=hq.spots _ (Cs (d:=.zero) (Nat.mod_lt i (show 0<q.length by omega)))
 have l2:=hq.spots _ (Cs (d:=.zero) (Nat.mod_lt (i+1) (show 0<q.length by omega)))
 unfold BD at l1 l2
 unfold scX scY scM at *
 have hd:=hdiv (2*(ry q ((i+1) % q.length)-ry q (i % q.length))) (by omega) (by unfold ry;omega) (by unfold ry;omega)
 have e:=Int.ediv_mul_cancel hd
 have e2:2*ry q ((i+1) % q.length)-2*ry q (i % q.length)=2*(ry q ((i+1) % q.length)-ry q (i % q.length)):=by omega
 rw [e2]
 generalize 2*(ry q ((i+1) % q.length)-ry q (i % q.length))=d at *
 generalize D / d=k at *
 rw [← e]
 grind
theorem jD:∀ K:Nat,∃ D:Int,0<D∧∀ d:Nat,0<d→d≤K→(d:Int) ∣ D
 | 0=>⟨1,by decide,fun d h1 h2=>by omega⟩
 | K+1=>by
  obtain ⟨D,hD,h⟩:=jD K
  refine ⟨D*((K+1:Nat):Int),Int.mul_pos hD (by omega),fun d h1 h2=>?_⟩
  by_cases e:d=K+1
  ·subst e;exact Int.dvd_mul_left _ _
  ·exact Int.dvd_trans (h d h1 (by omega)) (Int.dvd_mul_right _ _)
theorem div_int:∃ D:Int,0<D∧∀ d:Int,d ≠ 0→-4000000≤d→d≤4000000→d ∣ D:=by
 obtain ⟨D,hD,h⟩:=jD 4000000
 refine ⟨D,hD,fun d h1 h2 h3=>?_⟩
 have:=h d.natAbs (by omega) (by omega)
 exact Int.natAbs_dvd.1 this
end
noncomputable section
def EK (q:List Pt) (i:Nat):Int:=rx q i*ry q ((i+1) % q.length)-ry q i*rx q ((i+1) % q.length)
def Br (q:List Pt):Int:=Aj (EK q) q.length
theorem area_sc (D:Int) (q:List Pt) (h:0<q.length):P1 (scX D q) (scY q) q.length=2*D*Br q:=by
 have e:∀ i,i<q.length→(scX D q i+scX D q (i+1))*(scY q (i+1)-scY q i)=2*D*(EK q i+(rx q ((i+1) % q.length)*ry q ((i+1) % q.length)-rx q (i % q.length)*ry q (i % q.length))):=fun i hi=>by
  unfold scX scY EK
  rw [Nat.mod_eq_of_lt hi]
  grind
 have r:=L8 (f:=fun i=>rx q (i % q.length)*ry q (i % q.length)) (n:=q.length) (by simp only [Nat.mod_self,Nat.zero_mod])
 have s:=Hy (fun i=>rx q ((i+1) % q.length)*ry q ((i+1) % q.length)) (fun i=>rx q (i % q.length)*ry q (i % q.length)) q.length
 unfold P1 Br
 rw [A9 _ e,DP,Gu,s]
 rw [r,Int.sub_self,Int.add_zero]
theorem par_sc {D:Int} (hD:0<D) (p q:List Pt):Bw (scX D p) (scY p) p.length (scX D q 0) (scY q 0)=Bw (rx p) (ry p) p.length (rx q 0) (ry q 0):=by
 refine GG _ fun i hi=>?_
 unfold scX scY
 rw [Nat.mod_eq_of_lt hi,Nat.mod_mod,Nat.zero_mod]
 exact cut_sc hD _ _ _ _ _ _
theorem PL (f:Nat→Bool) (m:Nat):(((List.range' 0 m).countP f:Nat):Int)=Aj (fun s=>bI (f s)) m:=by
 rw [← List.range_eq_range']
 induction m with
 | zero=>rfl
 | succ m ih =>
  rw [List.range_succ,List.countP_append,Aj,← ih]
  cases h:f m <;> simp [h,bI]
section
variable {l:List (List Pt)} (h:CM l=true)
include h
theorem mH {D:Int} (hD:0<D) (hdiv:∀ d:Int,d ≠ 0→-4000000≤d→d≤4000000→d ∣ D) :
  Lay l.length (fun r=>scX D (l.getD r [])) (fun r=>scY (l.getD r [])) (fun r=>scM D (l.getD r [])) (fun r=>(l.getD r []).length):=by
 refine ⟨fun r hr=>sc_grid hD ((C9 h).2.1 _ (Cs hr)) hdiv,fun r s hr hs hrs i hi j hj=>?_⟩
 have:=Io (Ce h hr) (Ce h hs) (EQ h hr hs hrs) i hi j hj
 simp only [scX,scY,Nat.mod_mod]
 rw [Nat.mod_eq_of_lt hi,Nat.mod_eq_of_lt hj]
 exact aW hD this
theorem Vh {D:Int} (hD:0<D) {r s:Nat} (hr:r<l.length) (hs:s<l.length) :
  (r != s&&Bw (scX D (l.getD s [])) (scY (l.getD s [])) (l.getD s []).length (scX D (l.getD r []) 0) (scY (l.getD r []) 0))=IY l r s:=by
 unfold IY
 by_cases e:r=s
 ·subst e;simp
 ·rw [par_sc hD,← Rq h hr hs e,bne_iff_ne.2 e,bne_iff_ne.2 (fun k=>e k.symm)]
theorem nY (hl:0<l.length):0<Aj (fun r=>I4 (E1 l r)*((Br (l.getD r [])).natAbs:Int)) l.length:=by
 obtain ⟨D,hD,hdiv⟩:=div_int
 have key:=lay_pos (mH h hD hdiv) (dep:=E1 l) (B:=(D*1000000).toNat) (H:=1000000) (fun r s hr hs hR=>by
  have hR':IY l r s=true:=by rw [← Vh h hD hr hs];exact hR
  unfold IY at hR'
  rw [Bool.and_eq_true,bne_iff_ne] at hR'
  exact dep_lt h hr hs (fun e=>hR'.1 e.symm) hR'.2) (fun r hr=>by
  unfold E1
  rw [PL]
  exact A9 _ fun s hs=>by rw [Vh h hD hr hs]) (fun r hr i=>by
  have hq:=Ce h hr
  have low:=hq.low
  have l1:=hq.spots _ (Cs (d:=.zero) (Nat.mod_lt i (show 0<(l.getD r []).length by omega)))
  unfold BD at l1
  have p1:D*rx (l.getD r []) (i % (l.getD r []).length)≤D*1000000:=Int.mul_le_mul_of_nonneg_left l1.2.1 (Int.le_of_lt hD)
  have p2:D*(-1000000)≤D*rx (l.getD r []) (i % (l.getD r []).length):=Int.mul_le_mul_of_nonneg_left l1.1 (Int.le_of_lt hD)
  show -(((D*1000000).toNat:Nat):Int)≤D*rx (l.getD r []) (i % (l.getD r []).length)∧D*rx (l.getD r []) (i % (l.getD r []).length)≤(((D*1000000).toNat:Nat):Int)
  omega) (fun r hr i=>by
  have hq:=Ce h hr
  have low:=hq.low
  have l1:=hq.spots _ (Cs (d:=.zero) (Nat.mod_lt i (show 0<(l.getD r []).length by omega)))
  unfold BD at l1
  show -(2*((1000000:Nat):Int))≤2*ry (l.getD r []) (i % (l.getD r []).length)∧2*ry (l.getD r []) (i % (l.getD r []).length)≤2*((1000000:Nat):Int)
  unfold ry
  omega) hl
 have e:∀ r,r<l.length→I4 (E1 l r)*((P1 (scX D (l.getD r [])) (scY (l.getD r [])) (l.getD r []).length).natAbs:Int)=2*D*(I4 (E1 l r)*((Br (l.getD r [])).natAbs:Int)):=fun r hr=>by
  have low:=(Ce h hr).low
  rw [area_sc D _ (by omega),Int.natAbs_mul]
  have e1:(((2*D).natAbs*(Br (l.getD r [])).natAbs:Nat):Int)=2*D*((Br (l.getD r [])).natAbs:Int):=by
   rw [Int.natCast_mul]
   have:((2*D).natAbs:Int)=2*D:=by omega
   rw [this]
  rw [e1]
  grind
 rw [A9 _ e,DP] at key
 have p:0<2*D:=by omega
 exact (Bh p rfl).1 key
end
end
noncomputable section
/-! ### function 14 -/
def xK (q:List Pt) (s:Int) (m:Int) (i:Int):St:=⟨Al 1 ((U.hp 0 0) :: Al 1 ((U.f (F.int .i64 s)) :: Al 4 ((U.f (Ac q)) :: (U.f (F.int .i64 m)) :: (U.f (F.int .i64 i)) :: Al 29 []))),[HO.box [(U.f (Ac q))]]⟩
abbrev Js (ρ:Type):=(Int)→Option ρ
def kM {ρ:Type} (ret:Js ρ) (c3:(List Pt)→(Int)→(Int)→(Int)→Option ρ) (q:List Pt) (s:Int) (m:Int) (i:Int):Option ρ :=
 (AD (decide (i<m))
 (AD (decide (0≤i))
 (AD (decide (i<(↑q.length:Int)))
 (AD ((↑q.length:Int) != 0)
 (AD (decide (0≤(IntKind.i64.wrap (i+1)).tmod (↑q.length:Int)))
 (AD (decide ((IntKind.i64.wrap (i+1)).tmod (↑q.length:Int)<(↑q.length:Int)))
 (c3 (q) (IntKind.i64.wrap (s+IntKind.i64.wrap (IntKind.i64.wrap ((q.getD i.toNat Pt.zero).x*(q.getD ((IntKind.i64.wrap (i+1)).tmod (↑q.length:Int)).toNat Pt.zero).y)-IntKind.i64.wrap ((q.getD i.toNat Pt.zero).y*(q.getD ((IntKind.i64.wrap (i+1)).tmod (↑q.length:Int)).toNat Pt.zero).x)))) (m) (IntKind.i64.wrap (i+1)))
 none)
 none)
 none)
 none)
 none)
 (ret (s)))
def WC:Nat→(List Pt)→(Int)→(Int)→(Int)→Option (Int)
 | 0,_,_,_,_=>none
 | k+1,q,s,m,i=>kM some (WC k) q s m i
def T14 {ρ:Type} (ret:Js ρ) (c3:(List Pt)→(Int)→(Int)→(Int)→Option ρ) (q:List Pt):Option ρ :=
 (c3 (q) (0) ((↑q.length:Int)) (0))
def G14 (k:Nat) (q:List Pt):Option (Int):=T14 some (WC k) q
theorem t14_3:∀ (k:Nat) (q:List Pt) (s:Int) (m:Int) (i:Int) (r:Int),WC k q s m i=some r→AX Tryz.prog Tryz.f14.results.toList (at_ Tryz.f14 3) (xK q s m i) (F.int .i64 r)
 | 0,_,_,_,_,_,h=>nomatch h
 | k+1,q,s,m,i,r,h=>by
  refine AX.of_cut Au Lf (T:=[(3,[1,3,8,9,10],1000)]) (n:=200) ?_
  refine gE (Y:=kM (fun r=>some (.ret (F.int .i64 r))) (fun q s m i=>some (.cut (at_ Tryz.f14 3) (xK q s m i))) q s m i) (by kernel_rfl) ?_
  exact (gS h (fun _ h=>(gS h (fun _ h=>(gS h (fun _ h=>(gS h (fun _ h=>(gS h (fun _ h=>(gS h (fun _ h=>gC (t14_3 k _ _ _ _ r h)) gN)) gN)) gN)) gN)) gN)) (fun _ h=>gR (by cases h;rfl)))
theorem t14 (k:Nat) (q:List Pt) (r:Int) (h:G14 k q=some r):AX Tryz.prog Tryz.f14.results.toList [.code (AT Tryz.f14)] (start Tryz.f14.ntmps ([F.agg [Ac q]].map .f)) (F.int .i64 r):=by
 refine AX.of_run Au Lf (T:=[(3,[1,3,8,9,10],1000)]) (n:=200) ?_
 refine gE (Y:=T14 (fun r=>some (.ret (F.int .i64 r))) (fun q s m i=>some (.cut (at_ Tryz.f14 3) (xK q s m i))) q) (by kernel_rfl) ?_
 exact gC (t14_3 k _ _ _ _ r h)
/-! ### function 22 -/
def xH (q:List Pt) (s:Int) (i:Int):St:=⟨Al 1 ((U.hp 0 0) :: Al 1 ((U.f (F.int .i64 s)) :: (U.f (F.int .i64 i)) :: Al 38 [])),[HO.box [(U.f (Ac q))]]⟩
def kF {ρ:Type} (ret:Js ρ) (c3:(List Pt)→(Int)→(Int)→Option ρ) (q:List Pt) (s:Int) (i:Int):Option ρ :=
 (AD (decide (i<(↑q.length:Int)))
 (AD (decide (0≤i))
 (AD (decide (i<(↑q.length:Int)))
 (AD ((↑q.length:Int) != 0)
 (AD (decide (0≤(IntKind.i64.wrap (i+1)).tmod (↑q.length:Int)))
 (AD (decide ((IntKind.i64.wrap (i+1)).tmod (↑q.length:Int)<(↑q.length:Int)))
 (c3 (q) (IntKind.i64.wrap (IntKind.i64.wrap (s+IntKind.i64.wrap ((q.getD i.toNat Pt.zero).x*(q.getD ((IntKind.i64.wrap (i+1)).tmod (↑q.length:Int)).toNat Pt.zero).y))-IntKind.i64.wrap ((q.getD i.toNat Pt.zero).y*(q.getD ((IntKind.i64.wrap (i+1)).tmod (↑q.length:Int)).toNat Pt.zero).x))) (IntKind.i64.wrap (i+1)))
 none)
 none)
 none)
 none)
 none)
 (ret (s)))
def V9:Nat→(List Pt)→(Int)→(Int)→Option (Int)
 | 0,_,_,_=>none
 | k+1,q,s,i=>kF some (V9 k) q s i
def T22 {ρ:Type} (ret:Js ρ) (c3:(List Pt)→(Int)→(Int)→Option ρ) (q:List Pt):Option ρ :=
 (c3 (q) (0) (0))
def G22 (k:Nat) (q:List Pt):Option (Int):=T22 some (V9 k) q
theorem t22_3:∀ (k:Nat) (q:List Pt) (s:Int) (i:Int) (r:Int),V9 k q s i=some r→AX Tryz.prog Tryz.f22.results.toList (at_ Tryz.f22 3) (xH q s i) (F.int .i64 r)
 | 0,_,_,_,_,h=>nomatch h
 | k+1,q,s,i,r,h=>by
  refine AX.of_cut Au Lf (T:=[(3,[1,3,4],1000)]) (n:=200) ?_
  refine gE (Y:=kF (fun r=>some (.ret (F.int .i64 r))) (fun q s i=>some (.cut (at_ Tryz.f22 3) (xH q s i))) q s i) (by kernel_rfl) ?_
  exact (gS h (fun _ h=>(gS h (fun _ h=>(gS h (fun _ h=>(gS h (fun _ h=>(gS h (fun _ h=>(gS h (fun _ h=>gC (t22_3 k _ _ _ r h)) gN)) gN)) gN)) gN)) gN)) (fun _ h=>gR (by cases h;rfl)))
theorem t22 (k:Nat) (q:List Pt) (r:Int) (h:G22 k q=some r):AX Tryz.prog Tryz.f22.results.toList [.code (AT Tryz.f22)] (start Tryz.f22.ntmps ([F.agg [Ac q]].map .f)) (F.int .i64 r):=by
 refine AX.of_run Au Lf (T:=[(3,[1,3,4],1000)]) (n:=200) ?_
 refine gE (Y:=T22 (fun r=>some (.ret (F.int .i64 r))) (fun q s i=>some (.cut (at_ Tryz.f22 3) (xH q s i))) q) (by kernel_rfl) ?_
 exact gC (t22_3 k _ _ _ r h)
theorem sO {a b:Int} (ha:-1000000≤a∧a≤1000000) (hb:-1000000≤b∧b≤1000000):-1000000000000≤a*b∧a*b≤1000000000000:=by
 have e:=Int.natAbs_mul a b
 have:=Nat.mul_le_mul (show a.natAbs≤1000000 by omega) (show b.natAbs≤1000000 by omega)
 omega
theorem fV {q:List Pt} (hq:RingIn q) {i:Nat} (hi:i<q.length):(-1000000≤rx q i∧rx q i≤1000000)∧-1000000≤ry q i∧ry q i≤1000000:=by
 have:=hq.spots _ (Cs (d:=.zero) hi)
 unfold BD at this
 unfold rx ry
 omega
theorem WN {q:List Pt} (hq:RingIn q) {i:Nat} (hi:i<q.length):(-1000000000000≤rx q i*ry q ((i+1) % q.length)∧rx q i*ry q ((i+1) % q.length)≤1000000000000)∧-1000000000000≤ry q i*rx q ((i+1) % q.length)∧ry q i*rx q ((i+1) % q.length)≤1000000000000:=by
 have h1:=fV hq hi
 have h2:=fV hq (QV hi)
 exact ⟨sO h1.1 h2.2,sO h1.2 h2.1⟩
theorem JN {q:List Pt} (hq:RingIn q):∀ i,i≤q.length→-(2000000000000*(i:Int))≤Aj (EK q) i∧Aj (EK q) i≤2000000000000*(i:Int)
 | 0,_=>by simp [Aj]
 | i+1,hi=>by
  have h1:=JN hq i (by omega)
  have h2:=WN hq (show i<q.length by omega)
  rw [Aj]
  unfold EK at *
  omega
theorem SY {q:List Pt} (hq:RingIn q):∀ (d i:Nat),i+d=q.length→WC (d+1) q (Aj (EK q) i) (q.length:Int) i=some (Br q)
 | 0,i,h=>by
  obtain rfl:i=q.length:=by omega
  have c1:decide ((q.length:Int)<(q.length:Int))=false:=decide_eq_false (by omega)
  rw [WC]
  simp only [kM,c1,AJ]
  rfl
 | d+1,i,h=>by
  have hh:=hq.high
  have low:=hq.low
  have hi:i<q.length:=by omega
  have c1:decide ((i:Int)<(q.length:Int))=true:=decide_eq_true (by omega)
  have c2:decide (0≤(i:Int))=true:=decide_eq_true (by omega)
  have w1:IntKind.i64.wrap ((i:Int)+1)=((i+1:Nat):Int):=by rw [As (by omega) (by omega)];omega
  have t1:((i+1:Nat):Int).tmod (q.length:Int)=(((i+1) % q.length:Nat):Int):=rfl
  have c3:decide (0≤(((i+1) % q.length:Nat):Int))=true:=decide_eq_true (by omega)
  have nl:=QV hi
  have c4:decide ((((i+1) % q.length:Nat):Int)<(q.length:Int))=true:=decide_eq_true (by omega)
  have c5:((q.length:Int) != 0)=true:=bne_iff_ne.2 (by omega)
  have b1:=WN hq hi
  have b2:=JN hq i (by omega)
  have b3:=JN hq (i+1) (by omega)
  have ex:∀ j,(q.getD j Pt.zero).x=rx q j:=fun _=>rfl
  have ey:∀ j,(q.getD j Pt.zero).y=ry q j:=fun _=>rfl
  rw [WC]
  simp only [kM,c1,c2,w1,t1,c3,c4,c5,Int.toNat_natCast,ex,ey,AH]
  rw [As (x:=rx q i*_) (by omega) (by omega),As (x:=ry q i*_) (by omega) (by omega),As (x:=rx q i*_-_) (by omega) (by omega)]
  rw [Aj] at b3
  unfold EK at b3
  rw [As (by unfold EK;omega) (by unfold EK;omega)]
  exact SY hq d (i+1) (by omega)
theorem SZ {q:List Pt} (hq:RingIn q):∀ (d i:Nat),i+d=q.length→V9 (d+1) q (Aj (EK q) i) i=some (Br q)
 | 0,i,h=>by
  obtain rfl:i=q.length:=by omega
  have c1:decide ((q.length:Int)<(q.length:Int))=false:=decide_eq_false (by omega)
  rw [V9]
  simp only [kF,c1,AJ]
  rfl
 | d+1,i,h=>by
  have hh:=hq.high
  have low:=hq.low
  have hi:i<q.length:=by omega
  have c1:decide ((i:Int)<(q.length:Int))=true:=decide_eq_true (by omega)
  have c2:decide (0≤(i:Int))=true:=decide_eq_true (by omega)
  have w1:IntKind.i64.wrap ((i:Int)+1)=((i+1:Nat):Int):=by rw [As (by omega) (by omega)];omega
  have t1:((i+1:Nat):Int).tmod (q.length:Int)=(((i+1) % q.length:Nat):Int):=rfl
  have c3:decide (0≤(((i+1) % q.length:Nat):Int))=true:=decide_eq_true (by omega)
  have nl:=QV hi
  have c4:decide ((((i+1) % q.length:Nat):Int)<(q.length:Int))=true:=decide_eq_true (by omega)
  have c5:((q.length:Int) != 0)=true:=bne_iff_ne.2 (by omega)
  have b1:=WN hq hi
  have b2:=JN hq i (by omega)
  have b3:=JN hq (i+1) (by omega)
  have ex:∀ j,(q.getD j Pt.zero).x=rx q j:=fun _=>rfl
  have ey:∀ j,(q.getD j Pt.zero).y=ry q j:=fun _=>rfl
  rw [V9]
  simp only [kF,c1,c2,w1,t1,c3,c4,c5,Int.toNat_natCast,ex,ey,AH]
  rw [As (x:=rx q i*_) (by omega) (by omega),As (x:=ry q i*_) (by omega) (by omega),As (x:=Aj (EK q) i+_) (by omega) (by omega)]
  rw [Aj] at b3
  unfold EK at b3
  rw [As (by unfold EK;omega) (by unfold EK;omega)]
  have e:Aj (EK q) i+rx q i*ry q ((i+1) % q.length)-ry q i*rx q ((i+1) % q.length)=Aj (EK q) (i+1):=by
   rw [Aj]
   unfold EK
   omega
  rw [e]
  exact SZ hq d (i+1) (by omega)
def MK:List F→Bool | [x]=>BJ x&&A3 (AR x) | _=>false
def QS:List F→F | [x]=>.int .i64 (Br (AR x)) | _=>.dflt
theorem okAreaI:Ak Tryz.prog 14 MK QS :=
 Ad (c:=AT Tryz.f14) Tryz.func14 (by kernel_rfl) (by kernel_rfl) fun xs hp=>match xs,hp with
 | [x],hp=>by
  simp only [MK,Bool.and_eq_true] at hp
  exact ⟨[CN (AR x)],_,⟨(CT hp.1).1,trivial⟩,t14 ((AR x).length+1) _ _ (SY (CU hp.2) (AR x).length 0 (by omega)),.refl _⟩
theorem okArea3:Ak Tryz.prog 22 MK QS :=
 Ad (c:=AT Tryz.f22) Tryz.func22 (by kernel_rfl) (by kernel_rfl) fun xs hp=>match xs,hp with
 | [x],hp=>by
  simp only [MK,Bool.and_eq_true] at hp
  exact ⟨[CN (AR x)],_,⟨(CT hp.1).1,trivial⟩,t22 ((AR x).length+1) _ _ (SZ (CU hp.2) (AR x).length 0 (by omega)),.refl _⟩
def envC1:Env:=(envA6.add 14 (.pure MK QS)).add 22 (.pure MK QS)
theorem Z5:Az Tryz.prog envC1:=(Env.add_ok (Env.add_ok Lf okAreaI.sp) okArea3.sp)
end
noncomputable section
/-! ### function 77 -/
def T77 {ρ:Type} (ret:(Bool)→Option ρ) (x:Int) (y:Int) (w:Int) (u:Int) (v:Int) (t:Int) (p:Int) (q:Int) (z:Int):Option ρ :=
 (AD (BF 100 (Ai u v t)&&BF 100 (Ai x y w))
 (AD (decide ((Bo (Ai u v t)*BZ (Ai x y w)-Bo (Ai x y w)*BZ (Ai u v t)).sign<0))
 (AD (BF 100 (Ai u v t)&&BF 100 (Ai p q z))
 (AD (decide ((Bo (Ai u v t)*BZ (Ai p q z)-Bo (Ai p q z)*BZ (Ai u v t)).sign≤0)==true)
 (AD (BF 100 (Ai p q z)&&BF 100 (Ai x y w))
 (AD (decide ((Bo (Ai p q z)*BZ (Ai x y w)-Bo (Ai x y w)*BZ (Ai p q z)).sign<0)==true)
 (AD (BF 100 (Ai u v t)&&BF 100 (Ai x y w)&&BF 100 (Ai p q z))
 (ret (decide ((E7 (Bz (Ai u v t)) (Bo (Ai u v t)) (BZ (Ai u v t)) (Bz (Ai x y w)) (Bo (Ai x y w)) (BZ (Ai x y w)) (Bz (Ai p q z)) (Bo (Ai p q z)) (BZ (Ai p q z))).sign > 0)))
 none)
 (ret (false)))
 none)
 (ret (false)))
 none)
 (AD (BF 100 (Ai x y w)&&BF 100 (Ai p q z))
 (AD (decide ((Bo (Ai x y w)*BZ (Ai p q z)-Bo (Ai p q z)*BZ (Ai x y w)).sign≤0)==true)
 (AD (BF 100 (Ai p q z)&&BF 100 (Ai u v t))
 (AD (decide ((Bo (Ai p q z)*BZ (Ai u v t)-Bo (Ai u v t)*BZ (Ai p q z)).sign<0)==true)
 (AD (BF 100 (Ai x y w)&&BF 100 (Ai u v t)&&BF 100 (Ai p q z))
 (ret (decide ((E7 (Bz (Ai x y w)) (Bo (Ai x y w)) (BZ (Ai x y w)) (Bz (Ai u v t)) (Bo (Ai u v t)) (BZ (Ai u v t)) (Bz (Ai p q z)) (Bo (Ai p q z)) (BZ (Ai p q z))).sign > 0)))
 none)
 (ret (false)))
 none)
 (ret (false)))
 none))
 none)
def G77 (x:Int) (y:Int) (w:Int) (u:Int) (v:Int) (t:Int) (p:Int) (q:Int) (z:Int):Option (Bool):=T77 some x y w u v t p q z
theorem t77 (x:Int) (y:Int) (w:Int) (u:Int) (v:Int) (t:Int) (p:Int) (q:Int) (z:Int) (r:Bool) (h:G77 x y w u v t p q z=some r):AX Tryz.prog Tryz.f77.results.toList [.code (AT Tryz.f77)] (start Tryz.f77.ntmps ([Ai x y w,Ai u v t,Ai p q z].map .f)) (F.bool r):=by
 refine AX.of_run Au Z5 (T:=[]) (n:=200) ?_
 refine gE (Y:=T77 (fun r=>some (.ret (F.bool r))) x y w u v t p q z) (by kernel_rfl) ?_
 exact (gS h (fun _ h=>(gS h (fun _ h=>(gS h (fun _ h=>(gS h (fun _ h=>(gS h (fun _ h=>(gS h (fun _ h=>(gS h (fun _ h=>gR (by cases h;rfl)) gN)) (fun _ h=>gR (by cases h;rfl)))) gN)) (fun _ h=>gR (by cases h;rfl)))) gN)) (fun _ h=>(gS h (fun _ h=>(gS h (fun _ h=>(gS h (fun _ h=>(gS h (fun _ h=>(gS h (fun _ h=>gR (by cases h;rfl)) gN)) (fun _ h=>gR (by cases h;rfl)))) gN)) (fun _ h=>gR (by cases h;rfl)))) gN)))) gN)
def T2 (x y w u v t p q z:Int):Bool:=decide ((y*z-q*w).sign≤0)&&(decide ((q*t-v*z).sign<0)&&decide ((E7 x y w u v t p q z).sign > 0))
def KR (x y w u v t p q z:Int):Bool:=bif decide ((v*w-y*t).sign<0) then T2 u v t x y w p q z else T2 x y w u v t p q z
theorem nO {x y w u v t p q z:Int} (h1:BF 100 (Ai x y w)=true) (h2:BF 100 (Ai u v t)=true) (h3:BF 100 (Ai p q z)=true):G77 x y w u v t p q z=some (KR x y w u v t p q z):=by
 have tt:∀ b:Bool,(b==true)=b:=fun b=>by cases b <;> rfl
 unfold G77 T77 KR T2
 simp only [h1,h2,h3,Hw,Hv,Hx,tt,Bool.and_self,AH]
 cases decide ((v*w-y*t).sign<0) with
 | true =>
  rw [AH,cond_true]
  cases decide ((v*z-q*t).sign≤0) with
  | false=>rfl
  | true=>cases decide ((q*w-y*z).sign<0) <;> rfl
 | false =>
  rw [AJ,cond_false]
  cases decide ((y*z-q*w).sign≤0) with
  | false=>rfl
  | true=>cases decide ((q*t-v*z).sign<0) <;> rfl
def YT:List F→F | [x,y,z]=>.bool (KR (Bz x) (Bo x) (BZ x) (Bz y) (Bo y) (BZ y) (Bz z) (Bo z) (BZ z)) | _=>.dflt
theorem okCuts3:Ak Tryz.prog 77 D7 YT :=
 Ad (c:=AT Tryz.f77) Tryz.func77 (by kernel_rfl) (by kernel_rfl) fun xs hp=>match xs,hp with
 | [x,y,z],hp=>by
  simp only [D7,Bool.and_eq_true] at hp
  have b1:=DQ hp.1.1
  have b2:=DQ hp.1.2
  have b3:=DQ hp.2
  exact ⟨[Ai (Bz x) (Bo x) (BZ x),Ai (Bz y) (Bo y) (BZ y),Ai (Bz z) (Bo z) (BZ z)],_,⟨(DK hp.1.1).1,(DK hp.1.2).1,(DK hp.2).1,trivial⟩,
   t77 _ _ _ _ _ _ _ _ _ _ (nO (G2 b1.1 b1.2.1 b1.2.2) (G2 b2.1 b2.2.1 b2.2.2) (G2 b3.1 b3.2.1 b3.2.2)),.refl _⟩
theorem nP (ax ay bx bY px py:Int):KR ax ay 1 bx bY 1 px py 1=Cn ax ay bx bY px py:=by
 have o1:∀ a b c d:Int,E7 a b 1 c d 1 px py 1=AK a b c d px py:=fun a b c d=>by unfold E7 AK;grind
 have sg:∀ x:Int,(x.sign≤0 ↔ x≤0)∧(x.sign<0 ↔ x<0)∧(x.sign > 0 ↔ 0<x):=fun x=>by
  rcases Int.lt_trichotomy x 0 with h | h | h
  ·rw [Int.sign_eq_neg_one_of_neg h];omega
  ·subst h;simp
  ·rw [Int.sign_eq_one_of_pos h];omega
 have low:∀ a b c d:Int,b<d→T2 a b 1 c d 1 px py 1=Cn a b c d px py:=fun a b c d h=>by
  have e1:decide ((b*1-py*1).sign≤0)=decide (b≤py):=decide_eq_decide.2 (by have:=(sg (b*1-py*1)).1;omega)
  have e2:decide ((py*1-d*1).sign<0)=decide (py<d):=decide_eq_decide.2 (by have:=(sg (py*1-d*1)).2.1;omega)
  have e3:decide ((AK a b c d px py).sign > 0)=decide (0<AK a b c d px py):=decide_eq_decide.2 (sg _).2.2
  unfold T2
  rw [GF h,o1,e1,e2,e3,Bool.and_assoc]
 have e0:decide ((bY*1-ay*1).sign<0)=decide (bY<ay):=decide_eq_decide.2 (by have:=(sg (bY*1-ay*1)).2.1;omega)
 unfold KR
 rw [e0]
 rcases Int.lt_trichotomy ay bY with h | h | h
 ·rw [decide_eq_false (by omega),cond_false,low _ _ _ _ h]
 ·subst h
  have e1:decide ((ay*1-py*1).sign≤0)=decide (ay≤py):=decide_eq_decide.2 (by have:=(sg (ay*1-py*1)).1;omega)
  have e2:decide ((py*1-ay*1).sign<0)=decide (py<ay):=decide_eq_decide.2 (by have:=(sg (py*1-ay*1)).2.1;omega)
  rw [decide_eq_false (by omega),cond_false,IZ rfl]
  unfold T2
  rw [e1,e2]
  by_cases c:ay≤py
  ·rw [decide_eq_false (show ¬ py<ay by omega)];simp
  ·rw [decide_eq_false c];rfl
 ·rw [decide_eq_true (by omega),cond_true,low _ _ _ _ h,Ia]
def envC2:Env:=envC1.add 77 (.pure D7 YT)
theorem SF:Az Tryz.prog envC2:=(Env.add_ok Z5 okCuts3.sp)
end
noncomputable section
/-! ### function 56 -/
def wZ (q:List Pt) (x:Int) (y:Int) (w:Int) (o:Bool) (i:Int):St:=⟨Al 2 ((U.hp 0 0) :: (U.hp 1 0) :: Al 1 ((U.f (F.bool o)) :: (U.f (F.int .i64 i)) :: Al 25 [])),[HO.box [(U.f (Ac q))],HO.box [(U.f (F.bool (decide (x<0)))),(U.f (AP (AM 4294967296 x.natAbs))),(U.f (F.bool (decide (y<0)))),(U.f (AP (AM 4294967296 y.natAbs))),(U.f (F.bool (decide (w<0)))),(U.f (AP (AM 4294967296 w.natAbs)))]]⟩
def jR {ρ:Type} (ret:Js ρ) (c3:(List Pt)→(Int)→(Int)→(Int)→(Bool)→(Int)→Option ρ) (q:List Pt) (x:Int) (y:Int) (w:Int) (o:Bool) (i:Int):Option ρ :=
 (AD (decide (i<(↑q.length:Int)))
 (AD (BJ (F.agg [Ac q])&&S7 (AR (F.agg [Ac q])) i)
 (AD (Ae (AO (AR (F.agg [Ac q])) i.toNat).x0&&Ae (AO (AR (F.agg [Ac q])) i.toNat).y0&&(Ae (AO (AR (F.agg [Ac q])) i.toNat).x1&&Ae (AO (AR (F.agg [Ac q])) i.toNat).y1)&&BF 100 (Ai x y w))
 (AD (QJ (AO (AR (F.agg [Ac q])) i.toNat).x0 (AO (AR (F.agg [Ac q])) i.toNat).y0 1 (AO (AR (F.agg [Ac q])) i.toNat).x1 (AO (AR (F.agg [Ac q])) i.toNat).y1 1 (Bz (Ai x y w)) (Bo (Ai x y w)) (BZ (Ai x y w)))
 (ret (0))
 (AD (Ae (AO (AR (F.agg [Ac q])) i.toNat).x0&&Ae (AO (AR (F.agg [Ac q])) i.toNat).y0)
 (AD (Ae (AO (AR (F.agg [Ac q])) i.toNat).x1&&Ae (AO (AR (F.agg [Ac q])) i.toNat).y1)
 (AD (BF 100 (Bu [F.agg [F.int .i64 (AO (AR (F.agg [Ac q])) i.toNat).x0,F.int .i64 (AO (AR (F.agg [Ac q])) i.toNat).y0]])&&BF 100 (Bu [F.agg [F.int .i64 (AO (AR (F.agg [Ac q])) i.toNat).x1,F.int .i64 (AO (AR (F.agg [Ac q])) i.toNat).y1]])&&BF 100 (Ai x y w))
 (AD (KR (Bz (Bu [F.agg [F.int .i64 (AO (AR (F.agg [Ac q])) i.toNat).x0,F.int .i64 (AO (AR (F.agg [Ac q])) i.toNat).y0]])) (Bo (Bu [F.agg [F.int .i64 (AO (AR (F.agg [Ac q])) i.toNat).x0,F.int .i64 (AO (AR (F.agg [Ac q])) i.toNat).y0]])) (BZ (Bu [F.agg [F.int .i64 (AO (AR (F.agg [Ac q])) i.toNat).x0,F.int .i64 (AO (AR (F.agg [Ac q])) i.toNat).y0]])) (Bz (Bu [F.agg [F.int .i64 (AO (AR (F.agg [Ac q])) i.toNat).x1,F.int .i64 (AO (AR (F.agg [Ac q])) i.toNat).y1]])) (Bo (Bu [F.agg [F.int .i64 (AO (AR (F.agg [Ac q])) i.toNat).x1,F.int .i64 (AO (AR (F.agg [Ac q])) i.toNat).y1]])) (BZ (Bu [F.agg [F.int .i64 (AO (AR (F.agg [Ac q])) i.toNat).x1,F.int .i64 (AO (AR (F.agg [Ac q])) i.toNat).y1]])) (Bz (Ai x y w)) (Bo (Ai x y w)) (BZ (Ai x y w)))
 (c3 (q) (x) (y) (w) (!o) (IntKind.i64.wrap (i+1)))
 (c3 (q) (x) (y) (w) (o) (IntKind.i64.wrap (i+1))))
 none)
 none)
 none))
 none)
 none)
 (AD (o)
 (ret (1))
 (ret (-1))))
def V1:Nat→(List Pt)→(Int)→(Int)→(Int)→(Bool)→(Int)→Option (Int)
 | 0,_,_,_,_,_,_=>none
 | k+1,q,x,y,w,o,i=>jR some (V1 k) q x y w o i
def T56 {ρ:Type} (ret:Js ρ) (c3:(List Pt)→(Int)→(Int)→(Int)→(Bool)→(Int)→Option ρ) (q:List Pt) (x:Int) (y:Int) (w:Int):Option ρ :=
 (c3 (q) (x) (y) (w) (false) (0))
def G56 (k:Nat) (q:List Pt) (x:Int) (y:Int) (w:Int):Option (Int):=T56 some (V1 k) q x y w
theorem pA:∀ (k:Nat) (q:List Pt) (x:Int) (y:Int) (w:Int) (o:Bool) (i:Int) (r:Int),V1 k q x y w o i=some r→AX Tryz.prog Tryz.f56.results.toList (at_ Tryz.f56 3) (wZ q x y w o i) (F.int .i64 r)
 | 0,_,_,_,_,_,_,_,h=>nomatch h
 | k+1,q,x,y,w,o,i,r,h=>by
  refine AX.of_cut Au SF (T:=[(3,[2,3,5,6],1000)]) (n:=200) ?_
  refine gE (Y:=jR (fun r=>some (.ret (F.int .i64 r))) (fun q x y w o i=>some (.cut (at_ Tryz.f56 3) (wZ q x y w o i))) q x y w o i) (by kernel_rfl) ?_
  exact (gS h (fun _ h=>(gS h (fun _ h=>(gS h (fun _ h=>(gS h (fun _ h=>gR (by cases h;rfl)) (fun _ h=>(gS h (fun _ h=>(gS h (fun _ h=>(gS h (fun _ h=>(gS h (fun _ h=>gC (pA k _ _ _ _ _ _ r h)) (fun _ h=>gC (pA k _ _ _ _ _ _ r h)))) gN)) gN)) gN)))) gN)) gN)) (fun _ h=>(gS h (fun _ h=>gR (by cases h;rfl)) (fun _ h=>gR (by cases h;rfl)))))
theorem t56 (k:Nat) (q:List Pt) (x:Int) (y:Int) (w:Int) (r:Int) (h:G56 k q x y w=some r):AX Tryz.prog Tryz.f56.results.toList [.code (AT Tryz.f56)] (start Tryz.f56.ntmps ([F.agg [Ac q],Ai x y w].map .f)) (F.int .i64 r):=by
 refine AX.of_run Au SF (T:=[(3,[2,3,5,6],1000)]) (n:=200) ?_
 refine gE (Y:=T56 (fun r=>some (.ret (F.int .i64 r))) (fun q x y w o i=>some (.cut (at_ Tryz.f56 3) (wZ q x y w o i))) q x y w) (by kernel_rfl) ?_
 exact gC (pA k _ _ _ _ _ _ r h)
def iM (q:List Pt) (x y w:Int) (i:Nat):Bool:=QJ (AO q i).x0 (AO q i).y0 1 (AO q i).x1 (AO q i).y1 1 x y w
def W9 (q:List Pt) (x y w:Int) (i:Nat):Bool:=KR (AO q i).x0 (AO q i).y0 1 (AO q i).x1 (AO q i).y1 1 x y w
def VM (q:List Pt) (x y w:Int):Nat→Nat→Bool→Int
 | 0,_,o=>bif o then 1 else -1
 | d+1,i,o=>bif iM q x y w i then 0 else VM q x y w d (i+1) (bif W9 q x y w i then !o else o)
def in3V (q:List Pt) (x y w:Int):Int:=VM q x y w q.length 0 false
theorem qB {q:List Pt} (hq:RingIn q) {i:Nat} (hi:i<q.length):Ae (AO q i).x0=true∧Ae (AO q i).y0=true∧Ae (AO q i).x1=true∧Ae (AO q i).y1=true:=by
 obtain ⟨a1,a2⟩:=Gw hq hi
 obtain ⟨b1,b2⟩:=Gw hq (QV hi)
 rcases (Cq hq hi).2 with e | e <;> rw [e]
 ·exact ⟨a1,a2,b1,b2⟩
 ·exact ⟨b1,b2,a1,a2⟩
theorem Rr {q:List Pt} (hq:RingIn q) {x y w:Int} (hp:BF 100 (Ai x y w)=true):∀ (d i:Nat) (o:Bool),i+d=q.length→V1 (d+1) q x y w o i=some (VM q x y w d i o)
 | 0,i,o,h=>by
  obtain rfl:i=q.length:=by omega
  have c1:decide ((q.length:Int)<(q.length:Int))=false:=decide_eq_false (by omega)
  rw [V1]
  simp only [jR,c1,AJ]
  cases o <;> rfl
 | d+1,i,o,h=>by
  have hh:=hq.high
  have hi:i<q.length:=by omega
  have c1:decide ((i:Int)<(q.length:Int))=true:=decide_eq_true (by omega)
  have c2:S7 q (i:Int)=true:=by
   unfold S7
   simp only [Bool.and_eq_true,decide_eq_true_eq]
   omega
  have w1:IntKind.i64.wrap ((i:Int)+1)=((i+1:Nat):Int):=by rw [As (by omega) (by omega)];omega
  obtain ⟨s1,s2,s3,s4⟩:=qB hq hi
  have r:∀ a b:Int,Bu [F.agg [F.int .i64 a,F.int .i64 b]]=Ai a b 1:=fun _ _=>rfl
  have p1:=Ja s1 s2 (show Ae 1=true by rfl)
  have p2:=Ja s3 s4 (show Ae 1=true by rfl)
  rw [V1]
  simp only [jR,c1,c2,w1,Ba,BH,Int.toNat_natCast,s1,s2,s3,s4,hp,r,p1,p2,Hw,Hv,Hx,Bool.and_self,AH]
  rw [VM]
  have e1:iM q x y w i=QJ (AO q i).x0 (AO q i).y0 1 (AO q i).x1 (AO q i).y1 1 x y w:=rfl
  have e2:W9 q x y w i=KR (AO q i).x0 (AO q i).y0 1 (AO q i).x1 (AO q i).y1 1 x y w:=rfl
  rw [e1,e2]
  cases QJ (AO q i).x0 (AO q i).y0 1 (AO q i).x1 (AO q i).y1 1 x y w with
  | true=>rfl
  | false =>
   rw [AJ,cond_false]
   cases KR (AO q i).x0 (AO q i).y0 1 (AO q i).x1 (AO q i).y1 1 x y w with
   | true=>exact Rr hq hp d (i+1) (!o) (by omega)
   | false=>exact Rr hq hp d (i+1) o (by omega)
def cO:List F→Bool | [x,p]=>BJ x&&(A3 (AR x)&&BF 100 p) | _=>false
def qP:List F→F | [x,p]=>.int .i64 (in3V (AR x) (Bz p) (Bo p) (BZ p)) | _=>.dflt
theorem okIn3:Ak Tryz.prog 56 cO qP :=
 Ad (c:=AT Tryz.f56) Tryz.func56 (by kernel_rfl) (by kernel_rfl) fun xs hp=>match xs,hp with
 | [x,p],hp=>by
  simp only [cO,Bool.and_eq_true] at hp
  have b:=DQ hp.2.2
  exact ⟨[CN (AR x),Ai (Bz p) (Bo p) (BZ p)],_,⟨(CT hp.1).1,(DK hp.2.2).1,trivial⟩,t56 ((AR x).length+1) _ _ _ _ _ (Rr (CU hp.2.1) (G2 b.1 b.2.1 b.2.2) (AR x).length 0 false (by omega)),.refl _⟩
def envC3:Env:=envC2.add 56 (.pure cO qP)
theorem Ld:Az Tryz.prog envC3:=(Env.add_ok SF okIn3.sp)
def JJ (q p:List Pt):Bool:=in3V p (rx q 0) (ry q 0) 1==1
theorem VL {q:List Pt} {x y:Int} (ho:∀ i,i<q.length→iM q x y 1 i=false) (hc:∀ i,i<q.length→W9 q x y 1 i=E2 q x y i):∀ (d i:Nat),i+d=q.length→VM q x y 1 d i (CJ (E2 q x y) i)=bif CJ (E2 q x y) q.length then 1 else -1
 | 0,i,h=>by
  obtain rfl:i=q.length:=by omega
  rfl
 | d+1,i,h=>by
  have ih:=VL ho hc d (i+1) (by omega)
  rw [VM,ho i (by omega),cond_false,hc i (by omega)]
  have e:(bif E2 q x y i then !CJ (E2 q x y) i else CJ (E2 q x y) i)=CJ (E2 q x y) (i+1):=by
   rw [CJ]
   cases E2 q x y i <;> cases CJ (E2 q x y) i <;> rfl
  rw [e]
  exact ih
theorem bM {l:List (List Pt)} (h:CM l=true) {i k:Nat} (hi:i<l.length) (hk:k<l.length) (hik:i ≠ k):JJ (l.getD i []) (l.getD k [])=Ey (l.getD i []) (l.getD k []):=by
 have hq:=Ce h hi
 have hp:=Ce h hk
 have hno:=EQ h hi hk hik
 rw [Rq h hi hk hik]
 generalize l.getD i []=q at *
 generalize l.getD k []=p at *
 have h0:0<q.length:=by have:=hq.low;omega
 have e:=VL (q:=p) (x:=rx q 0) (y:=ry q 0) (fun j hj=>by
  cases hb:iM p (rx q 0) (ry q 0) 1 j with
  | false=>rfl
  | true =>
   exfalso
   have hn:=(Ru hq hp h0 hj).1 (Nj.1 hno 0 h0 j hj)
   obtain ⟨r2,e2⟩:=Cq hp hj
   have hon:onS (AO p j) (q.getD 0 .zero):=(btw_on r2).1 hb
   obtain ⟨h1,h2⟩:=Ir h0 hq.low
   have hne:q.getD 0 .zero ≠ q.getD ((0+1) % q.length) .zero:=Gp hq h0 h2 (fun e=>h1 e.symm)
   have:=Wn hne r2 hon
   exact hn ((IM r2 (Cq hq h0).1).1 this)) (fun j hj=>by
  unfold W9 E2
  rw [nP]
  rcases (Cq hp hj).2 with e | e <;> rw [e]
  exact Ia _ _ _ _ _ _) p.length 0 (by omega)
 unfold JJ in3V
 have e0:CJ (E2 p (rx q 0) (ry q 0)) 0=false:=rfl
 rw [e0] at e
 rw [e]
 show _=CJ (E2 p (rx q 0) (ry q 0)) p.length
 cases CJ (E2 p (rx q 0) (ry q 0)) p.length <;> rfl
end
noncomputable section
theorem Oj:∀ (l:List (List Pt)) (s:Int),(∀ r ∈ l,r.length≤12)→0≤s→s+12*l.length≤9000000000000000000→Ma l s=s+((l.map List.length).sum:Nat)
 | [],s,_,_,_=>by simp [Ma]
 | r :: l,s,hr,h0,hs=>by
  have h1:=hr r (by simp)
  rw [List.length_cons] at hs
  rw [Ma,As (by omega) (by omega),Oj l _ (fun q hq=>hr q (List.mem_cons_of_mem _ hq)) (by omega) (by omega),List.map_cons,List.sum_cons]
  omega
theorem lE {l:List (List Pt)} (hl:l.length≤6) (hr:∀ r ∈ l,r.length≤12):Hd l.reverse=Hd l:=by
 unfold Hd
 rw [Oj l 0 hr (by omega) (by omega),Oj l.reverse 0 (fun r h=>hr r (List.mem_reverse.1 h)) (by omega) (by rw [List.length_reverse];omega),List.map_reverse]
 have:(l.map List.length).reverse.sum=(l.map List.length).sum:=List.sum_reverse _
 rw [this]
theorem wB {R:Int × Int}:∀ (l:List (List Pt)) (i:Nat),(∀ r ∈ l,A3 r=true)→Ls l i R=R
 | [],i,h=>rfl
 | r :: l,i,h=>by
  have h1:(CK r==0)=true:=h r (by simp)
  rw [Ls,bne,h1,Bool.not_true,cond_false,wB l (i+1) fun q hq=>h q (List.mem_cons_of_mem _ hq)]
theorem iQ (l:List (List Pt)):∀ (d i:Nat),(∀ j,i≤j→j<i+d→Gh (l.getD j []) (l.take j)=false)→He l d i=(0,0)
 | 0,i,_=>rfl
 | d+1,i,h=>by rw [He,h i (by omega) (by omega),cond_false,iQ l d (i+1) fun j h1 h2=>h j (by omega) (by omega)]
theorem tA {l:List (List Pt)} (h1:l.length≤6) (h2:Hd l≤20) (h3:∀ r ∈ l,A3 r=true) (h4:∀ i,i<l.length→∀ k,k<i→Cy (l.getD i []) (l.getD k [])=false):CM l=true:=by
 unfold CM D9
 rw [decide_eq_false (show ¬ l.length > 6 by omega),cond_false,decide_eq_false (show ¬ Hd l > 20 by omega),cond_false,wB l 0 h3,iQ l l.length 0 fun j _ hj=>?_]
 ·rfl
 ·unfold Gh
  rw [List.any_eq_false]
  intro q hq
  obtain ⟨k,hk,e⟩:=List.mem_iff_getElem.1 hq
  rw [List.length_take] at hk
  have e2:q=l.getD k []:=by
   rw [← e,List.getElem_take]
   simp [List.getD,List.getElem?_eq_getElem (show k<l.length by omega)]
  rw [e2,h4 j (by omega) k (by omega)]
  simp
theorem ZI {l:List (List Pt)} (h:CM l=true):Hd l≤20:=by
 have h0:(D9 l).1=0:=eq_of_beq h
 unfold D9 at h0
 by_cases h1:l.length > 6
 ·rw [decide_eq_true h1,cond_true] at h0;exact absurd h0 (by decide)
 ·rw [decide_eq_false h1,cond_false] at h0
  by_cases h2:Hd l > 20
  ·rw [decide_eq_true h2,cond_true] at h0;exact absurd h0 (by decide)
  ·omega
theorem LV {l:List (List Pt)} {i:Nat} (hi:i<l.length):l.reverse.getD i []=l.getD (l.length-1-i) []:=by
 simp [List.getD,List.getElem?_reverse hi]
section
variable {l:List (List Pt)} (h:CM l=true)
include h
theorem mG:CM l.reverse=true:=by
 obtain ⟨h1,h2,_⟩:=C9 h
 refine tA (by rw [List.length_reverse];exact h1) ?_ (fun r hr=>h2 r (List.mem_reverse.1 hr)) fun i hi k hk=>?_
 ·rw [lE h1 fun r hr=>(CU (h2 r hr)).high]
  exact ZI h
 ·rw [List.length_reverse] at hi
  rw [LV hi,LV (by omega)]
  exact EQ h (by omega) (by omega) (by omega)
omit h in
theorem Oh (f:Nat→Int):∀ n,Aj (fun i=>f (n-1-i)) n=Aj f n
 | 0=>rfl
 | n+1=>by
  rw [Gs]
  have e:Aj (fun i=>f (n+1-1-(i+1))) n=Aj (fun i=>f (n-1-i)) n:=A9 n fun i hi=>by congr 1;omega
  rw [e,Oh f n,Aj]
  have:n+1-1-0=n:=by omega
  rw [this]
  omega
omit h in
theorem dep_rev {i:Nat} (hi:i<l.length):E1 l.reverse i=E1 l (l.length-1-i):=by
 have e:((E1 l.reverse i:Nat):Int)=((E1 l (l.length-1-i):Nat):Int):=by
  unfold E1
  rw [PL,PL,List.length_reverse,← Oh]
  refine A9 _ fun s hs=>?_
  congr 1
  unfold IY
  rw [LV hi,LV (show l.length-1-s<l.length by omega)]
  have e1:l.length-1-(l.length-1-s)=s:=by omega
  have e2:(l.length-1-s != i)=(s != l.length-1-i):=by
   by_cases e:s=l.length-1-i
   ·rw [bne_eq_false_iff_eq.2 e,bne_eq_false_iff_eq.2 (by omega)]
   ·rw [bne_iff_ne.2 e,bne_iff_ne.2 (by omega)]
  rw [e1,e2]
 omega
def I0 (l:List (List Pt)):Int:=Aj (fun r=>I4 (E1 l r)*((Br (l.getD r [])).natAbs:Int)) l.length
omit h in
theorem wE:I0 l.reverse=I0 l:=by
 unfold I0
 rw [List.length_reverse,← Oh (fun r=>I4 (E1 l r)*((Br (l.getD r [])).natAbs:Int))]
 refine A9 _ fun r hr=>?_
 rw [dep_rev hr,LV hr]
end
end
noncomputable section
/-! ### function 37 -/
def T37 {ρ:Type} (ret:(Bool)→Option ρ) (q:List Pt) (p:List Pt):Option ρ :=
 (AD (decide (0<(↑q.length:Int)))
 (AD (Ae (q.getD (Int.toNat 0) Pt.zero).x&&Ae (q.getD (Int.toNat 0) Pt.zero).y)
 (AD (BJ (F.agg [Ac p])&&(A3 (AR (F.agg [Ac p]))&&BF 100 (Bu [F.agg [F.int .i64 (q.getD (Int.toNat 0) Pt.zero).x,F.int .i64 (q.getD (Int.toNat 0) Pt.zero).y]])))
 (ret (in3V (AR (F.agg [Ac p])) (Bz (Bu [F.agg [F.int .i64 (q.getD (Int.toNat 0) Pt.zero).x,F.int .i64 (q.getD (Int.toNat 0) Pt.zero).y]])) (Bo (Bu [F.agg [F.int .i64 (q.getD (Int.toNat 0) Pt.zero).x,F.int .i64 (q.getD (Int.toNat 0) Pt.zero).y]])) (BZ (Bu [F.agg [F.int .i64 (q.getD (Int.toNat 0) Pt.zero).x,F.int .i64 (q.getD (Int.toNat 0) Pt.zero).y]]))==1))
 none)
 none)
 none)
def G37 (q:List Pt) (p:List Pt):Option (Bool):=T37 some q p
theorem t37 (q:List Pt) (p:List Pt) (r:Bool) (h:G37 q p=some r):AX Tryz.prog Tryz.f37.results.toList [.code (AT Tryz.f37)] (start Tryz.f37.ntmps ([F.agg [Ac q],F.agg [Ac p]].map .f)) (F.bool r):=by
 refine AX.of_run Au Ld (T:=[]) (n:=200) ?_
 refine gE (Y:=T37 (fun r=>some (.ret (F.bool r))) q p) (by kernel_rfl) ?_
 exact (gS h (fun _ h=>(gS h (fun _ h=>(gS h (fun _ h=>gR (by cases h;rfl)) gN)) gN)) gN)
/-! ### function 9 -/
def T9 {ρ:Type} (ret:Js ρ) (q:List Pt):Option ρ :=
 (AD (BJ (F.agg [Ac q]))
 (AD (!A3 (AR (F.agg [Ac q])))
 (ret (0))
 (AD (BJ (F.agg [Ac q])&&A3 (AR (F.agg [Ac q])))
 (ret (Br (AR (F.agg [Ac q]))))
 none))
 none)
def G9 (q:List Pt):Option (Int):=T9 some q
theorem t9 (q:List Pt) (r:Int) (h:G9 q=some r):AX Tryz.prog Tryz.f9.results.toList [.code (AT Tryz.f9)] (start Tryz.f9.ntmps ([F.agg [Ac q]].map .f)) (F.int .i64 r):=by
 refine AX.of_run Au Ld (T:=[]) (n:=200) ?_
 refine gE (Y:=T9 (fun r=>some (.ret (F.int .i64 r))) q) (by kernel_rfl) ?_
 exact (gS h (fun _ h=>(gS h (fun _ h=>gR (by cases h;rfl)) (fun _ h=>(gS h (fun _ h=>gR (by cases h;rfl)) gN)))) gN)
/-! ### function 6 -/
def S6_5 (l:List (List Pt)) (s:Int) (m:Int) (i:Int):St:=⟨(U.f (At l)) :: Al 2 ((U.f (F.int .i64 s)) :: Al 6 ((U.f (At l)) :: (U.f (F.int .i64 m)) :: (U.f (F.int .i64 i)) :: Al 22 [])),[]⟩
abbrev kX (ρ:Type):=(List (List Pt))→(Int)→(Int)→(Int)→Option ρ
def T6_5 {ρ:Type} (ret:Js ρ) (c5:kX ρ) (l:List (List Pt)) (s:Int) (m:Int) (i:Int):Option ρ :=
 (AD (decide (i<m))
 (AD (decide (0≤i))
 (AD (decide (i<(↑l.length:Int)))
 (AD (BJ (F.agg [Ac (l.getD i.toNat [])])&&A3 (AR (F.agg [Ac (l.getD i.toNat [])])))
 (AD (BJ (F.agg [Ac (l.getD i.toNat [])])&&A3 (AR (F.agg [Ac (l.getD i.toNat [])])))
 (AD (BR (At l)&&(CM (Ah (At l))&&HV (Ah (At l)) i))
 (AD ((↑(E1 (Ah (At l)) i.toNat):Int).tmod 2==1)
 (c5 (l) (IntKind.i64.wrap (s+IntKind.i64.wrap (0-if true=true then if IntKind.i64.wrap (0-Br (AR (F.agg [Ac (l.getD i.toNat [])]))) > Br (AR (F.agg [Ac (l.getD i.toNat [])])) then IntKind.i64.wrap (0-Br (AR (F.agg [Ac (l.getD i.toNat [])]))) else Br (AR (F.agg [Ac (l.getD i.toNat [])])) else if IntKind.i64.wrap (0-Br (AR (F.agg [Ac (l.getD i.toNat [])])))<Br (AR (F.agg [Ac (l.getD i.toNat [])])) then IntKind.i64.wrap (0-Br (AR (F.agg [Ac (l.getD i.toNat [])]))) else Br (AR (F.agg [Ac (l.getD i.toNat [])]))))) (m) (IntKind.i64.wrap (i+1)))
 (c5 (l) (IntKind.i64.wrap (s+if true=true then if IntKind.i64.wrap (0-Br (AR (F.agg [Ac (l.getD i.toNat [])]))) > Br (AR (F.agg [Ac (l.getD i.toNat [])])) then IntKind.i64.wrap (0-Br (AR (F.agg [Ac (l.getD i.toNat [])]))) else Br (AR (F.agg [Ac (l.getD i.toNat [])])) else if IntKind.i64.wrap (0-Br (AR (F.agg [Ac (l.getD i.toNat [])])))<Br (AR (F.agg [Ac (l.getD i.toNat [])])) then IntKind.i64.wrap (0-Br (AR (F.agg [Ac (l.getD i.toNat [])]))) else Br (AR (F.agg [Ac (l.getD i.toNat [])])))) (m) (IntKind.i64.wrap (i+1))))
 none)
 none)
 none)
 none)
 none)
 (ret (s)))
def oD:Nat→(List (List Pt))→(Int)→(Int)→(Int)→Option (Int)
 | 0,_,_,_,_=>none
 | k+1,l,s,m,i=>T6_5 some (oD k) l s m i
def T6 {ρ:Type} (ret:Js ρ) (c5:kX ρ) (l:List (List Pt)):Option ρ :=
 (AD (BR (At l))
 (AD (!CM (Ah (At l)))
 (ret (0))
 (c5 (l) (0) ((↑l.length:Int)) (0)))
 none)
def G6 (k:Nat) (l:List (List Pt)):Option (Int):=T6 some (oD k) l
theorem t6_5:∀ (k:Nat) (l:List (List Pt)) (s:Int) (m:Int) (i:Int) (r:Int),oD k l s m i=some r→AX Tryz.prog Tryz.f6.results.toList (at_ Tryz.f6 5) (S6_5 l s m i) (F.int .i64 r)
 | 0,_,_,_,_,_,h=>nomatch h
 | k+1,l,s,m,i,r,h=>by
  refine AX.of_cut Au Ld (T:=[(5,[0,3,10,11,12],1000)]) (n:=200) ?_
  refine gE (Y:=T6_5 (fun r=>some (.ret (F.int .i64 r))) (fun l s m i=>some (.cut (at_ Tryz.f6 5) (S6_5 l s m i))) l s m i) (by kernel_rfl) ?_
  exact (gS h (fun _ h=>(gS h (fun _ h=>(gS h (fun _ h=>(gS h (fun _ h=>(gS h (fun _ h=>(gS h (fun _ h=>(gS h (fun _ h=>gC (t6_5 k _ _ _ _ r h)) (fun _ h=>gC (t6_5 k _ _ _ _ r h)))) gN)) gN)) gN)) gN)) gN)) (fun _ h=>gR (by cases h;rfl)))
theorem t6 (k:Nat) (l:List (List Pt)) (r:Int) (h:G6 k l=some r):AX Tryz.prog Tryz.f6.results.toList [.code (AT Tryz.f6)] (start Tryz.f6.ntmps ([At l].map .f)) (F.int .i64 r):=by
 refine AX.of_run Au Ld (T:=[(5,[0,3,10,11,12],1000)]) (n:=200) ?_
 refine gE (Y:=T6 (fun r=>some (.ret (F.int .i64 r))) (fun l s m i=>some (.cut (at_ Tryz.f6 5) (S6_5 l s m i))) l) (by kernel_rfl) ?_
 exact (gS h (fun _ h=>(gS h (fun _ h=>gR (by cases h;rfl)) (fun _ h=>gC (t6_5 k _ _ _ _ r h)))) gN)
def Mw:List F→Bool | [x,y]=>BJ x&&(BJ y&&(A3 (AR x)&&A3 (AR y))) | _=>false
def Q5:List F→F | [x,y]=>.bool (JJ (AR x) (AR y)) | _=>.dflt
theorem Xk {q p:List Pt} (hq:A3 q=true) (hp:A3 p=true):G37 q p=some (JJ q p):=by
 have low:=(CU hq).low
 have c1:decide (0<(q.length:Int))=true:=decide_eq_true (by omega)
 obtain ⟨a1,a2⟩:=Gw (CU hq) (show 0<q.length by omega)
 have r:∀ a b:Int,Bu [F.agg [F.int .i64 a,F.int .i64 b]]=Ai a b 1:=fun _ _=>rfl
 have p1:=Ja a1 a2 (show Ae 1=true by rfl)
 have z:Int.toNat 0=0:=rfl
 unfold G37 T37 JJ
 simp only [c1,z,a1,a2,r,p1,hp,Ba,BH,Hw,Hv,Hx,Bool.and_self,AH]
 rfl
theorem lR:Ak Tryz.prog 37 Mw Q5 :=
 Ad (c:=AT Tryz.f37) Tryz.func37 (by kernel_rfl) (by kernel_rfl) fun xs hp=>match xs,hp with
 | [x,y],hp=>by
  simp only [Mw,Bool.and_eq_true] at hp
  exact ⟨[CN (AR x),CN (AR y)],_,⟨(CT hp.1).1,(CT hp.2.1).1,trivial⟩,t37 _ _ _ (Xk hp.2.2.1 hp.2.2.2),.refl _⟩
def E3 (q:List Pt):Int:=bif A3 q then Br q else 0
def Yb:List F→F | [x]=>.int .i64 (E3 (AR x)) | _=>.dflt
theorem okAreaR:Ak Tryz.prog 9 Pm Yb :=
 Ad (c:=AT Tryz.f9) Tryz.func9 (by kernel_rfl) (by kernel_rfl) fun xs hp=>match xs,hp with
 | [x],hp=>by
  refine ⟨[CN (AR x)],_,⟨(CT hp).1,trivial⟩,t9 _ (E3 (AR x)) ?_,.refl _⟩
  unfold G9 T9 E3
  simp only [Ba,BH,AH]
  cases A3 (AR x) <;> rfl
def DT (l:List (List Pt)) (r:Nat):Int:=I4 (E1 l r)*((Br (l.getD r [])).natAbs:Int)
theorem Nd {q:List Pt} (hq:RingIn q):-24000000000000≤Br q∧Br q≤24000000000000:=by
 have h1:=JN hq q.length (Nat.le_refl _)
 have h2:=hq.high
 unfold Br
 omega
theorem IC (l:List (List Pt)) (r:Nat):(E1 l r % 2=1∧DT l r = -((Br (l.getD r [])).natAbs:Int)) ∨ (E1 l r % 2=0∧DT l r=((Br (l.getD r [])).natAbs:Int)):=by
 unfold DT I4
 rcases Nat.mod_two_eq_zero_or_one (E1 l r) with h | h
 ·right;rw [h];exact ⟨rfl,Int.one_mul _⟩
 ·left;rw [h];exact ⟨rfl,by show (-1)*_=_;omega⟩
theorem NY {l:List (List Pt)} (h:CM l=true):∀ i,i≤l.length→-(24000000000000*(i:Int))≤Aj (DT l) i∧Aj (DT l) i≤24000000000000*(i:Int)
 | 0,_=>by simp [Aj]
 | i+1,hi=>by
  have h1:=NY h i (by omega)
  have h2:=Nd (Ce h (show i<l.length by omega))
  rw [Aj]
  rcases IC l i with ⟨_,e⟩ | ⟨_,e⟩ <;> omega
theorem bE {a:Int} (h:-24000000000000≤a∧a≤24000000000000):(if IntKind.i64.wrap (0-a) > a then IntKind.i64.wrap (0-a) else a)=(a.natAbs:Int):=by
 rw [As (by omega) (by omega)]
 split <;> omega
theorem Sa {l:List (List Pt)} (h:CM l=true):∀ (d i:Nat),i+d=l.length→oD (d+1) l (Aj (DT l) i) (l.length:Int) i=some (Aj (DT l) l.length)
 | 0,i,hh=>by
  obtain rfl:i=l.length:=by omega
  have c1:decide ((l.length:Int)<(l.length:Int))=false:=decide_eq_false (by omega)
  rw [oD]
  simp only [T6_5,c1,AJ]
 | d+1,i,hh=>by
  obtain ⟨f1,f2,_⟩:=C9 h
  have hi:i<l.length:=by omega
  have c1:decide ((i:Int)<(l.length:Int))=true:=decide_eq_true (by omega)
  have c2:decide (0≤(i:Int))=true:=decide_eq_true (by omega)
  have c3:HV l (i:Int)=true:=by
   unfold HV
   rw [Bool.and_eq_true]
   exact ⟨decide_eq_true (by omega),decide_eq_true (by omega)⟩
  have w1:IntKind.i64.wrap ((i:Int)+1)=((i+1:Nat):Int):=by rw [As (by omega) (by omega)];omega
  have ri:=f2 _ (Cs (d:=[]) hi)
  have sb:=Nd (Ce h hi)
  have b1:=NY h i (by omega)
  have tm:((E1 l i:Nat):Int).tmod 2=((E1 l i % 2:Nat):Int):=rfl
  rw [oD]
  simp only [T6_5,c1,c2,c3,w1,tm,h,ri,Ba,BH,B5,B3,Int.toNat_natCast,if_true,bE sb,Bool.and_self,AH]
  have ih:=Sa h d (i+1) (by omega)
  rw [Aj] at ih
  rcases IC l i with ⟨e1,e2⟩ | ⟨e1,e2⟩
  ·rw [e1,show (((1:Nat):Int)==1)=true from rfl,AH,As (x:=0-_) (by omega) (by omega),As (by omega) (by omega)]
   have e3:Aj (DT l) i+(0-((Br (l.getD i [])).natAbs:Int))=Aj (DT l) i+DT l i:=by omega
   rw [e3]
   exact ih
  ·rw [e1,show (((0:Nat):Int)==1)=false from rfl,AJ,As (by omega) (by omega),← e2]
   exact ih
def Ep (l:List (List Pt)):Int:=bif CM l then I0 l else 0
def Nn:List F→F | [x]=>.int .i64 (Ep (Ah x)) | _=>.dflt
theorem sD:Ak Tryz.prog 6 EG Nn :=
 Ad (c:=AT Tryz.f6) Tryz.func6 (by kernel_rfl) (by kernel_rfl) fun xs hp=>match xs,hp with
 | [x],hp=>by
  refine ⟨[At (Ah x)],_,⟨(DC hp).1,trivial⟩,t6 ((Ah x).length+1) _ (Ep (Ah x)) ?_,.refl _⟩
  unfold G6 T6 Ep
  simp only [B5,B3,AH]
  cases h:CM (Ah x) with
  | false=>rfl
  | true=>exact Sa h (Ah x).length 0 (by omega)
def envC4:Env:=((envC3.add 37 (.pure Mw Q5)).add 9 (.pure Pm Yb)).add 6 (.pure EG Nn)
theorem SE:Az Tryz.prog envC4:=(Env.add_ok (Env.add_ok (Env.add_ok Ld lR.sp) okAreaR.sp) sD.sp)
end
noncomputable section
/-! ### function 23 -/
def xG (l:List (List Pt)) (j:Int) (n:Int) (i:Int):St:=⟨(U.f (At l)) :: (U.f (F.int .i64 j)) :: Al 3 ((U.f (F.int .i64 n)) :: (U.f (F.int .i64 i)) :: Al 23 []),[]⟩
def kE {ρ:Type} (ret:Js ρ) (c3:kX ρ) (l:List (List Pt)) (j:Int) (n:Int) (i:Int):Option ρ :=
 (AD (decide (i<(↑l.length:Int)))
 (AD ((i != j)==true)
 (AD (decide (0≤j))
 (AD (decide (j<(↑l.length:Int)))
 (AD (decide (0≤i))
 (AD (decide (i<(↑l.length:Int)))
 (AD (BJ (F.agg [Ac (l.getD j.toNat [])])&&(BJ (F.agg [Ac (l.getD i.toNat [])])&&(A3 (AR (F.agg [Ac (l.getD j.toNat [])]))&&A3 (AR (F.agg [Ac (l.getD i.toNat [])])))))
 (AD (JJ (AR (F.agg [Ac (l.getD j.toNat [])])) (AR (F.agg [Ac (l.getD i.toNat [])])))
 (c3 (l) (j) (IntKind.i64.wrap (n+1)) (IntKind.i64.wrap (i+1)))
 (c3 (l) (j) (n) (IntKind.i64.wrap (i+1))))
 none)
 none)
 none)
 none)
 none)
 (c3 (l) (j) (n) (IntKind.i64.wrap (i+1))))
 (ret (n)))
def V8:Nat→(List (List Pt))→(Int)→(Int)→(Int)→Option (Int)
 | 0,_,_,_,_=>none
 | k+1,l,j,n,i=>kE some (V8 k) l j n i
def T23 {ρ:Type} (ret:Js ρ) (c3:kX ρ) (l:List (List Pt)) (j:Int):Option ρ :=
 (c3 (l) (j) (0) (0))
def G23 (k:Nat) (l:List (List Pt)) (j:Int):Option (Int):=T23 some (V8 k) l j
theorem fT:∀ (k:Nat) (l:List (List Pt)) (j:Int) (n:Int) (i:Int) (r:Int),V8 k l j n i=some r→AX Tryz.prog Tryz.f23.results.toList (at_ Tryz.f23 3) (xG l j n i) (F.int .i64 r)
 | 0,_,_,_,_,_,h=>nomatch h
 | k+1,l,j,n,i,r,h=>by
  refine AX.of_cut Au SE (T:=[(3,[0,1,5,6],1000)]) (n:=200) ?_
  refine gE (Y:=kE (fun r=>some (.ret (F.int .i64 r))) (fun l j n i=>some (.cut (at_ Tryz.f23 3) (xG l j n i))) l j n i) (by kernel_rfl) ?_
  exact (gS h (fun _ h=>(gS h (fun _ h=>(gS h (fun _ h=>(gS h (fun _ h=>(gS h (fun _ h=>(gS h (fun _ h=>(gS h (fun _ h=>(gS h (fun _ h=>gC (fT k _ _ _ _ r h)) (fun _ h=>gC (fT k _ _ _ _ r h)))) gN)) gN)) gN)) gN)) gN)) (fun _ h=>gC (fT k _ _ _ _ r h)))) (fun _ h=>gR (by cases h;rfl)))
theorem t23 (k:Nat) (l:List (List Pt)) (j:Int) (r:Int) (h:G23 k l j=some r):AX Tryz.prog Tryz.f23.results.toList [.code (AT Tryz.f23)] (start Tryz.f23.ntmps ([At l,F.int .i64 j].map .f)) (F.int .i64 r):=by
 refine AX.of_run Au SE (T:=[(3,[0,1,5,6],1000)]) (n:=200) ?_
 refine gE (Y:=T23 (fun r=>some (.ret (F.int .i64 r))) (fun l j n i=>some (.cut (at_ Tryz.f23 3) (xG l j n i))) l j) (by kernel_rfl) ?_
 exact gC (fT k _ _ _ _ r h)
theorem Ln {l:List (List Pt)} (hl:CM l=true) {j:Nat} (hj:j<l.length):∀ (d i n:Nat),i+d=l.length→n≤i→V8 (d+1) l j n i=some (((n+(List.range' i d).countP (IY l j):Nat):Int))
 | 0,i,n,h,hni=>by
  have c1:decide ((i:Int)<(l.length:Int))=false:=decide_eq_false (by omega)
  rw [V8]
  simp only [kE,c1,AJ]
  rfl
 | d+1,i,n,h,hni=>by
  obtain ⟨f1,f2,_⟩:=C9 hl
  have hi:i<l.length:=by omega
  have c1:decide ((i:Int)<(l.length:Int))=true:=decide_eq_true (by omega)
  have c2:decide (0≤(i:Int))=true:=decide_eq_true (by omega)
  have c3:decide (0≤(j:Int))=true:=decide_eq_true (by omega)
  have c4:decide ((j:Int)<(l.length:Int))=true:=decide_eq_true (by omega)
  have w1:IntKind.i64.wrap ((i:Int)+1)=((i+1:Nat):Int):=by rw [As (by omega) (by omega)];omega
  have w2:IntKind.i64.wrap ((n:Int)+1)=((n+1:Nat):Int):=by rw [As (by omega) (by omega)];omega
  have ri:=f2 _ (Cs (d:=[]) hi)
  have rj:=f2 _ (Cs (d:=[]) hj)
  have tt:∀ b:Bool,(b==true)=b:=fun b=>by cases b <;> rfl
  have ne:((i:Int) != (j:Int))=(i != j):=by
   by_cases e:i=j
   ·subst e;simp
   ·rw [bne_iff_ne.2 e,bne_iff_ne.2 (by omega)]
  rw [V8]
  simp only [kE,c1,c2,c3,c4,w1,w2,Int.toNat_natCast,Ba,BH,ri,rj,tt,ne,Bool.and_self,AH]
  rw [Ln hl hj d (i+1) (n+1) (by omega) (by omega),Ln hl hj d (i+1) n (by omega) (by omega),List.range'_succ,List.countP_cons]
  have hd:IY l j i=(i != j&&Ey (l.getD j []) (l.getD i [])):=rfl
  rw [hd]
  generalize (List.range' (i+1) d).countP (IY l j)=C
  have e1:n+1+C=n+(C+1):=by omega
  cases hne:i != j with
  | false=>rfl
  | true =>
   rw [AH,bM hl hj hi (fun e=>(bne_iff_ne.1 hne) e.symm),Bool.true_and,e1]
   cases Ey (l.getD j []) (l.getD i []) <;> rfl
theorem okDep3:Ak Tryz.prog 23 O1 WU :=
 Ad (c:=AT Tryz.f23) Tryz.func23 (by kernel_rfl) (by kernel_rfl) fun xs hp=>match xs,hp with
 | [x,.int .i64 j],hp=>by
  simp only [O1,Bool.and_eq_true] at hp
  obtain ⟨h1,h2,h3⟩:=hp
  unfold HV at h3
  rw [Bool.and_eq_true,decide_eq_true_eq,decide_eq_true_eq] at h3
  obtain ⟨h3,h4⟩:=h3
  have e:=Ln h2 (j:=j.toNat) (by omega) (Ah x).length 0 0 (by omega) (by omega)
  rw [Int.toNat_of_nonneg h3,Nat.zero_add] at e
  exact ⟨[At (Ah x),.int .i64 j],_,⟨(DC h1).1,.refl _,trivial⟩,t23 ((Ah x).length+1) _ _ _ e,.refl _⟩
def envC5:Env:=envC4.add 23 (.pure O1 WU)
theorem SD:Az Tryz.prog envC5:=(Env.add_ok SE okDep3.sp)
end
noncomputable section
/-! ### function 8 -/
def S8_5 (l:List (List Pt)) (s:Int) (i:Int):St:=⟨(U.f (At l)) :: Al 2 ((U.f (F.int .i64 s)) :: (U.f (F.int .i64 i)) :: Al 30 []),[]⟩
def T8_5 {ρ:Type} (ret:Js ρ) (c5:(List (List Pt))→(Int)→(Int)→Option ρ) (l:List (List Pt)) (s:Int) (i:Int):Option ρ :=
 (AD (decide (i<(↑l.length:Int)))
 (AD (decide (0≤i))
 (AD (decide (i<(↑l.length:Int)))
 (AD (BJ (F.agg [Ac (l.getD i.toNat [])])&&A3 (AR (F.agg [Ac (l.getD i.toNat [])])))
 (AD (decide (Br (AR (F.agg [Ac (l.getD i.toNat [])]))<0))
 (AD (BR (At l)&&(CM (Ah (At l))&&HV (Ah (At l)) i))
 (AD ((↑(E1 (Ah (At l)) i.toNat):Int).tmod 2==1)
 (c5 (l) (IntKind.i64.wrap (s+IntKind.i64.wrap (0-IntKind.i64.wrap (0-Br (AR (F.agg [Ac (l.getD i.toNat [])])))))) (IntKind.i64.wrap (i+1)))
 (c5 (l) (IntKind.i64.wrap (s+IntKind.i64.wrap (0-Br (AR (F.agg [Ac (l.getD i.toNat [])]))))) (IntKind.i64.wrap (i+1))))
 none)
 (AD (BR (At l)&&(CM (Ah (At l))&&HV (Ah (At l)) i))
 (AD ((↑(E1 (Ah (At l)) i.toNat):Int).tmod 2==1)
 (c5 (l) (IntKind.i64.wrap (s+IntKind.i64.wrap (0-Br (AR (F.agg [Ac (l.getD i.toNat [])]))))) (IntKind.i64.wrap (i+1)))
 (c5 (l) (IntKind.i64.wrap (s+Br (AR (F.agg [Ac (l.getD i.toNat [])])))) (IntKind.i64.wrap (i+1))))
 none))
 none)
 none)
 none)
 (ret (s)))
def oC:Nat→(List (List Pt))→(Int)→(Int)→Option (Int)
 | 0,_,_,_=>none
 | k+1,l,s,i=>T8_5 some (oC k) l s i
def T8 {ρ:Type} (ret:Js ρ) (c5:(List (List Pt))→(Int)→(Int)→Option ρ) (l:List (List Pt)):Option ρ :=
 (AD (BR (At l))
 (AD (!CM (Ah (At l)))
 (ret (0))
 (c5 (l) (0) (0)))
 none)
def G8 (k:Nat) (l:List (List Pt)):Option (Int):=T8 some (oC k) l
theorem oV:∀ (k:Nat) (l:List (List Pt)) (s:Int) (i:Int) (r:Int),oC k l s i=some r→AX Tryz.prog Tryz.f8.results.toList (at_ Tryz.f8 5) (S8_5 l s i) (F.int .i64 r)
 | 0,_,_,_,_,h=>nomatch h
 | k+1,l,s,i,r,h=>by
  refine AX.of_cut Au SD (T:=[(5,[0,3,4],1000)]) (n:=200) ?_
  refine gE (Y:=T8_5 (fun r=>some (.ret (F.int .i64 r))) (fun l s i=>some (.cut (at_ Tryz.f8 5) (S8_5 l s i))) l s i) (by kernel_rfl) ?_
  exact (gS h (fun _ h=>(gS h (fun _ h=>(gS h (fun _ h=>(gS h (fun _ h=>(gS h (fun _ h=>(gS h (fun _ h=>(gS h (fun _ h=>gC (oV k _ _ _ r h)) (fun _ h=>gC (oV k _ _ _ r h)))) gN)) (fun _ h=>(gS h (fun _ h=>(gS h (fun _ h=>gC (oV k _ _ _ r h)) (fun _ h=>gC (oV k _ _ _ r h)))) gN)))) gN)) gN)) gN)) (fun _ h=>gR (by cases h;rfl)))
theorem t8 (k:Nat) (l:List (List Pt)) (r:Int) (h:G8 k l=some r):AX Tryz.prog Tryz.f8.results.toList [.code (AT Tryz.f8)] (start Tryz.f8.ntmps ([At l].map .f)) (F.int .i64 r):=by
 refine AX.of_run Au SD (T:=[(5,[0,3,4],1000)]) (n:=200) ?_
 refine gE (Y:=T8 (fun r=>some (.ret (F.int .i64 r))) (fun l s i=>some (.cut (at_ Tryz.f8 5) (S8_5 l s i))) l) (by kernel_rfl) ?_
 exact (gS h (fun _ h=>(gS h (fun _ h=>gR (by cases h;rfl)) (fun _ h=>gC (oV k _ _ _ r h)))) gN)
theorem Sb {l:List (List Pt)} (h:CM l=true):∀ (d i:Nat),i+d=l.length→oC (d+1) l (Aj (DT l) i) i=some (Aj (DT l) l.length)
 | 0,i,hh=>by
  obtain rfl:i=l.length:=by omega
  have c1:decide ((l.length:Int)<(l.length:Int))=false:=decide_eq_false (by omega)
  rw [oC]
  simp only [T8_5,c1,AJ]
 | d+1,i,hh=>by
  obtain ⟨f1,f2,_⟩:=C9 h
  have hi:i<l.length:=by omega
  have c1:decide ((i:Int)<(l.length:Int))=true:=decide_eq_true (by omega)
  have c2:decide (0≤(i:Int))=true:=decide_eq_true (by omega)
  have c3:HV l (i:Int)=true:=by
   unfold HV
   rw [Bool.and_eq_true]
   exact ⟨decide_eq_true (by omega),decide_eq_true (by omega)⟩
  have w1:IntKind.i64.wrap ((i:Int)+1)=((i+1:Nat):Int):=by rw [As (by omega) (by omega)];omega
  have ri:=f2 _ (Cs (d:=[]) hi)
  have sb:=Nd (Ce h hi)
  have b1:=NY h i (by omega)
  have tm:((E1 l i:Nat):Int).tmod 2=((E1 l i % 2:Nat):Int):=rfl
  have w2:IntKind.i64.wrap (0-Br (l.getD i [])) = -Br (l.getD i []):=by rw [As (by omega) (by omega)];omega
  have w3:IntKind.i64.wrap (0 - -Br (l.getD i []))=Br (l.getD i []):=by rw [As (by omega) (by omega)];omega
  rw [oC]
  simp only [T8_5,c1,c2,c3,w1,w2,w3,tm,h,ri,Ba,BH,B5,B3,Int.toNat_natCast,Bool.and_self,AH]
  have ih:=Sb h d (i+1) (by omega)
  rw [Aj] at ih
  by_cases hn:Br (l.getD i [])<0
  ·rw [decide_eq_true hn,AH]
   rcases IC l i with ⟨e1,e2⟩ | ⟨e1,e2⟩
   ·rw [e1,show (((1:Nat):Int)==1)=true from rfl,AH,As (by omega) (by omega)]
    have e3:Aj (DT l) i+Br (l.getD i [])=Aj (DT l) i+DT l i:=by omega
    rw [e3]
    exact ih
   ·rw [e1,show (((0:Nat):Int)==1)=false from rfl,AJ,As (by omega) (by omega)]
    have e3:Aj (DT l) i + -Br (l.getD i [])=Aj (DT l) i+DT l i:=by omega
    rw [e3]
    exact ih
  ·rw [decide_eq_false hn,AJ]
   rcases IC l i with ⟨e1,e2⟩ | ⟨e1,e2⟩
   ·rw [e1,show (((1:Nat):Int)==1)=true from rfl,AH,As (by omega) (by omega)]
    have e3:Aj (DT l) i + -Br (l.getD i [])=Aj (DT l) i+DT l i:=by omega
    rw [e3]
    exact ih
   ·rw [e1,show (((0:Nat):Int)==1)=false from rfl,AJ,As (by omega) (by omega)]
    have e3:Aj (DT l) i+Br (l.getD i [])=Aj (DT l) i+DT l i:=by omega
    rw [e3]
    exact ih
theorem sE:Ak Tryz.prog 8 EG Nn :=
 Ad (c:=AT Tryz.f8) Tryz.func8 (by kernel_rfl) (by kernel_rfl) fun xs hp=>match xs,hp with
 | [x],hp=>by
  refine ⟨[At (Ah x)],_,⟨(DC hp).1,trivial⟩,t8 ((Ah x).length+1) _ (Ep (Ah x)) ?_,.refl _⟩
  unfold G8 T8 Ep
  simp only [B5,B3,AH]
  cases h:CM (Ah x) with
  | false=>rfl
  | true=>exact Sb h (Ah x).length 0 (by omega)
def envC6:Env:=envC5.add 8 (.pure EG Nn)
theorem vJ:Az Tryz.prog envC6:=(Env.add_ok SD sE.sp)
end
noncomputable section
/-! ### function 5 -/
def T5 {ρ:Type} (ret:(F)→Option ρ) (a0:ByteArray):Option ρ :=
 (AD (A1 (AB a0))
 (AD (A1 (AB a0)&&Bj (AA (AB a0)) 0&&true)
 (AD (decide (lyN (AA (AB a0)) 0=lyN (AA (AB a0)) 0))
 (ret (F.sl (lyN (AA (AB a0)) 0) (lyG (AA (AB a0)) 0)))
 none)
 none)
 none)
def G5 (a0:ByteArray):Option (F):=T5 some a0
theorem t5 (a0:ByteArray) (rt:F) (h:G5 a0=some rt):AX Tryz.prog Tryz.f5.results.toList [.code (AT Tryz.f5)] (start Tryz.f5.ntmps ([AB a0].map .f)) (rt):=by
 refine AX.of_run Au Z6 (T:=[]) (n:=200) ?_
 refine gE (Y:=T5 (fun rt=>some (.ret (rt))) a0) (by kernel_rfl) ?_
 exact (gS h (fun _ h=>(gS h (fun _ h=>(gS h (fun _ h=>gR (by cases h;rfl)) gN)) gN)) gN)
theorem PH {s:ByteArray} (h:s.size≤1048576):∃ rt,G5 s=some rt∧BR rt=true:=by
 have h0:Bj s 0=true:=RB.2 (by omega)
 obtain ⟨_,l1,l2,l3⟩:=ly_ok h0
 unfold G5 T5
 simp only [BW,BY,h0,Bool.and_self,decide_true,AH]
 exact ⟨_,rfl,l1⟩
def Dg (s:ByteArray):List (List Pt):=@dite _ (s.size≤1048576) (Classical.propDecidable _) (fun h=>Ah (Classical.choose (PH h))) fun _=>[]
theorem vN {s:ByteArray} (h:s.size≤1048576):∃ rt,G5 s=some rt∧FLe rt (At (Dg s)):=by
 have e:Dg s=Ah (Classical.choose (PH h)):=@dif_pos _ (Classical.propDecidable _) h _ _ _
 rw [e]
 obtain ⟨h1,h2⟩:=Classical.choose_spec (PH h)
 exact ⟨_,h1,(DC h2).1⟩
def RM:List F→Bool | [b]=>A1 b&&decide ((AA b).size≤1048576) | _=>false
def YQ:List F→F | [b]=>At (Dg (AA b)) | _=>.dflt
theorem okDrawA:Ak Tryz.prog 5 RM YQ :=
 Ad (c:=AT Tryz.f5) Tryz.func5 (by kernel_rfl) (by kernel_rfl) fun xs hp=>match xs,hp with
 | [b],hp=>by
  simp only [RM,Bool.and_eq_true,decide_eq_true_eq] at hp
  obtain ⟨rt,e,hle⟩:=vN hp.2
  exact ⟨[AB (AA b)],rt,⟨(Ci hp.1).1,trivial⟩,t5 _ _ e,hle⟩
def envC7:Env:=(envA8.add 5 (.pure RM YQ)).or envC6
theorem Z4:Az Tryz.prog envC7:=(Env.or_ok (Env.add_ok Z6 okDrawA.sp) vJ)
end
noncomputable section
/-! ### function 3 -/
def xD (l:List (List Pt)) (a:Int) (s:Int) (n:Nat) (g:Nat→F) (i:Int):St:=⟨Al 3 ((U.f (At l)) :: (U.f (F.int .i64 a)) :: Al 2 ((U.f (F.int .i64 s)) :: (U.hs 0 n 0 n) :: (U.f (F.int .i64 i)) :: Al 83 [])),[HO.arr 1 n g]⟩
def kA {ρ:Type} (ret:(Bool)→Option ρ) (c11:(List (List Pt))→(Int)→(Int)→(Nat)→(Nat→F)→(Int)→Option ρ) (l:List (List Pt)) (a:Int) (s:Int) (n:Nat) (g:Nat→F) (i:Int):Option ρ :=
 (AD (decide (i<(↑l.length:Int)))
 (AD (decide (0≤i))
 (AD (decide (i<(↑l.length:Int)))
 (AD (BJ (F.agg [Ac (l.getD i.toNat [])]))
 (AD (BR (At l))
 (AD ((PJ (Ah (At l)) i).tmod 2==1)
 (AD (decide (0≤IntKind.i64.wrap (IntKind.i64.wrap ((↑l.length:Int)-1)-i)))
 (AD (decide (IntKind.i64.wrap (IntKind.i64.wrap ((↑l.length:Int)-1)-i)<(↑l.length:Int)))
 (AD (decide (n=n))
 (AD (decide (n=n))
 (AD (decide ((↑(n+1):Int)*(((24:Nat):Int)+1)≤(↑Bs:Int)))
 (c11 (l) (a) (IntKind.i64.wrap (s+IntKind.i64.wrap (0-if true=true then if IntKind.i64.wrap (0-E3 (AR (F.agg [Ac (l.getD i.toNat [])]))) > E3 (AR (F.agg [Ac (l.getD i.toNat [])])) then IntKind.i64.wrap (0-E3 (AR (F.agg [Ac (l.getD i.toNat [])]))) else E3 (AR (F.agg [Ac (l.getD i.toNat [])])) else if IntKind.i64.wrap (0-E3 (AR (F.agg [Ac (l.getD i.toNat [])])))<E3 (AR (F.agg [Ac (l.getD i.toNat [])])) then IntKind.i64.wrap (0-E3 (AR (F.agg [Ac (l.getD i.toNat [])]))) else E3 (AR (F.agg [Ac (l.getD i.toNat [])]))))) (n+1) (fun j ↦ if j<n then g j else F.agg [Ac (l.getD (IntKind.i64.wrap (IntKind.i64.wrap ((↑l.length:Int)-1)-i)).toNat [])]) (IntKind.i64.wrap (i+1)))
 none)
 none)
 none)
 none)
 none)
 (AD (decide (0≤IntKind.i64.wrap (IntKind.i64.wrap ((↑l.length:Int)-1)-i)))
 (AD (decide (IntKind.i64.wrap (IntKind.i64.wrap ((↑l.length:Int)-1)-i)<(↑l.length:Int)))
 (AD (decide (n=n))
 (AD (decide (n=n))
 (AD (decide ((↑(n+1):Int)*(((24:Nat):Int)+1)≤(↑Bs:Int)))
 (c11 (l) (a) (IntKind.i64.wrap (s+if true=true then if IntKind.i64.wrap (0-E3 (AR (F.agg [Ac (l.getD i.toNat [])]))) > E3 (AR (F.agg [Ac (l.getD i.toNat [])])) then IntKind.i64.wrap (0-E3 (AR (F.agg [Ac (l.getD i.toNat [])]))) else E3 (AR (F.agg [Ac (l.getD i.toNat [])])) else if IntKind.i64.wrap (0-E3 (AR (F.agg [Ac (l.getD i.toNat [])])))<E3 (AR (F.agg [Ac (l.getD i.toNat [])])) then IntKind.i64.wrap (0-E3 (AR (F.agg [Ac (l.getD i.toNat [])]))) else E3 (AR (F.agg [Ac (l.getD i.toNat [])])))) (n+1) (fun j ↦ if j<n then g j else F.agg [Ac (l.getD (IntKind.i64.wrap (IntKind.i64.wrap ((↑l.length:Int)-1)-i)).toNat [])]) (IntKind.i64.wrap (i+1)))
 none)
 none)
 none)
 none)
 none))
 none)
 none)
 none)
 none)
 (AD ((a==s)==true)
 (AD (decide (a > 0)==false)
 (AD (((↑l.length:Int)==0)==true)
 (AD (decide (n=n))
 (AD (BR (F.sl n (B9 0 g)))
 (ret (Ep (Ah (F.sl n (B9 0 g)))==a))
 none)
 none)
 (ret (false)))
 (AD (decide (n=n))
 (AD (BR (F.sl n (B9 0 g)))
 (ret (Ep (Ah (F.sl n (B9 0 g)))==a))
 none)
 none))
 (ret (false))))
def V5:Nat→(List (List Pt))→(Int)→(Int)→(Nat)→(Nat→F)→(Int)→Option (Bool)
 | 0,_,_,_,_,_,_=>none
 | k+1,l,a,s,n,g,i=>kA some (V5 k) l a s n g i
def T3 {ρ:Type} (ret:(Bool)→Option ρ) (c11:(List (List Pt))→(Int)→(Int)→(Nat)→(Nat→F)→(Int)→Option ρ) (a0:ByteArray):Option ρ :=
 (AD (A1 (AB a0))
 (AD (decide ((↑(AA (AB a0)).size:Int) > 1048576))
 (ret (true))
 (AD (A1 (AB a0)&&decide ((AA (AB a0)).size≤1048576))
 (AD (BR (At (Dg (AA (AB a0)))))
 (AD (BR (At (Dg (AA (AB a0)))))
 (AD (BR (At (Dg (AA (AB a0)))))
 (AD ((Ep (Ah (At (Dg (AA (AB a0))))) != Ep (Ah (At (Dg (AA (AB a0))))))==false)
 (AD ((D9 (Ah (At (Dg (AA (AB a0)))))).fst != 0)
 (AD (BR (At (Dg (AA (AB a0)))))
 (AD ((Ep (Ah (At (Dg (AA (AB a0)))))==Ep (Ah (At (Dg (AA (AB a0))))))==true)
 (ret (Ep (Ah (At (Dg (AA (AB a0)))))==0))
 (ret (false)))
 none)
 (c11 (Dg (AA (AB a0))) (Ep (Ah (At (Dg (AA (AB a0)))))) (0) (0) (Ar []) (0)))
 (AD (BR (At (Dg (AA (AB a0)))))
 (AD ((Ep (Ah (At (Dg (AA (AB a0)))))==Ep (Ah (At (Dg (AA (AB a0))))))==true)
 (ret (Ep (Ah (At (Dg (AA (AB a0)))))==0))
 (ret (false)))
 none))
 none)
 none)
 none)
 none))
 none)
def G3 (k:Nat) (a0:ByteArray):Option (Bool):=T3 some (V5 k) a0
theorem pF:∀ (k:Nat) (l:List (List Pt)) (a:Int) (s:Int) (n:Nat) (g:Nat→F) (i:Int) (r:Bool),V5 k l a s n g i=some r→AX Tryz.prog Tryz.f3.results.toList (at_ Tryz.f3 11) (xD l a s n g i) (F.bool r)
 | 0,_,_,_,_,_,_,_,h=>nomatch h
 | k+1,l,a,s,n,g,i,r,h=>by
  refine AX.of_cut Au Z4 (T:=[(11,[3,4,7,8,9],1000)]) (n:=200) ?_
  refine gE (Y:=kA (fun r=>some (.ret (F.bool r))) (fun l a s n g i=>some (.cut (at_ Tryz.f3 11) (xD l a s n g i))) l a s n g i) (by kernel_rfl) ?_
  exact (gS h (fun _ h=>(gS h (fun _ h=>(gS h (fun _ h=>(gS h (fun _ h=>(gS h (fun _ h=>(gS h (fun _ h=>(gS h (fun _ h=>(gS h (fun _ h=>(gS h (fun _ h=>(gS h (fun _ h=>(gS h (fun _ h=>gC (pF k _ _ _ _ _ _ r h)) gN)) gN)) gN)) gN)) gN)) (fun _ h=>(gS h (fun _ h=>(gS h (fun _ h=>(gS h (fun _ h=>(gS h (fun _ h=>(gS h (fun _ h=>gC (pF k _ _ _ _ _ _ r h)) gN)) gN)) gN)) gN)) gN)))) gN)) gN)) gN)) gN)) (fun _ h=>(gS h (fun _ h=>(gS h (fun _ h=>(gS h (fun _ h=>(gS h (fun _ h=>(gS h (fun _ h=>gR (by cases h;rfl)) gN)) gN)) (fun _ h=>gR (by cases h;rfl)))) (fun _ h=>(gS h (fun _ h=>(gS h (fun _ h=>gR (by cases h;rfl)) gN)) gN)))) (fun _ h=>gR (by cases h;rfl)))))
theorem t3 (k:Nat) (a0:ByteArray) (r:Bool) (h:G3 k a0=some r):AX Tryz.prog Tryz.f3.results.toList [.code (AT Tryz.f3)] (start Tryz.f3.ntmps ([AB a0].map .f)) (F.bool r):=by
 refine AX.of_run Au Z4 (T:=[(11,[3,4,7,8,9],1000)]) (n:=200) ?_
 refine gE (Y:=T3 (fun r=>some (.ret (F.bool r))) (fun l a s n g i=>some (.cut (at_ Tryz.f3 11) (xD l a s n g i))) a0) (by kernel_rfl) ?_
 exact (gS h (fun _ h=>(gS h (fun _ h=>gR (by cases h;rfl)) (fun _ h=>(gS h (fun _ h=>(gS h (fun _ h=>(gS h (fun _ h=>(gS h (fun _ h=>(gS h (fun _ h=>(gS h (fun _ h=>(gS h (fun _ h=>(gS h (fun _ h=>gR (by cases h;rfl)) (fun _ h=>gR (by cases h;rfl)))) gN)) (fun _ h=>gC (pF k _ _ _ _ _ _ r h)))) (fun _ h=>(gS h (fun _ h=>(gS h (fun _ h=>gR (by cases h;rfl)) (fun _ h=>gR (by cases h;rfl)))) gN)))) gN)) gN)) gN)) gN)))) gN)
theorem wC {l:List (List Pt)} {g:Nat→F} (hg:∀ j,j<l.length→g j=CN (l.getD (l.length-1-j) [])):Ah (F.sl l.length (B9 0 g))=l.reverse∧BR (F.sl l.length (B9 0 g))=true:=by
 have ho:∀ j,j<l.length→B9 0 g j=CN (l.getD (l.length-1-j) []):=fun j hj=>hg j hj
 constructor
 ·show (List.range l.length).map (fun j=>AR (B9 0 g j))=_
  apply List.ext_getElem
  ·simp
  ·intro j h1 h2
   simp at h1
   simp only [List.getElem_map,List.getElem_range,List.getElem_reverse]
   rw [ho j h1,Jx]
   simp [List.getD,List.getElem?_eq_getElem (show l.length-1-j<l.length by omega)]
 ·simp only [BR,Dq,List.all_eq_true,List.mem_range]
  exact fun j hj=>by rw [ho j hj];exact KG _
theorem SX {l:List (List Pt)} (hl:CM l=true):∀ (d i:Nat) (g:Nat→F),i+d=l.length→(∀ j,j<i→g j=CN (l.getD (l.length-1-j) []))→V5 (d+1) l (I0 l) (Aj (DT l) i) i g i=some true
 | 0,i,g,h,hg=>by
  obtain rfl:i=l.length:=by omega
  have c1:decide ((l.length:Int)<(l.length:Int))=false:=decide_eq_false (by omega)
  have e:I0 l=Aj (DT l) l.length:=rfl
  obtain ⟨b1,b2⟩:=wC hg
  have av:Ep l.reverse=I0 l:=by
   unfold Ep
   rw [mG hl,cond_true,wE]
  have tail:(AD (BR (F.sl l.length (B9 0 g))) (some (Ep (Ah (F.sl l.length (B9 0 g)))==I0 l)) none:Option Bool)=some true:=by
   rw [b2,AH,b1,av,beq_self_eq_true]
  have tf:(true==false)=false:=rfl
  have ff:(false==false)=true:=rfl
  have tt:(true==true)=true:=rfl
  rw [V5]
  simp only [kA,c1,AJ]
  rw [← e,beq_self_eq_true,beq_self_eq_true,AH]
  by_cases h0:0<l.length
  ·have hp:=nY hl h0
   have hp:0<I0 l:=hp
   rw [decide_eq_true (show I0 l > 0 from hp)]
   simp only [tf,decide_true,AH,AJ]
   exact tail
  ·have e0:l.length=0:=by omega
   have z:I0 l=0:=by
    unfold I0
    rw [e0]
    rfl
   have z1:((l.length:Int)==0)=true:=by rw [e0];rfl
   rw [decide_eq_false (show ¬ I0 l > 0 by omega),z1]
   simp only [ff,tt,decide_true,AH]
   exact tail
 | d+1,i,g,h,hg=>by
  obtain ⟨f1,f2,_⟩:=C9 hl
  have hi:i<l.length:=by omega
  have c1:decide ((i:Int)<(l.length:Int))=true:=decide_eq_true (by omega)
  have c2:decide (0≤(i:Int))=true:=decide_eq_true (by omega)
  have at0:HV l (i:Int)=true:=by
   unfold HV
   rw [Bool.and_eq_true]
   exact ⟨decide_eq_true (by omega),decide_eq_true (by omega)⟩
  have dp:PJ l (i:Int)=((E1 l i:Nat):Int):=by
   unfold PJ
   rw [hl,at0]
   rfl
  have w1:IntKind.i64.wrap ((i:Int)+1)=((i+1:Nat):Int):=by rw [As (by omega) (by omega)];omega
  have w2:IntKind.i64.wrap (IntKind.i64.wrap ((l.length:Int)-1)-(i:Int))=((l.length-1-i:Nat):Int):=by
   rw [As (x:=(l.length:Int)-1) (by omega) (by omega),As (by omega) (by omega)];omega
  have c3:decide (0≤((l.length-1-i:Nat):Int))=true:=decide_eq_true (by omega)
  have c4:decide (((l.length-1-i:Nat):Int)<(l.length:Int))=true:=decide_eq_true (by omega)
  have c5:decide (((i+1:Nat):Int)*(((24:Nat):Int)+1)≤(Bs:Int))=true:=by rw [Ev];exact decide_eq_true (by omega)
  have ri:=f2 _ (Cs (d:=[]) hi)
  have ar:E3 (l.getD i [])=Br (l.getD i []):=by unfold E3;rw [ri];rfl
  have sb:=Nd (Ce hl hi)
  have b1:=NY hl i (by omega)
  have tm:((E1 l i:Nat):Int).tmod 2=((E1 l i % 2:Nat):Int):=rfl
  rw [V5]
  simp only [kA,c1,c2,c3,c4,c5,w1,w2,dp,tm,ar,Ba,BH,B5,B3,Int.toNat_natCast,if_true,bE sb,Bool.and_self,decide_true,AH]
  have ih:=SX hl d (i+1) (fun j=>if j<i then g j else F.agg [Ac (l.getD (l.length-1-i) [])]) (by omega) (fun j hj=>by
   by_cases c:j<i
   ·rw [if_pos c];exact hg j c
   ·rw [if_neg c]
    have:j=i:=by omega
    subst this
    rfl)
  rw [Aj] at ih
  rcases IC l i with ⟨e1,e2⟩ | ⟨e1,e2⟩
  ·rw [e1,show (((1:Nat):Int)==1)=true from rfl,AH,As (x:=0-_) (by omega) (by omega),As (by omega) (by omega)]
   have e3:Aj (DT l) i+(0-((Br (l.getD i [])).natAbs:Int))=Aj (DT l) i+DT l i:=by omega
   rw [e3]
   exact ih
  ·rw [e1,show (((0:Nat):Int)==1)=false from rfl,AJ,As (by omega) (by omega),← e2]
   exact ih
theorem nZ (s:ByteArray):∃ k,G3 k s=some true:=by
 refine ⟨(Dg s).length+1,?_⟩
 unfold G3 T3
 simp only [BW,BY,B5,B3,Bool.true_and,AH,beq_self_eq_true,bne_self_eq_false]
 by_cases hs:s.size≤1048576
 ·have c1:decide ((s.size:Int) > 1048576)=false:=decide_eq_false (by omega)
  simp only [c1,decide_eq_true hs,AH,AJ]
  generalize Dg s=l
  cases hl:CM l with
  | false =>
   have e:((D9 l).1 != 0)=true:=by
    have:((D9 l).1==0)=false:=hl
    rw [bne,this];rfl
   rw [e,AH]
   unfold Ep
   rw [hl]
   rfl
  | true =>
   have e:((D9 l).1 != 0)=false:=by
    have:((D9 l).1==0)=true:=hl
    rw [bne,this];rfl
   have av:Ep l=I0 l:=by unfold Ep;rw [hl];rfl
   rw [e,AJ,av]
   exact SX hl l.length 0 _ (by omega) fun j hj=>by omega
 ·have c1:decide ((s.size:Int) > 1048576)=true:=decide_eq_true (by omega)
  simp only [c1,AH]
theorem RU:Ak Tryz.prog 3 rG (fun _=>.bool true) :=
 Ad (c:=AT Tryz.f3) Tryz.func3 (by kernel_rfl) (by kernel_rfl) fun xs hp=>match xs,hp with
 | [b],hp=>by
  obtain ⟨k,e⟩:=nZ (AA b)
  exact ⟨[AB (AA b)],_,⟨(Ci hp).1,trivial⟩,t3 k _ _ e,.refl _⟩
end
end Go.Proofs.YtonmnfkibnflnaaGreat.R
