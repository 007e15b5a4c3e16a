/-
 The own walk and what it shows,part 3 of 10.
-/
import Derived.KernelRfl
import Derived.Lib.Bytealg
import Derived.ChangeSlices
import Derived.Carry
import Derived.OpenShut
import Derived.WideShapes
import Derived.Test.YtonmnfkibnflnaaGreatProg
import Derived.Lib.Mul64
import Derived.Laws.Bits64
import Derived.Laws.Externs
import Derived.Test.YtonmnfkibnflnaaGreatJ1
import Derived.Test.YtonmnfkibnflnaaGreatJ2
set_option linter.unusedVariables false
set_option linter.unusedSimpArgs false
set_option maxRecDepth 100000
set_option exponentiation.threshold 30000
namespace Go.Proofs.YtonmnfkibnflnaaGreat.R
open Go
section
variable {P:Program} {w:World} {Z:Nat→Prop} {m:Nat→Nat} {H:List HO} {ty:TypeId→Option TI} {C:Env} {ρ:Type} {r:ρ} {st:St} {a:Act}
theorem HG {k:Nat}:∀ (us:List U),Im k us=true→∀ (j:Nat) (u:U),us[j]?=some u→Jy k u=true
 | [],_,j,u,h=>by simp at h
 | x :: us,hb,j,u,h=>by
  simp only [Im,Bool.and_eq_true] at hb
  cases j with
  | zero=>simp at h;exact h ▸ hb.1
  | succ j=>simp at h;exact HG us hb.2 j u h
theorem GP {k o:Nat} (h:o<k):(H.take k)[o]?=H[o]?:=by
 rw [List.getElem?_take,if_pos h]
theorem RepU.take {k:Nat} {u:U} {v:Value} (h:RepU w Z m H u v):Jy k u=true→RepU w Z m (H.take k) u v:=by
 induction h with
 | f x v h=>intro _;exact .f x v h
 | agg cs vs hl hr ih=>intro hb;exact .agg cs vs hl fun j u v hu hv=>ih j u v hu hv (HG cs (by simpa [Jy] using hb) j u hu)
 | tup cs vs hl hr ih=>intro hb;exact .tup cs vs hl fun j u v hu hv=>ih j u v hu hv (HG cs (by simpa [Jy] using hb) j u hu)
 | fn f us vs hl hr ih=>intro hb;exact .fn f us vs hl fun j u v hu hv=>ih j u v hu hv (HG us (by simpa [Jy] using hb) j u hu)
 | hs o gen off len v h1 ho hg hv =>
  intro hb
  simp only [Jy,decide_eq_true_eq] at hb
  obtain ⟨ob,hob,hnf⟩:=ho
  refine .hs o gen off len v h1 ⟨ob,by rw [GP hb];exact hob,hnf⟩ (fun sz n g e=>?_) (fun sz n g e eg=>?_)
  ·rw [GP hb] at e;exact hg _ _ _ e
  ·rw [GP hb] at e;exact hv _ _ _ e eg
 | hp o off v h1 ho hv =>
  intro hb
  simp only [Jy,decide_eq_true_eq] at hb
  obtain ⟨ob,hob,hnf⟩:=ho
  refine .hp o off v h1 ⟨ob,by rw [GP hb];exact hob,hnf⟩ (fun cs e=>?_)
  rw [GP hb] at e;exact hv _ e
 | ep o gen i off v h1 ho hg hv =>
  intro hb
  simp only [Jy,decide_eq_true_eq] at hb
  obtain ⟨ob,hob,hnf⟩:=ho
  refine .ep o gen i off v h1 ⟨ob,by rw [GP hb];exact hob,hnf⟩ (fun sz n g e=>?_) (fun sz n g e eg=>?_)
  ·rw [GP hb] at e;exact hg _ _ _ e
  ·rw [GP hb] at e;exact hv _ _ _ e eg
 | va cs ad hZ V hV hr=>intro _;exact .va cs ad hZ V hV hr
 | nilp=>intro _;exact .nilp
 | nils A=>intro _;exact .nils A
 | nilfn=>intro _;exact .nilfn
 | undef=>intro _;exact .undef
 | bad v=>intro _;exact .bad v
theorem MP {k o:Nat} (h:A0 (H.take k) o):A0 H o:=by
 obtain ⟨ob,h,hl⟩:=h
 rw [List.getElem?_take] at h
 split at h
 ·exact ⟨ob,h,hl⟩
 ·cases h
theorem HOK.take {k:Nat} (hH:HOK w Z m H) (hb:(H.take k).all (Wk k)=true):HOK w Z m (H.take k):=by
 refine ⟨hH.zlt,fun o ho=>hH.apart o (MP ho),fun o o' h h'=>hH.inj o o' (MP h) (MP h'),fun o ob ho=>?_⟩
 have hbb:=List.all_eq_true.1 hb ob (List.mem_of_getElem? ho)
 rw [List.getElem?_take] at ho
 split at ho
 ·have:=hH.ob o ob ho
  cases ob with
  | dead=>trivial
  | free=>trivial
  | arr sz n g=>exact this
  | box cs =>
   obtain ⟨c,el,fr,h1,h2,h3,h4⟩:=this
   refine ⟨c,el,fr,h1,h2,h3,fun j u hu=>?_⟩
   obtain ⟨v,hv,hr⟩:=h4 j u hu
   exact ⟨v,hv,hr.take (HG cs (by simpa [Wk] using hbb) j u hu)⟩
 ·cases ho
theorem Ext.take {w0:World} {Z0:Nat→Prop} {m0:Nat→Nat} {H0:List HO} {k:Nat} (hE:Ext w0 Z0 m0 H0 w Z m H) (hk:H0.length≤k):Ext w0 Z0 m0 H0 w Z m (H.take k):=by
 refine ⟨hE.os,hE.tape,hE.output,hE.size,hE.sub,hE.back,hE.kept,hE.rest,?_,fun o ob ob' h h'=>?_,fun o ho=>hE.new o (MP ho)⟩
 ·have:=hE.len
  rw [List.length_take];omega
 ·have hlt:=(List.getElem?_eq_some_iff.1 h).1
  rw [GP (by omega)] at h'
  exact hE.evol o ob ob' h h'
theorem Vk (lv:List Nat):∀ (us:List U) (i j:Nat) (u:U),(Du lv i us)[j]?=some u→u=.bad ∨ us[j]?=some u
 | [],i,j,u,h=>by simp [Du] at h
 | x :: us,i,j,u,h=>by
  simp only [Du] at h
  cases j with
  | zero =>
   simp only [List.getElem?_cons_zero,Option.some.injEq] at h
   split at h
   ·right;simp [h]
   ·left;exact h.symm
  | succ j=>simp at h;simpa using Vk lv us (i+1) j u h
theorem PM (lv:List Nat):∀ (us:List U) (i:Nat),(Du lv i us).length=us.length
 | [],_=>rfl
 | _ :: us,i=>by simp [Du,PM lv us]
/-! Objects numbered anew. -/
theorem Rw:∀ (ks:List Nat) (o:Nat),Ku ks o=true→ks[idx ks o]?=some o
 | [],o,h=>by simp [Ku] at h
 | x :: xs,o,h=>by
  unfold Ku at h
  unfold idx
  by_cases e:Nat.beq x o=true
  ·rw [if_pos e];simp [Nat.eq_of_beq_eq_true e]
  ·rw [if_neg e]
   have e':Nat.beq x o=false:=Bool.eq_false_iff.2 e
   rw [e',Bool.false_or] at h
   simpa using Rw xs o h
theorem Iq {ks:List Nat}:∀ (us:List U),(Ed us).all (Ku ks)=true→∀ (j:Nat) (u:U),us[j]?=some u→(S3 u).all (Ku ks)=true
 | [],_,j,u,h=>by simp at h
 | x :: us,hb,j,u,h=>by
  simp only [Ed,List.all_append,Bool.and_eq_true] at hb
  cases j with
  | zero=>simp at h;exact h ▸ hb.1
  | succ j=>simp at h;exact Iq us hb.2 j u h
theorem MG {ks:List Nat}:∀ (us:List U) (j:Nat) (u:U),(En ks us)[j]?=some u→∃ x,us[j]?=some x∧u=renU ks x
 | [],j,u,h=>by simp [En] at h
 | x :: us,j,u,h=>by
  cases j with
  | zero=>simp [En] at h;exact ⟨x,rfl,h.symm⟩
  | succ j=>simp [En] at h;simpa using MG us j u h
theorem Gx (ks:List Nat):∀ us:List U,(En ks us).length=us.length
 | []=>rfl
 | _ :: us=>by simp [En,Gx ks us]
section
variable {ks:List Nat} {H':List HO} {m':Nat→Nat}
theorem WW (hH':H'=ks.map fun o=>Gl ks (H.getD o .dead)) {o:Nat} {ob:HO} (hk:Ku ks o=true) (ho:H[o]?=some ob):H'[idx ks o]?=some (Gl ks ob):=by
 subst hH'
 simp [Rw ks o hk,ho]
theorem MH {ob:HO} {sz n:Nat} {g:Nat→F} (h:Gl ks ob=.arr sz n g):ob=.arr sz n g:=by cases ob <;> simp_all [Gl]
theorem lL {ob:HO} {cs:List U} (h:Gl ks ob=.box cs):∃ us,ob=.box us∧cs=En ks us:=by cases ob <;> simp_all [Gl]
theorem Mv {ob:HO} (h:ob ≠ .free):Gl ks ob ≠ .free:=by cases ob <;> simp_all [Gl]
theorem cH {ob:HO}:(Gl ks ob).live=ob.live:=by cases ob <;> rfl
theorem RepU.ren (hH':H'=ks.map fun o=>Gl ks (H.getD o .dead)) (hm:∀ o,Ku ks o=true→m' (idx ks o)=m o) {u:U} {v:Value} (h:RepU w Z m H u v):(S3 u).all (Ku ks)=true→RepU w Z m' H' (renU ks u) v:=by
 have map:∀ (cs:List U) (vs:List Value),(∀ (j:Nat) (u:U) (v:Value),cs[j]?=some u→vs[j]?=some v→(S3 u).all (Ku ks)=true→RepU w Z m' H' (renU ks u) v)→(Ed cs).all (Ku ks)=true→∀ (j:Nat) (u:U) (v:Value),(En ks cs)[j]?=some u→vs[j]?=some v→RepU w Z m' H' u v:=by
  intro cs vs ih hb j u v hu hv
  obtain ⟨x,hx,rfl⟩:=MG cs j u hu
  exact ih j x v hx hv (Iq cs hb j x hx)
 induction h with
 | f x v h=>intro _;exact .f x v h
 | agg cs vs hl hr ih=>intro hb;exact .agg _ vs (by rw [Gx];exact hl) (map cs vs ih (by simpa [S3] using hb))
 | tup cs vs hl hr ih=>intro hb;exact .tup _ vs (by rw [Gx];exact hl) (map cs vs ih (by simpa [S3] using hb))
 | fn f us vs hl hr ih=>intro hb;exact .fn f _ vs (by rw [Gx];exact hl) (map us vs ih (by simpa [S3] using hb))
 | hs o gen off len v h1 ho hg hv =>
  intro hb
  have hb:Ku ks o=true:=by simpa [S3] using hb
  obtain ⟨ob,hob,hnf⟩:=ho
  have hget:=WW hH' hb hob
  refine .hs _ gen off len v h1 ⟨_,hget,Mv hnf⟩ (fun sz n g e=>?_) (fun sz n g e eg=>?_)
  ·rw [hget] at e;exact hg sz n g (by rw [hob,MH (Option.some.inj e)])
  ·rw [hget] at e;rw [hm o hb];exact hv sz n g (by rw [hob,MH (Option.some.inj e)]) eg
 | hp o off v h1 ho hv =>
  intro hb
  have hb:Ku ks o=true:=by simpa [S3] using hb
  obtain ⟨ob,hob,hnf⟩:=ho
  have hget:=WW hH' hb hob
  refine .hp _ off v h1 ⟨_,hget,Mv hnf⟩ (fun cs e=>?_)
  rw [hget] at e
  obtain ⟨us,rfl,_⟩:=lL (Option.some.inj e)
  rw [hm o hb];exact hv _ hob
 | ep o gen i off v h1 ho hg hv =>
  intro hb
  have hb:Ku ks o=true:=by simpa [S3] using hb
  obtain ⟨ob,hob,hnf⟩:=ho
  have hget:=WW hH' hb hob
  refine .ep _ gen i off v h1 ⟨_,hget,Mv hnf⟩ (fun sz n g e=>?_) (fun sz n g e eg=>?_)
  ·rw [hget] at e;exact hg sz n g (by rw [hob,MH (Option.some.inj e)])
  ·rw [hget] at e;rw [hm o hb];exact hv sz n g (by rw [hob,MH (Option.some.inj e)]) eg
 | va cs ad hZ V hV hr=>intro _;exact .va cs ad hZ V hV hr
 | nilp=>intro _;exact .nilp
 | nils A=>intro _;exact .nils A
 | nilfn=>intro _;exact .nilfn
 | undef=>intro _;exact .undef
 | bad v=>intro _;exact .bad v
end
theorem dP (hn:Nat) (q:Nat→Bool) (n:Nat):(List.range hn++(List.range n).filter fun o=>(!Nat.blt o hn)&&q o).Nodup:=by
 rw [List.nodup_append]
 refine ⟨List.nodup_range,List.nodup_range.filter _,?_⟩
 intro a ha b hb e
 subst e
 rw [List.mem_range] at ha
 simp only [List.mem_filter,Bool.and_eq_true,Bool.not_eq_true'] at hb
 have:=hb.2.1
 unfold Nat.blt at this
 have h2:Nat.ble (a+1) hn=true:=Nat.ble_eq_true_of_le ha
 rw [Nat.succ_eq_add_one,h2] at this
 cases this
theorem N7:∀ (ks:List Nat),ks.Nodup→∀ (j o:Nat),ks[j]?=some o→idx ks o=j
 | [],_,j,o,h=>by simp at h
 | x :: xs,hn,j,o,h=>by
  rw [List.nodup_cons] at hn
  unfold idx
  cases j with
  | zero =>
   simp at h;subst h
   rw [if_pos (Nat.beq_refl x)]
  | succ j =>
   simp at h
   have hne:¬ Nat.beq x o=true:=fun e=>hn.1 (Nat.eq_of_beq_eq_true e ▸ List.mem_of_getElem? h)
   rw [if_neg hne,N7 xs hn.2 j o h]
theorem tU {hn:Nat} {us:List U} {K:St→Option ρ} {w0:World} {Z0:Nat→Prop} {m0:Nat→Nat} {H0:List HO} (hl:us.length=a.tmps.size) (hus:∀ (i:Nat) (u:U) (v:Value),us[i]?=some u→a.tmps[i]?=some v→RepU w Z m H u v) (hok:HOK w Z m H)
  (hE:Ext w0 Z0 m0 H0 w Z m H) (hhn:hn=H0.length) {vs:List U} (h:evGc hn us H (M4 hn H vs) K=some r):∃ st' m',K st'=some r∧AOK w Z m' st' a∧Ext w0 Z0 m0 H0 w Z m' st'.heap:=by
 unfold evGc at h
 replace h:=AI h;obtain ⟨h1,h⟩:=h
 simp only [Bool.and_eq_true,decide_eq_true_eq] at h1
 obtain ⟨⟨h1,h2⟩,h3⟩:=h1
 have hnd:(M4 hn H vs).Nodup:=dP hn _ _
 have hpre:∀ o,o<hn→(M4 hn H vs)[o]?=some o:=fun o ho=>by
  unfold M4
  rw [List.getElem?_append_left (by simpa using ho),List.getElem?_range ho]
 generalize hks:M4 hn H vs=ks at *
 have hidx:∀ o,o<hn→idx ks o=o:=fun o ho=>N7 ks hnd o o (hpre o ho)
 let m':Nat→Nat:=fun j=>m (ks.getD j 0)
 have hm:∀ o,Ku ks o=true→m' (idx ks o)=m o:=fun o ho=>by
  have:=Rw ks o ho
  simp only [m',List.getD,this,Option.getD_some]
 have hget:∀ (j:Nat) (ob:HO),(ks.map fun o=>Gl ks (H.getD o .dead))[j]?=some ob→∃ o,ks[j]?=some o∧m' j=m o∧ob=Gl ks (H.getD o .dead):=fun j ob hj=>by
  rw [List.getElem?_map] at hj
  cases hk:ks[j]? with
  | none=>rw [hk] at hj;cases hj
  | some o=>rw [hk] at hj;cases hj;exact ⟨o,rfl,by simp [m',List.getD,hk],rfl⟩
 have hlive:∀ j,A0 (ks.map fun o=>Gl ks (H.getD o .dead)) j→∃ o,ks[j]?=some o∧m' j=m o∧A0 H o:=fun j ⟨ob,hj,hl⟩=>by
  obtain ⟨o,h1,h2,rfl⟩:=hget j ob hj
  rw [cH] at hl
  refine ⟨o,h1,h2,?_⟩
  cases ho:H[o]? with
  | none=>simp [List.getD,ho,HO.live] at hl
  | some ob=>exact ⟨ob,ho,by simpa [List.getD,ho] using hl⟩
 have hH':(ks.map fun o=>Gl ks (H.getD o .dead))=ks.map fun o=>Gl ks (H.getD o .dead):=rfl
 refine ⟨_,m',h,⟨by simp [Gx,hl],fun i u v hu hv=>?_,⟨hok.zlt,?_,?_,?_⟩⟩,?_⟩
 ·obtain ⟨x,hx,rfl⟩:=MG us i u hu
  exact (hus i x v hx hv).ren rfl hm (Iq us h2 i x hx)
 ·intro j hj
  obtain ⟨o,_,e,ho⟩:=hlive j hj
  rw [e];exact hok.apart o ho
 ·intro j j' hj hj' e
  obtain ⟨o,h1,e1,ho⟩:=hlive j hj
  obtain ⟨o',h1',e1',ho'⟩:=hlive j' hj'
  rw [e1,e1'] at e
  have:=hok.inj o o' ho ho' e
  subst this
  rw [← N7 ks hnd j o h1,← N7 ks hnd j' o h1']
 ·intro j ob hj
  obtain ⟨o,h1,e,rfl⟩:=hget j ob hj
  cases ho:H[o]? with
  | none=>simp [List.getD,ho,Gl,Ij]
  | some ob0 =>
   have hob:=hok.ob o ob0 ho
   simp only [List.getD,ho,Option.getD_some,e]
   cases ob0 with
   | dead=>trivial
   | free=>trivial
   | arr sz n g=>exact hob
   | box cs =>
    obtain ⟨c,el,fr,q1,q2,q3,q4⟩:=hob
    refine ⟨c,el,fr,q1,q2,by rw [Gx];exact q3,fun j u hu=>?_⟩
    obtain ⟨x,hx,rfl⟩:=MG cs j u hu
    obtain ⟨v,hv,hr⟩:=q4 j x hx
    refine ⟨v,hv,hr.ren rfl hm ?_⟩
    have hmem:=List.mem_of_getElem? h1
    have:=List.all_eq_true.1 h3 o hmem
    simp only [List.getD,ho,Option.getD_some,cW] at this
    exact Iq cs this j x hx
 ·refine ⟨hE.os,hE.tape,hE.output,hE.size,hE.sub,hE.back,hE.kept,hE.rest,?_,?_,?_⟩
  ·rw [← hhn]
   simp only [List.length_map]
   rw [← hks]
   unfold M4
   rw [List.length_append,List.length_range]
   omega
  ·intro o ob ob' ho ho'
   have hlt:o<hn:=by rw [hhn];exact (List.getElem?_eq_some_iff.1 ho).1
   obtain ⟨o1,k1,e,rfl⟩:=hget o ob' ho'
   rw [hpre o hlt] at k1;cases k1
   have hlt2:o<H.length:=Nat.lt_of_lt_of_le hlt h1
   have:=hE.evol o ob H[o] ho (List.getElem?_eq_getElem hlt2)
   simp only [List.getD,List.getElem?_eq_getElem hlt2,Option.getD_some,e]
   generalize H[o]=ob1 at this
   cases ob <;> cases ob1 <;> simp_all [CA,Gl,Gx]
  ·intro j hj
   obtain ⟨o,h1,e,ho⟩:=hlive j hj
   rcases hE.new o ho with ⟨h2,h3⟩ | h2
   ·obtain ⟨ob,hob,_⟩:=id h2
    have hlt:o<hn:=by rw [hhn];exact (List.getElem?_eq_some_iff.1 hob).1
    have:j=o:=by rw [← N7 ks hnd j o h1,hidx o hlt]
    subst this
    exact .inl ⟨h2,by rw [e,h3]⟩
   ·exact .inr (by rw [e];exact h2)
theorem cY {hn k:Nat} {lv:List Nat} {K:St→Option ρ} {w0:World} {Z0:Nat→Prop} {m0:Nat→Nat} {H0:List HO} (hA:AOK w Z m st a) (hE:Ext w0 Z0 m0 H0 w Z m st.heap) (hhn:hn=H0.length)
  (h:dY hn lv k st K=some r):∃ st' m',K st'=some r∧AOK w Z m' st' a∧Ext w0 Z0 m0 H0 w Z m' st'.heap:=by
 have hclear:∀ (i:Nat) (u:U) (v:Value),(Du lv 0 st.tmps)[i]?=some u→a.tmps[i]?=some v→RepU w Z m st.heap u v:=fun i u v hu hv=>by
  rcases Vk lv _ _ _ _ hu with rfl | hu'
  ·exact .bad v
  ·exact hA.rep i u v hu' hv
 unfold dY at h
 cases hc:Nat.ble 1000 k with
 | true =>
  rw [hc,AH] at h
  exact tU (by simp [PM,hA.len]) hclear hA.hok hE hhn h
 | false =>
  rw [hc,AJ] at h
  replace h:=AI h;obtain ⟨h1,h⟩:=h
  simp only [Bool.and_eq_true,decide_eq_true_eq] at h1
  obtain ⟨⟨h1,h2⟩,h3⟩:=h1
  exact ⟨_,m,h,⟨by simp [PM,hA.len],fun i u v hu hv=>(hclear i u v hu hv).take (HG _ h2 i u hu),hA.hok.take h3⟩,hE.take (hhn ▸ h1)⟩
def P2 (P:Program) (hn:Nat) (rs:List ResultVar) (w0:World) (Z0:Nat→Prop) (m0:Nat→Nat) (H0:List HO) (ds:List Deferred) (b:Frame) (cs:List Frame) (M:Machine):End→Prop
 | .ret x=>∃ st' a' w' todo,S0 P hn rs st'=some x∧Pe w0 Z0 m0 H0 ds st' a' w'∧Steps P M (lone { b.at a' todo with mode:=.returning } cs w')
 | .cut items st'=>∃ a' w',Pe w0 Z0 m0 H0 ds st' a' w'∧Steps P M (lone (b.at a' items) cs w')
theorem P2.head {hn:Nat} {rs:List ResultVar} {w0:World} {Z0:Nat→Prop} {m0:Nat→Nat} {H0:List HO} {ds:List Deferred} {b:Frame} {cs:List Frame} {M M':Machine} {e:End} (hs:Steps P M M') (h:P2 P hn rs w0 Z0 m0 H0 ds b cs M' e):P2 P hn rs w0 Z0 m0 H0 ds b cs M e:=by
 cases e with
 | ret x=>obtain ⟨st',a',w',todo,h1,h2,h3⟩:=h;exact ⟨st',a',w',todo,h1,h2,hs.trans h3⟩
 | cut items st'=>obtain ⟨a',w',h1,h2⟩:=h;exact ⟨a',w',h1,hs.trans h2⟩
theorem Tq (hty:Hg P ty) (hC:Az P C) {w0:World} {Z0:Nat→Prop} {m0:Nat→Nat} {H0:List HO} {ds:List Deferred} {id:Nat} {ops:Array Oper} {draw:Bool} {K:St→Option ρ}
  (hA:AOK w Z m st a) (hd:a.defers=ds) (hE:Ext w0 Z0 m0 H0 w Z m st.heap) (h:Ze P ty C ops draw st K=some r) :
  (Code.region id ops draw).wp P (fun e a' w'=>e=.normal∧∃ st',K st'=some r∧Pe w0 Z0 m0 H0 ds st' a' w') a w:=by
 cases draw with
 | true=>exact eJ hty hC hA hd hE h
 | false =>
  have hw:=Hz hty hC (List.range ops.size) st a w Z m hA hd hE h
  intro b k cs
  obtain ⟨e,a1,w1,hq,harr⟩:=wp_ops _ a w hw b k cs
  exact ⟨e,a1,w1,hq,.of_steps (.one step_region) harr⟩
theorem Tc (hty:Hg P ty) (hC:Az P C) {T:Tab} {hn:Nat} {rs:List ResultVar} {K:End→Option ρ} {w0:World} {Z0:Nat→Prop} {m0:Nat→Nat} {H0:List HO} {ds:List Deferred} (hhn:hn=H0.length) :
  ∀ (n:Nat) (items:List Item) (st:St) (a:Act) (w:World) (Z:Nat→Prop) (m:Nat→Nat),AOK w Z m st a→a.defers=ds→Ext w0 Z0 m0 H0 w Z m st.heap→run P ty C T hn rs K n items st=some r →
   ∀ (b:Frame) (cs:List Frame),∃ e,K e=some r∧P2 P hn rs w0 Z0 m0 H0 ds b cs (lone (b.at a items) cs w) e:=by
 intro n
 induction n with
 | zero=>intro items st a w Z m hA hd hE h;cases h
 | succ n ih =>
  intro items st a w Z m hA hd hE h b cs
  have one:∀ {items':List Item},step P (lone (b.at a items) cs w)=.next (lone (b.at a items') cs w)→run P ty C T hn rs K n items' st=some r →
    ∃ e,K e=some r∧P2 P hn rs w0 Z0 m0 H0 ds b cs (lone (b.at a items) cs w) e:=by
   intro items' hs hr
   obtain ⟨e,h1,h2⟩:=ih items' st a w Z m hA hd hE hr b cs
   exact ⟨e,h1,h2.head (.one hs)⟩
  have back:∀ {todo:List Item},step P (lone (b.at a items) cs w)=.next (lone { b.at a todo with mode:=.returning } cs w)→qM P hn rs K st=some r →
    ∃ e,K e=some r∧P2 P hn rs w0 Z0 m0 H0 ds b cs (lone (b.at a items) cs w) e:=by
   intro todo hs hr
   obtain ⟨x,hx,hr⟩:=lK hr
   exact ⟨_,hr,st,a,w,todo,hx,⟨hd,Z,m,hA,hE⟩,.one hs⟩
  cases items with
  | nil=>exact back step_end (by simpa only [run] using h)
  | cons it k =>
   cases it with
   | code c =>
    cases c with
    | skip=>exact one step_skip (by simpa only [run] using h)
    | label l=>exact one step_label (by simpa only [run] using h)
    | region id ops draw =>
     simp only [run] at h
     split at h
     ·obtain ⟨e,a1,w1,⟨rfl,st1,hk,hd1,Z1,m1,hA1,hE1⟩,harr⟩:=Tq (id:=id) hty hC hA hd hE h b k cs
      obtain ⟨e,h1,h2⟩:=ih k st1 a1 w1 Z1 m1 hA1 hd1 hE1 hk b cs
      exact ⟨e,h1,h2.head harr⟩
     ·rename_i lv hh _
      obtain ⟨st1,m1,hk,hA1,hE1⟩:=cY hA hE hhn h
      exact ⟨_,hk,a,w,⟨hd,Z,m1,hA1,hE1⟩,.refl _ _⟩
    | seq x y=>exact one step_seq (by simpa only [run] using h)
    | cond c x y =>
     simp only [run] at h
     split at h
     ·rename_i bb hb
      have hc:=CE hA c
      rw [hb] at hc
      have hc:=Ie hc
      cases bb with
      | true=>exact one (step_cond hc) h
      | false=>exact one (step_cond hc) h
     ·cases h
    | block id c=>exact one step_block (by simpa only [run] using h)
    | loop c=>exact one step_loop (by simpa only [run] using h)
    | exit id =>
     simp only [run] at h
     split at h
     ·rename_i k' hk
      exact one (step_exit hk) h
     ·cases h
    | goto l =>
     simp only [run] at h
     split at h
     ·rename_i k' hk
      exact one (step_goto hk) h
     ·cases h
    | ret=>exact back step_ret (by simpa only [run] using h)
    | _=>simp only [run] at h;cases h
   | inBlock id=>exact one step_inBlock (by simpa only [run] using h)
   | inLoop c=>exact one step_inLoop (by simpa only [run] using h)
   | _=>simp only [run] at h;cases h
theorem WQ (hty:Hg P ty) (hC:Az P C) {T:Tab} {hn:Nat} {rs:List ResultVar} {K:End→Option ρ} {w0:World} {Z0:Nat→Prop} {m0:Nat→Nat} {H0:List HO} {ds:List Deferred} (hhn:hn=H0.length)
  (n:Nat) (items:List Item) (st:St) (a:Act) (w:World) (Z:Nat→Prop) (m:Nat→Nat) (hA:AOK w Z m st a) (hd:a.defers=ds) (hE:Ext w0 Z0 m0 H0 w Z m st.heap) (h:bZ P ty C T hn rs K n items st=some r)
  (b:Frame) (cs:List Frame):∃ e,K e=some r∧P2 P hn rs w0 Z0 m0 H0 ds b cs (lone (b.at a items) cs w) e:=by
 unfold bZ at h
 split at h
 ·rename_i id ops draw k
  obtain ⟨e,a1,w1,⟨rfl,st1,hk,hd1,Z1,m1,hA1,hE1⟩,harr⟩:=Tq (id:=id) hty hC hA hd hE h b k cs
  obtain ⟨e,h1,h2⟩:=Tc hty hC hhn n k st1 a1 w1 Z1 m1 hA1 hd1 hE1 hk b cs
  exact ⟨e,h1,h2.head harr⟩
 ·cases h
end
def Cx (ntmps:Nat) (us:List U) (H:List HO):St:=⟨us++List.replicate (ntmps-us.length) .undef,H⟩
def start (ntmps:Nat) (us:List U):St:=⟨us++List.replicate (ntmps-us.length) .undef,[]⟩
section
variable {P:Program} {w:World} {Z:Nat→Prop} {m:Nat→Nat} {H:List HO} {ty:TypeId→Option TI} {C:Env} {ρ:Type} {r:ρ} {st:St} {a:Act}
theorem JO (hA:AOK w Z m st a):∀ (rs:List ResultVar) (us:List U),Oo P st rs=some us →
  ∃ vs,(rs.mapM (m:=Sem) fun | .tmp t=>pure (a.tmps.getD t undef) | .cell x t=>do loadVar t (← asAddr (a.tmps.getD x undef))).run P w=.ok vs w∧Ck w Z m st.heap us vs
 | [],us,h=>by
  simp only [Oo,Option.some.injEq] at h
  subst h
  exact ⟨[],by simp,rfl,fun j u v hu=>by simp at hu⟩
 | .cell x t :: rs,us,h=>by
  simp only [Oo] at h
  split at h
  ·rename_i o ti us' hx hti h'
   split at h
   case isFalse=>cases h
   have hr:=CE hA (.tmp x)
   simp only [St.ev,Act.eval] at hr
   rw [hx] at hr
   obtain ⟨u,hk,v,hv,hu⟩:=Re (P:=P) hti hA.hok hr h
   cases hk
   obtain ⟨vs,h1,h2⟩:=JO hA rs us' h'
   obtain ⟨ad,had⟩:∃ ad,a.tmps.getD x undef=.pointer (some ad):=by
    simp only [IR] at h
    split at h
    ·rename_i cs ho
     cases hr with | hp _ _ _ _ _ hvv=>exact ⟨_,hvv _ ho⟩
    ·cases h
   refine ⟨v :: vs,?_,by simp [h2.1],fun j u' v' hu' hv'=>?_⟩
   ·rw [List.mapM_cons]
    rw [had] at hv
    simp only []
    rw [had]
    have hv:(loadVar t ad).run P w=.ok v w:=by simpa [Instr.loadAt,Instr.sureAddr,pure_bind] using hv
    have ha:(asAddr (.pointer (some ad))).run P w=.ok ad w:=rfl
    simp only [Sem.run_bind,ha,Sem.run_pure,Result.andThen,h1,hv]
   ·cases j with
    | zero=>simp at hu' hv';subst hu';subst hv';exact hu
    | succ j=>simp at hu' hv';exact h2.2 j u' v' hu' hv'
  ·cases h
 | .tmp t :: rs,us,h=>by
  simp only [Oo] at h
  split at h
  ·rename_i us' h'
   cases h
   obtain ⟨vs,h1,h2⟩:=JO hA rs us' h'
   refine ⟨a.tmps.getD t undef :: vs,?_,by simp [h2.1],fun j u v hu hv=>?_⟩
   ·rw [List.mapM_cons]
    simp only [Sem.run_bind,Sem.run_pure,Result.andThen,h1]
   ·cases j with
    | zero =>
     simp only [List.getElem?_cons_zero,Option.some.injEq] at hu hv
     subst hu;subst hv
     exact CE hA (.tmp t)
    | succ j=>simp only [List.getElem?_cons_succ] at hu hv;exact h2.2 j u v hu hv
  ·cases h
def Ct (P:Program) (hn:Nat) (rs:List ResultVar) (items:List Item) (st:St) (x:F):Prop :=
 ∀ (w0:World) (Z0:Nat→Prop) (m0:Nat→Nat) (H0:List HO) (ds:List Deferred) (a:Act) (w:World) (Z:Nat→Prop) (m:Nat→Nat),hn=H0.length→AOK w Z m st a→a.defers=ds→Ext w0 Z0 m0 H0 w Z m st.heap →
  ∀ (b:Frame) (cs:List Frame),P2 P hn rs w0 Z0 m0 H0 ds b cs (lone (b.at a items) cs w) (.ret x)
abbrev AX (P:Program) (rs:List ResultVar) (items:List Item) (st:St) (x:F):Prop:=Ct P 0 rs items st x
def EndsE (P:Program) (hn:Nat) (rs:List ResultVar) (x:F):End→Prop
 | .ret y=>y=x
 | .cut items st=>Ct P hn rs items st x
def TJ (P:Program) (hn:Nat) (rs:List ResultVar) (x:F) (o:Option End):Prop:=∃ e,o=some e∧EndsE P hn rs x e
theorem AX.of_run (hty:Hg P ty) (hC:Az P C) {T:Tab} {hn:Nat} {rs:List ResultVar} {n:Nat} {items:List Item} {x:F} (h:TJ P hn rs x (run P ty C T hn rs some n items st)):Ct P hn rs items st x:=by
 obtain ⟨e,he,hs⟩:=h
 intro w0 Z0 m0 H0 ds a w Z m hhn hA hd hE b cs
 obtain ⟨e',h1,h2⟩:=Tc hty hC hhn n items st a w Z m hA hd hE he b cs
 cases h1
 cases e with
 | ret y=>cases hs;exact h2
 | cut items' st' =>
  obtain ⟨a',w',⟨hd',Z',m',hA',hE'⟩,hst⟩:=h2
  exact (hs w0 Z0 m0 H0 ds a' w' Z' m' hhn hA' hd' hE' b cs).head hst
theorem AX.of_cut (hty:Hg P ty) (hC:Az P C) {T:Tab} {hn:Nat} {rs:List ResultVar} {n:Nat} {items:List Item} {x:F} (h:TJ P hn rs x (bZ P ty C T hn rs some n items st)):Ct P hn rs items st x:=by
 obtain ⟨e,he,hs⟩:=h
 intro w0 Z0 m0 H0 ds a w Z m hhn hA hd hE b cs
 obtain ⟨e',h1,h2⟩:=WQ hty hC hhn n items st a w Z m hA hd hE he b cs
 cases h1
 cases e with
 | ret y=>cases hs;exact h2
 | cut items' st' =>
  obtain ⟨a',w',⟨hd',Z',m',hA',hE'⟩,hst⟩:=h2
  exact (hs w0 Z0 m0 H0 ds a' w' Z' m' hhn hA' hd' hE' b cs).head hst
theorem B2 {f:FuncId} {fn:Func} {c:Code} (hf:P.funcs[f]?=some fn) (hb:fn.body=some c) (hodd:Mi fn=false) {pre:List F→Bool} {res:List F→F}
  (h:∀ xs,pre xs=true→AX P fn.results.toList [.code c] (start fn.ntmps (xs.map .f)) (res xs)):Ak P f pre res:=by
 have hname:=RW hodd
 have hmark:=RX hodd
 intro xs hp w Z args hZ hL
 refine .inl ⟨by
  have hp:(program).run P w=.ok P w:=rfl
  unfold callFunc
  simp only [Sem.run_bind,hp,Result.andThen,hf,hname,hb,Option.isNone_some,Bool.false_eq_true,if_false,Sem.run_pure],fun cs=>?_⟩
 have hlen:xs.length=args.size:=by simpa using hL.1
 have hA:AOK w Z (fun _=>0) (start fn.ntmps (xs.map .f)) { tmps:=args++Array.replicate (fn.ntmps-args.size) undef,defers:=[] }:=by
  refine ⟨by simp [start,hlen],fun i u v hu hv=>?_,?_⟩
  ·simp only [start,List.length_map] at hu
   rw [List.getElem?_append] at hu
   rw [Array.getElem?_append] at hv
   simp only [List.length_map] at hu
   split at hu
   ·rename_i hi
    rw [if_pos (by omega)] at hv
    rw [List.getElem?_map] at hu
    cases hx:xs[i]? with
    | none=>rw [hx] at hu;cases hu
    | some x =>
     rw [hx] at hu;cases hu
     exact .f _ _ (hL.2 i x v hx (by simpa using hv))
   ·rename_i hi
    rw [if_neg (by omega)] at hv
    rw [List.getElem?_replicate] at hu
    rw [Array.getElem?_replicate] at hv
    split at hu
    ·split at hv
     ·cases hu;cases hv;exact .undef
     ·cases hv
    ·cases hu
  ·exact ⟨hZ,fun o ⟨ob,ho,_⟩=>by simp [start] at ho,fun o o' ⟨ob,ho,_⟩=>by simp [start] at ho,fun o ob ho=>by simp [start] at ho⟩
 let b:Frame:={ (default:Frame) with fn:=f,kind:=.normal }
 have henter:Frame.enter P f args .normal=b.at { tmps:=args++Array.replicate (fn.ntmps-args.size) undef,defers:=[] } [.code c]:=by
  simp [Frame.enter,Frame.at,hf,hb,b]
 obtain ⟨st',a',w',todo,hk,⟨hd,Z',m',hA',hE'⟩,hs⟩:=h xs hp w Z (fun _=>0) [] [] _ w Z (fun _=>0) rfl hA rfl (Ext.refl _ _ _ _) b cs
 unfold S0 at hk
 rw [hmark,Rh hmark] at hk
 simp only [Bool.false_and,Bool.false_eq_true,if_false] at hk
 split at hk
 ·rename_i us hus
  split at hk
  ·rename_i ys hys
   obtain ⟨vs,hvs,hR⟩:=JO (P:=P) hA' _ _ hus
   have hlive0:∀ o,¬ A0 ([]:List HO) o:=fun o ⟨ob,ho,_⟩=>by simp at ho
   let Z2:Nat→Prop:=fun b=>Z' b ∨ ∃ o,A0 st'.heap o∧m' o=b
   have hL2:Kw w' Z2 ys vs:=by
    obtain ⟨hl,hg⟩:=Bk us ys hys
    refine ⟨by rw [← hl];exact hR.1,fun j x v hx' hv=>?_⟩
    have hj:=(List.getElem?_eq_some_iff.1 hx').1
    have hu':us[j]?=some us[j]:=List.getElem?_eq_getElem (by omega)
    refine (In hA'.hok (fun _ _ h=>h) (hR.2 j _ v hu' hv) (hg j _ x hu' hx')).mono ?_ (fun _ _=>rfl)
    rintro b (hb | ⟨o,ho,hlv,rfl⟩)
    ·exact .inl hb
    ·exact .inr ⟨o,hlv,rfl⟩
   have hres:(results fn a'.tmps).run P w'=.ok (if h:vs.toArray.size=1 then vs.toArray[0] else .tuple vs.toArray) w':=by
    unfold results
    rw [← Array.toArray_toList (xs:=fn.results),List.mapM_toArray]
    simp only [Sem.run_bind,Sem.run_map]
    refine (congrArg (fun q=>Result.andThen (Result.andThen q fun x w=>Result.ok x.toArray w) fun vs w=>(pure (if h:vs.size=1 then vs[0] else .tuple vs):Sem Value).run P w) hvs).trans ?_
    simp [Result.andThen]
   refine ⟨.returned _,w',{ b.at a' todo with mode:=.returning },?_,?_,rfl,rfl,hd,rfl,fn,hf,hres⟩
   ·refine ⟨⟨hE'.os,hE'.tape,hE'.output,hE'.size,fun b hb=>hE'.rest b hb fun o ho=>absurd ho (hlive0 o)⟩,Z2,?_,?_⟩
    ·rintro b (hb | ⟨o,hlv,rfl⟩)
     ·have hlt:=hA'.hok.zlt b hb
      rcases hE'.back b hb with h | h | ⟨o,ho,_⟩
      ·exact .inl h
      ·exact .inr ⟨h,hlt⟩
      ·exact absurd ho (hlive0 o)
     ·rcases hE'.new o hlv with ⟨h,_⟩ | h
      ·exact absurd h (hlive0 o)
      ·exact .inr ⟨h,hA'.hok.blk_lt hlv⟩
    ·have hrs:res xs=Xs ys:=(Option.some.inj hk).symm
     rw [hrs]
     match ys,vs,hL2 with
     | [y],[v],hL2=>exact hL2.2 0 y v rfl rfl
     | [],[],hL2=>exact .tup [] [] rfl hL2.2
     | y1 :: y2 :: ys,v1 :: v2 :: vs,hL2 =>
      have:RepF w' Z2 (.tup (y1 :: y2 :: ys)) (.tuple (v1 :: v2 :: vs).toArray):=.tup _ _ hL2.1 hL2.2
      simpa [Xs] using this
     | [_],[],hL2=>have:=hL2.1;simp at this
     | [_],_ :: _ :: _,hL2=>have:=hL2.1;simp at this
     | [],_ :: _,hL2=>have:=hL2.1;simp at this
     | _ :: _ :: _,[],hL2=>have:=hL2.1;simp at this
     | _ :: _ :: _,[_],hL2=>have:=hL2.1;simp at this
   ·rw [henter];exact hs
  ·cases hk
 ·cases hk
end
end Go.Proofs.YtonmnfkibnflnaaGreat.R
namespace Go.Proofs.YtonmnfkibnflnaaGreat.R
open Go Go.RowKit
section
variable {P:Program} {w:World} {Z:Nat→Prop} {m:Nat→Nat} {H H':List HO} {hn:Nat} {rs:List ResultVar} {x:F}
theorem gS {R:Type} {c:Bool} {X Y:Option End} {A B:Option R} {r:R} (h:AD c A B=some r) (h1:c=true→A=some r→TJ P hn rs x X) (h2:c=false→B=some r→TJ P hn rs x Y):TJ P hn rs x (AD c X Y):=by
 cases c with
 | true=>exact h1 rfl h
 | false=>exact h2 rfl h
theorem gR {y:F} (h:y=x):TJ P hn rs x (some (.ret y)):=⟨_,rfl,h⟩
theorem gC {items:List Item} {st:St} (h:Ct P hn rs items st x):TJ P hn rs x (some (.cut items st)):=⟨_,rfl,h⟩
theorem gE {X Y:Option End} (e:X=Y) (h:TJ P hn rs x Y):TJ P hn rs x X:=e ▸ h
theorem gN {R:Type} {r:R} {c:Prop} {Y:Option End} (_:c) (h:(none:Option R)=some r):TJ P hn rs x Y:=nomatch h
def Al:Nat→List U→List U
 | 0,l=>l
 | n+1,l=>.bad :: Al n l
def Ik (ob ob':HO):Prop:=ob'=ob ∨ ∃ sz n g g',ob=.arr sz n g∧ob'=.arr sz n g'∧∀ j,j<n→g j=g' j
def HLe (H H':List HO):Prop:=H.length=H'.length∧∀ (o:Nat) (ob ob':HO),H[o]?=some ob→H'[o]?=some ob'→Ik ob ob'
theorem HLe.get (h:HLe H H') {o:Nat} {ob':HO} (ho:H'[o]?=some ob'):∃ ob,H[o]?=some ob∧Ik ob ob':=by
 have hlt:=(List.getElem?_eq_some_iff.1 ho).1
 have:o<H.length:=by rw [h.1];exact hlt
 exact ⟨_,List.getElem?_eq_getElem this,h.2 _ _ _ (List.getElem?_eq_getElem this) ho⟩
theorem RepU.hle (h:HLe H H') {u:U} {v:Value} (hu:RepU w Z m H u v):RepU w Z m H' u v:=by
 have hk:∀ {o:Nat},known H o→known H' o:=by
  rintro o ⟨ob,ho,hn⟩
  have hlt:=(List.getElem?_eq_some_iff.1 ho).1
  have hlt':o<H'.length:=by rw [← h.1];exact hlt
  have ho':H'[o]?=some H'[o]:=List.getElem?_eq_getElem hlt'
  refine ⟨_,ho',?_⟩
  rcases h.2 o _ _ ho ho' with e | ⟨sz,n,g,g',e1,e2,_⟩
  ·rw [e];exact hn
  ·rw [e2];simp
 have harr:∀ {o sz n:Nat} {g':Nat→F},H'[o]?=some (.arr sz n g')→∃ g,H[o]?=some (.arr sz n g):=by
  intro o sz n g' ho
  obtain ⟨ob,hob,e | ⟨sz',n',g1,g2,e1,e2,_⟩⟩:=h.get ho
  ·exact ⟨_,by rw [hob,← e]⟩
  ·cases e2;exact ⟨_,by rw [hob,e1]⟩
 have hbox:∀ {o:Nat} {cs:List U},H'[o]?=some (.box cs)→H[o]?=some (.box cs):=by
  intro o cs ho
  obtain ⟨ob,hob,e | ⟨sz',n',g1,g2,e1,e2,_⟩⟩:=h.get ho
  ·rw [hob,← e]
  ·cases e2
 induction hu with
 | f x v h=>exact .f x v h
 | agg cs vs hl hr ih=>exact .agg cs vs hl ih
 | tup cs vs hl hr ih=>exact .tup cs vs hl ih
 | hs o gen off len v h1 ho hg hv =>
  exact .hs o gen off len v h1 (hk ho) (fun sz n g e=>by obtain ⟨g0,e0⟩:=harr e;exact hg _ _ _ e0) (fun sz n g e eg=>by obtain ⟨g0,e0⟩:=harr e;exact hv _ _ _ e0 eg)
 | hp o off v h1 ho hv=>exact .hp o off v h1 (hk ho) (fun cs e=>hv _ (hbox e))
 | ep o gen i off v h1 ho hg hv =>
  exact .ep o gen i off v h1 (hk ho) (fun sz n g e=>by obtain ⟨g0,e0⟩:=harr e;exact hg _ _ _ e0) (fun sz n g e eg=>by obtain ⟨g0,e0⟩:=harr e;exact hv _ _ _ e0 eg)
 | va cs a hZ V hV hr=>exact .va cs a hZ V hV hr
 | nilp=>exact .nilp
 | nils A=>exact .nils A
 | fn f us vs hl hr ih=>exact .fn f us vs hl ih
 | nilfn=>exact .nilfn
 | undef=>exact .undef
 | bad v=>exact .bad v
def FLe (x y:F):Prop:=∀ (w:World) (Z:Nat→Prop) (v:Value),RepF w Z x v→RepF w Z y v
theorem FLe.refl (x:F):FLe x x:=fun _ _ _ h=>h
theorem FLe.sl {n:Nat} {g g':Nat→F} (h:∀ j,j<n→g j=g' j):FLe (.sl n g) (.sl n g'):=by
 intro w Z v hv
 cases hv with
 | sl _ _ A c sz a V hc hs hk hA hV hr =>
  exact .sl n g' A c sz a V hc (fun i hi=>by rw [← h i hi];exact hs i hi) (fun i j u hi hu=>hk i j u hi (by rw [h i hi];exact hu)) hA (fun i j u hi hu=>hV i j u hi (by rw [h i hi];exact hu))
   (fun i j u hi hu=>hr i j u hi (by rw [h i hi];exact hu))
def ULe (u u':U):Prop:=u'=.bad ∨ ∀ (w:World) (Z:Nat→Prop) (m:Nat→Nat) (H:List HO) (v:Value),RepU w Z m H u v→RepU w Z m H u' v
theorem ULe.refl (u:U):ULe u u:=.inr fun _ _ _ _ _ h=>h
theorem ULe.f {x y:F} (h:FLe x y):ULe (.f x) (.f y):=.inr fun w Z m H v hv=>by cases hv with | f _ _ hv=>exact .f _ _ (h _ _ _ hv)
def QK:List U→List U→Prop
 | [],[]=>True
 | u :: us,u' :: us'=>ULe u u'∧QK us us'
 | _,_=>False
theorem QK.refl:∀ us:List U,QK us us
 | []=>trivial
 | u :: us=>⟨.refl u,.refl us⟩
theorem QK.get:∀ {us us':List U},QK us us'→us.length=us'.length∧∀ (i:Nat) (u':U),us'[i]?=some u'→∃ u,us[i]?=some u∧ULe u u'
 | [],[],_=>⟨rfl,fun i u' h=>by simp at h⟩
 | u :: us,u1 :: us',h=>by
  obtain ⟨h1,h2⟩:=QK.get h.2
  refine ⟨by simp [h1],fun i u' hi=>?_⟩
  cases i with
  | zero=>simp at hi;subst hi;exact ⟨u,rfl,h.1⟩
  | succ i=>simp at hi;obtain ⟨u2,h3,h4⟩:=h2 i u' hi;exact ⟨u2,by simpa using h3,h4⟩
 | [],_ :: _,h=>h.elim
 | _ :: _,[],h=>h.elim
theorem AX.weak {items:List Item} {st st':St} (ht:QK st.tmps st'.tmps) (hh:HLe st.heap st'.heap) (h:Ct P hn rs items st' x):Ct P hn rs items st x:=by
 intro w0 Z0 m0 H0 ds a w Z m hhn hA hd hE b cs
 have hlive:∀ o,A0 st'.heap o→A0 st.heap o:=by
  rintro o ⟨ob',ho',hl⟩
  obtain ⟨ob,hob,e | ⟨sz,n,g,g',e1,e2,_⟩⟩:=hh.get ho'
  ·exact ⟨ob,hob,by rw [← e];exact hl⟩
  ·exact ⟨ob,hob,by rw [e1];rfl⟩
 obtain ⟨hl,hg⟩:=ht.get
 refine h w0 Z0 m0 H0 ds a w Z m hhn ⟨by rw [← hl];exact hA.len,fun i u v hu hv=>?_,?_⟩ hd ?_ b cs
 ·obtain ⟨u0,h0,e | hle⟩:=hg i u hu
  ·rw [e];exact .bad v
  ·exact hle _ _ _ _ _ ((hA.rep i u0 v h0 hv).hle hh)
 ·refine ⟨hA.hok.zlt,fun o ho=>hA.hok.apart o (hlive o ho),fun o o' h h'=>hA.hok.inj o o' (hlive o h) (hlive o' h'),fun o ob' ho'=>?_⟩
  obtain ⟨ob,hob,e | ⟨sz,n,g,g',rfl,rfl,hgg⟩⟩:=hh.get ho'
  ·subst e
   have:=hA.hok.ob o _ hob
   cases ob' with
   | dead=>trivial
   | free=>trivial
   | arr sz n g=>exact this
   | box cs =>
    obtain ⟨c,el,fr,h1,h2,h3,h4⟩:=this
    exact ⟨c,el,fr,h1,h2,h3,fun j u hu=>by obtain ⟨v,hv,hr⟩:=h4 j u hu;exact ⟨v,hv,hr.hle hh⟩⟩
  ·obtain ⟨h0,c,el,fr,h1,h2,h3,h4,h5⟩:=hA.hok.ob o _ hob
   exact ⟨h0,c,el,fr,h1,h2,h3,fun i hi=>by rw [← hgg i hi];exact h4 i hi,fun i j u hi hu=>h5 i j u hi (by rw [hgg i hi];exact hu)⟩
 ·refine ⟨hE.os,hE.tape,hE.output,hE.size,hE.sub,hE.back,hE.kept,hE.rest,by rw [← hh.1];exact hE.len,fun o ob ob' h h'=>?_,fun o ho=>hE.new o (hlive o ho)⟩
  obtain ⟨ob1,h1,e | ⟨sz,n,g,g',rfl,rfl,_⟩⟩:=hh.get h'
  ·subst e;exact hE.evol o _ _ h h1
  ·have:=hE.evol o _ _ h h1
   cases ob <;> simp_all [CA]
theorem AX.same {items:List Item} {st st':St} (e:st=st') (h:Ct P hn rs items st' x):Ct P hn rs items st x:=e ▸ h
theorem Ak.sub {f:FuncId} {pre pre':List F→Bool} {res res':List F→F} (h:Ak P f pre res) (hp:∀ xs,pre' xs=true→pre xs=true∧res xs=res' xs):Ak P f pre' res':=by
 intro xs hx w Z args hZ hL
 obtain ⟨h1,h2⟩:=hp xs hx
 rw [← h2]
 exact h xs h1 w Z args hZ hL
theorem Ak.le {f:FuncId} {pre pre':List F→Bool} {res res':List F→F} (h:Ak P f pre res) (hp:∀ xs,pre' xs=true→pre xs=true∧FLe (res xs) (res' xs)):Ak P f pre' res':=by
 intro xs hx w Z args hZ hL
 obtain ⟨h1,h2⟩:=hp xs hx
 exact (h xs h1 w Z args hZ hL).mono fun v w' ⟨hg,Z',hz,hr⟩=>⟨hg,Z',hz,h2 _ _ _ hr⟩
theorem SW {w w':World} (h:Grows w w'):Below w.heap.size w w':=⟨h.os,h.tape,h.output,h.size,h.old⟩
theorem mJ {f : FuncId} {fn : Func} {c : Code} (hf : P.funcs[f]? = some fn) (hb : fn.body = some c) (hname : (fn.name == "runtime.NumGoroutine") = false) {pre : List F → Bool} {res : List F → F} (h : Ak P f pre res)
  {xs:List F} {args:Array Value} {b:Bool} (hp:pre xs=true) (hr:res xs=.bool b) (w:World) (Z:Nat→Prop) (hZ:∀ b,Z b→b<w.heap.size) (hL:Kw w Z xs args.toList) :
  Calls P f args w fun e w'=>e=.returned (.bool b)∧Below w.heap.size w w':=by
 rcases h xs hp w Z args hZ hL with ⟨_,h2⟩ | ⟨v,w',h1,_⟩
 ·refine h2.mono fun e w' he=>?_
  cases e with
  | returned v =>
   obtain ⟨g,Z',_,hr'⟩:=he
   rw [hr] at hr'
   cases hr'
   exact ⟨rfl,SW g⟩
  | _=>exact he.elim
 ·have hp':(program).run P w=.ok P w:=rfl
  unfold callFunc at h1
  simp only [Sem.run_bind,hp',Result.andThen,hf,hname,hb,Option.isNone_some,Bool.false_eq_true,if_false,Sem.run_pure] at h1
  cases h1
end
section
variable {P:Program} {w:World} {Z:Nat→Prop} {m:Nat→Nat} {H:List HO}
mutual
theorem WI:∀ (u:U) (x:F),toF H u=some x→∀ o,o ∈ DH u→∃ sz n g,H[o]?=some (.arr sz n g)
 | .f x,_,_,o,ho=>by simp [DH] at ho
 | .agg us,x,h,o,ho=>by
  simp only [toF] at h
  cases hx:Bf H us with
  | none=>rw [hx] at h;cases h
  | some xs=>exact Qq us xs hx o (by simpa [DH] using ho)
 | .tup us,x,h,o,ho=>by
  simp only [toF] at h
  cases hx:Bf H us with
  | none=>rw [hx] at h;cases h
  | some xs=>exact Qq us xs hx o (by simpa [DH] using ho)
 | .nils,_,_,o,ho=>by simp [DH] at ho
 | .hs o1 gen off len,x,h,o,ho=>by
  simp only [DH,List.mem_singleton] at ho
  subst ho
  simp only [toF] at h
  split at h
  ·exact ⟨_,_,_,by assumption⟩
  ·cases h
 | .hp _ _,_,h,_,_=>by simp [toF] at h
 | .ep _ _ _ _,_,h,_,_=>by simp [toF] at h
 | .va _,_,h,_,_=>by simp [toF] at h
 | .nilp,_,h,_,_=>by simp [toF] at h
 | .fn _ _,_,h,_,_=>by simp [toF] at h
 | .nilfn,_,h,_,_=>by simp [toF] at h
 | .undef,_,h,_,_=>by simp [toF] at h
 | .bad,_,h,_,_=>by simp [toF] at h
theorem Qq:∀ (us:List U) (xs:List F),Bf H us=some xs→∀ o,o ∈ Aw us→∃ sz n g,H[o]?=some (.arr sz n g)
 | [],_,_,o,ho=>by simp [Aw] at ho
 | u :: us,xs,h,o,ho=>by
  simp only [Bf] at h
  cases h1:toF H u with
  | none=>rw [h1] at h;simp at h
  | some x =>
   cases h2:Bf H us with
   | none=>rw [h1,h2] at h;simp at h
   | some ys =>
    simp only [Aw,List.mem_append] at ho
    rcases ho with ho | ho
    ·exact WI u x h1 o ho
    ·exact Qq us ys h2 o ho
end
def wT (P:Program) (f:FuncId) (us:List U) (H:List HO) (x:F) (os:List (List F)):Prop :=
 ∀ (w:World) (Z:Nat→Prop) (m:Nat→Nat) (args:Array Value),HOK w Z m H→Ck w Z m H us args.toList →
  EI P f args w fun v w'=>∃ Z' m',Ext w Z m H w' Z' m' (os.map BE)∧HOK w' Z' m' (os.map BE)∧RepF w' Z' x v
theorem Yw {H:List HO}:∀ (obs:List HO) (os:List (List F)),QC H obs=some (os.map .agg)→obs.length=os.length∧∀ (o:Nat) (ob:HO) (xs:List F),obs[o]?=some ob→os[o]?=some xs→∃ us,ob=.box us∧Bf H us=some xs
 | [],os,h=>by
  simp only [QC,Option.some.injEq] at h
  have:os=[]:=by cases os <;> simp_all
  subst this
  exact ⟨rfl,fun o ob xs ho=>by simp at ho⟩
 | .box us :: obs,os,h=>by
  simp only [QC] at h
  split at h
  ·rename_i xs ys h1 h2
   cases os with
   | nil=>simp at h
   | cons y os =>
    simp only [List.map_cons,Option.some.injEq,List.cons.injEq,F.agg.injEq] at h
    obtain ⟨rfl,rfl⟩:=h
    obtain ⟨hl,hg⟩:=Yw obs os h2
    refine ⟨by simp [hl],fun o ob zs ho hz=>?_⟩
    cases o with
    | zero=>simp at ho hz;subst ho;subst hz;exact ⟨us,rfl,h1⟩
    | succ o=>simp at ho hz;exact hg o ob zs ho hz
  ·cases h
 | .dead :: _,os,h=>by simp [QC] at h
 | .free :: _,os,h=>by simp [QC] at h
 | .arr _ _ _ :: _,os,h=>by
  simp only [QC] at h
  split at h
  ·cases os <;> simp at h
  ·cases h
theorem tW {f:FuncId} {fn:Func} {c:Code} (hf:P.funcs[f]?=some fn) (hb:fn.body=some c) (hodd:Mi fn=false) {us:List U} {x:F} {os:List (List F)} (hn:H.length=os.length) (h0:os ≠ [])
  (h:Ct P H.length fn.results.toList [.code c] (Cx fn.ntmps us H) (.tup (x :: os.map .agg))):wT P f us H x os:=by
 have hname:=RW hodd
 intro w Z m args hH hL
 refine .inl ⟨by
  have hp:(program).run P w=.ok P w:=rfl
  unfold callFunc
  simp only [Sem.run_bind,hp,Result.andThen,hf,hname,hb,Option.isNone_some,Bool.false_eq_true,if_false,Sem.run_pure],fun cs=>?_⟩
 have hlen:us.length=args.size:=by simpa using hL.1
 have hA:AOK w Z m (Cx fn.ntmps us H) { tmps:=args++Array.replicate (fn.ntmps-args.size) undef,defers:=[] }:=by
  refine ⟨by simp [Cx,hlen],fun i u v hu hv=>?_,hH⟩
  simp only [Cx] at hu
  rw [List.getElem?_append] at hu
  rw [Array.getElem?_append] at hv
  split at hu
  ·rename_i hi
   rw [if_pos (by omega)] at hv
   exact hL.2 i u v hu (by simpa using hv)
  ·rename_i hi
   rw [if_neg (by omega)] at hv
   rw [List.getElem?_replicate] at hu
   rw [Array.getElem?_replicate] at hv
   split at hu
   ·split at hv
    ·cases hu;cases hv;exact .undef
    ·cases hv
   ·cases hu
 let b:Frame:={ (default:Frame) with fn:=f,kind:=.normal }
 have henter:Frame.enter P f args .normal=b.at { tmps:=args++Array.replicate (fn.ntmps-args.size) undef,defers:=[] } [.code c]:=by
  simp [Frame.enter,Frame.at,hf,hb,b]
 obtain ⟨st',a',w',todo,hk,⟨hd,Z',m',hA',hE'⟩,hs⟩:=h w Z m H [] _ w Z m rfl hA rfl (Ext.refl _ _ _ _) b cs
 obtain ⟨n,hn1⟩:∃ n,H.length=n+1:=by
  cases os with
  | nil=>exact absurd rfl h0
  | cons _ l=>exact ⟨l.length,by rw [hn];rfl⟩
 unfold S0 at hk
 rw [hn1] at hk
 rw [if_neg (by rw [show Nat.beq (n+1) 0=false from rfl,Bool.and_false];exact Bool.false_ne_true),if_neg (by rw [Rh (RX hodd)];exact Bool.false_ne_true)] at hk
 split at hk
 ·rename_i us' hus
  split at hk
  ·rename_i ys hys
   simp only at hk
   obtain ⟨_,hk⟩:=tH hk
   split at hk
   ·rename_i os' hos
    simp only [Option.some.injEq,F.tup.injEq,List.cons.injEq] at hk
    obtain ⟨hx,rfl⟩:=hk
    obtain ⟨hol,hog⟩:=Yw _ _ hos
    obtain ⟨vs,hvs,hR⟩:=JO (P:=P) hA' _ _ hus
    let Z2:Nat→Prop:=fun b=>Z' b ∨ ∃ o,n+1≤o∧A0 st'.heap o∧m' o=b
    have hlen':n+1≤st'.heap.length:=by have:=hE'.len;omega
        -- a box that was lent, at the end
    have box:∀ o,o<n+1→∃ us xs,st'.heap[o]?=some (.box us)∧os[o]?=some xs∧Bf st'.heap us=some xs:=by
     intro o ho
     have h1:(st'.heap.take (n+1))[o]?=some st'.heap[o]:=by rw [List.getElem?_take,if_pos ho];exact List.getElem?_eq_getElem (by omega)
     have h2:o<os.length:=by omega
     obtain ⟨us,e,ht⟩:=hog o _ _ h1 (List.getElem?_eq_getElem h2)
     exact ⟨us,os[o],by rw [List.getElem?_eq_getElem (by omega),e],List.getElem?_eq_getElem h2,ht⟩
    have data:∀ (u:U) (v:Value) (y:F),RepU w' Z' m' st'.heap u v→toF st'.heap u=some y→RepF w' Z2 y v:=by
     intro u v y hr hy
     refine (In hA'.hok (fun _ _ h=>h) hr hy).mono ?_ (fun _ _=>rfl)
     rintro b (hb | ⟨o,ho,hlv,rfl⟩)
     ·exact .inl hb
     ·refine .inr ⟨o,?_,hlv,rfl⟩
      rcases Nat.lt_or_ge o (n+1) with hlt | hge
      ·obtain ⟨us,xs,h1,_,_⟩:=box o hlt
       obtain ⟨sz,k,g,h2⟩:=WI u y hy o ho
       rw [h1] at h2;cases h2
      ·exact hge
    have getB:∀ (o:Nat) (ob:HO),(os.map BE)[o]?=some ob→o<n+1∧∃ xs,os[o]?=some xs∧ob=BE xs:=by
     intro o ob ho
     rw [List.getElem?_map] at ho
     cases hx:os[o]? with
     | none=>rw [hx] at ho;cases ho
     | some xs =>
      rw [hx] at ho;cases ho
      have:=(List.getElem?_eq_some_iff.1 hx).1
      exact ⟨by omega,xs,rfl,rfl⟩
    have liveB:∀ o,A0 (os.map BE) o→o<n+1∧A0 st'.heap o:=by
     rintro o ⟨ob,ho,hl⟩
     obtain ⟨h1,xs,h2,h3⟩:=getB o ob ho
     obtain ⟨us,_,h4,_,_⟩:=box o h1
     exact ⟨h1,_,h4,rfl⟩
    have hres:(results fn a'.tmps).run P w'=.ok (if h:vs.toArray.size=1 then vs.toArray[0] else .tuple vs.toArray) w':=by
     unfold results
     rw [← Array.toArray_toList (xs:=fn.results),List.mapM_toArray]
     simp only [Sem.run_bind,Sem.run_map]
     refine (congrArg (fun q=>Result.andThen (Result.andThen q fun x w=>Result.ok x.toArray w) fun vs w=>(pure (if h:vs.size=1 then vs[0] else .tuple vs):Sem Value).run P w) hvs).trans ?_
     simp [Result.andThen]
    have hL2:Kw w' Z2 ys vs:=by
     obtain ⟨hl,hg⟩:=Bk us' ys hys
     refine ⟨by rw [← hl];exact hR.1,fun j y v hy' hv=>?_⟩
     have hj:=(List.getElem?_eq_some_iff.1 hy').1
     have hu':us'[j]?=some us'[j]:=List.getElem?_eq_getElem (by omega)
     exact data _ _ _ (hR.2 j _ v hu' hv) (hg j _ y hu' hy')
    refine ⟨.returned _,w',{ b.at a' todo with mode:=.returning },?_,?_,rfl,rfl,hd,rfl,fn,hf,hres⟩
    ·refine ⟨Z2,m',?_,?_,?_⟩
     ·refine ⟨hE'.os,hE'.tape,hE'.output,hE'.size,fun b hb=>.inl (hE'.sub b hb),?_,hE'.kept,hE'.rest,by rw [List.length_map];omega,?_,?_⟩
      ·rintro b (hb | ⟨o,ho,hlv,rfl⟩)
       ·exact hE'.back b hb
       ·rcases hE'.new o hlv with ⟨⟨ob,h1,_⟩,_⟩ | h1
        ·have:=(List.getElem?_eq_some_iff.1 h1).1;omega
        ·exact .inr (.inl h1)
      ·intro o ob ob' ho ho'
       obtain ⟨h1,xs,h2,rfl⟩:=getB o ob' ho'
       obtain ⟨us1,xs1,h4,h5,h6⟩:=box o h1
       rw [h2] at h5;cases h5
       have hev:=hE'.evol o ob _ ho h4
       have hl:=K4 h6
       cases ob <;> simp_all [CA,BE]
      ·intro o ho
       exact hE'.new o (liveB o ho).2
     ·refine ⟨?_,?_,fun o o' h h' e=>hA'.hok.inj o o' (liveB o h).2 (liveB o' h').2 e,?_⟩
      ·rintro b (hb | ⟨o,ho,hlv,rfl⟩)
       ·exact hA'.hok.zlt b hb
       ·exact hA'.hok.blk_lt hlv
      ·rintro o ho (hb | ⟨o',ho',hlv,e⟩)
       ·exact hA'.hok.apart o (liveB o ho).2 hb
       ·have:=hA'.hok.inj o' o hlv (liveB o ho).2 e
        have:=(liveB o ho).1
        omega
      ·intro o ob ho
       obtain ⟨h1,xs,h2,rfl⟩:=getB o ob ho
       obtain ⟨us1,xs1,h4,h5,h6⟩:=box o h1
       rw [h2] at h5;cases h5
       obtain ⟨c,el,fr,q1,q2,q3,q4⟩:=hA'.hok.ob o _ h4
       obtain ⟨hl,hg⟩:=Bk us1 xs h6
       refine ⟨c,el,fr,q1,q2,by rw [List.length_map,← hl];exact q3,fun j u hu=>?_⟩
       rw [List.getElem?_map] at hu
       cases hxj:xs[j]? with
       | none=>rw [hxj] at hu;cases hu
       | some y =>
        rw [hxj] at hu;cases hu
        have hj:=(List.getElem?_eq_some_iff.1 hxj).1
        have huj:us1[j]?=some us1[j]:=List.getElem?_eq_getElem (by omega)
        obtain ⟨v,hv,hr⟩:=q4 j _ huj
        exact ⟨v,hv,.f _ _ (data _ _ _ hr (hg j _ y huj hxj))⟩
     ·rw [← hx]
      match ys,vs,hL2 with
      | [y],[v],hL2=>exact hL2.2 0 y v rfl rfl
      | [],[],hL2=>exact .tup [] [] rfl hL2.2
      | y1 :: y2 :: ys,v1 :: v2 :: vs,hL2 =>
       have:RepF w' Z2 (.tup (y1 :: y2 :: ys)) (.tuple (v1 :: v2 :: vs).toArray):=.tup _ _ hL2.1 hL2.2
       simpa [Xs] using this
      | [_],[],hL2=>have:=hL2.1;simp at this
      | [_],_ :: _ :: _,hL2=>have:=hL2.1;simp at this
      | [],_ :: _,hL2=>have:=hL2.1;simp at this
      | _ :: _ :: _,[],hL2=>have:=hL2.1;simp at this
      | _ :: _ :: _,[_],hL2=>have:=hL2.1;simp at this
    ·rw [henter];exact hs
   ·cases hk
  ·cases hk
 ·cases hk
abbrev Np (pre:List F→List F→Bool) (res:List F→List F→F × List F):Sp:=.ptr pre res
theorem cK {f:FuncId} {pre:List F→List F→Bool} {res:List F→List F→F × List F}
  (h:∀ cs xs,pre cs xs=true→wT P f (.hp 0 0 :: xs.map .f) [BE cs] (res cs xs).1 [(res cs xs).2]):Gk P f (Np pre res):=by
 intro us H hp w Z m args hH hL
 unfold Ow at hp
 split at hp
 ·rename_i o us'
  split at hp
  ·rename_i cu ho
   split at hp
   ·rename_i cs xs hcs hxs
    have hres:RH res (.hp o 0 :: us') H=(.f (res cs xs).1,H.set o (BE (res cs xs).2)):=by simp only [RH,ho,hcs,hxs]
    rw [hres]
    obtain ⟨hl1,hg1⟩:=Bk cu cs hcs
    obtain ⟨hl2,hg2⟩:=Bk us' xs hxs
    have hlo:A0 H o:=⟨_,ho,rfl⟩
    have hobk:=hH.ob o _ ho
    have hHsub:HOK w Z (fun _=>m o) [BE cs]:=by
     refine ⟨hH.zlt,fun _ _=>hH.apart o hlo,fun a b ha hb _=>?_,fun k ob hk=>?_⟩
     ·obtain ⟨_,ha,_⟩:=ha
      obtain ⟨_,hb,_⟩:=hb
      have:=(List.getElem?_eq_some_iff.1 ha).1
      have:=(List.getElem?_eq_some_iff.1 hb).1
      simp at *
      omega
     ·have hk0:=(List.getElem?_eq_some_iff.1 hk).1
      obtain rfl:k=0:=by simp at hk0;exact hk0
      simp at hk;subst hk
      obtain ⟨c,el,fr,q1,q2,q3,q4⟩:=hobk
      refine ⟨c,el,fr,q1,q2,by rw [List.length_map,← hl1];exact q3,fun j u hu=>?_⟩
      rw [List.getElem?_map] at hu
      cases hxj:cs[j]? with
      | none=>rw [hxj] at hu;cases hu
      | some y =>
       rw [hxj] at hu;cases hu
       have hj:=(List.getElem?_eq_some_iff.1 hxj).1
       have huj:cu[j]?=some cu[j]:=List.getElem?_eq_getElem (by omega)
       obtain ⟨v,hv,hr⟩:=q4 j _ huj
       exact ⟨v,hv,.f _ _ (C6 hH hr (hg1 j _ y huj hxj))⟩
    have hLsub:Ck w Z (fun _=>m o) [BE cs] (.hp 0 0 :: xs.map .f) args.toList:=by
     refine ⟨by rw [← hL.1];simp [hl2],fun j u v hu hv=>?_⟩
     cases j with
     | zero =>
      simp at hu;subst hu
      have:=hL.2 0 _ v rfl hv
      cases this with
      | hp _ _ _ h1 hk hvv=>exact .hp 0 0 v h1 ⟨_,rfl,by simp [BE]⟩ fun cs' _=>hvv _ ho
     | succ j =>
      simp only [List.getElem?_cons_succ,List.getElem?_map] at hu
      cases hxj:xs[j]? with
      | none=>rw [hxj] at hu;cases hu
      | some y =>
       rw [hxj] at hu;cases hu
       have hj:=(List.getElem?_eq_some_iff.1 hxj).1
       have huj:us'[j]?=some us'[j]:=List.getElem?_eq_getElem (by omega)
       exact .f _ _ (C6 hH (hL.2 (j+1) _ v (by rw [List.getElem?_cons_succ];exact huj) hv) (hg2 j _ y huj hxj))
    refine (h cs xs hp w Z (fun _=>m o) args hHsub hLsub).mono fun v w' ⟨Z',m',hE,hH',hr⟩=>?_
    have hm0:m' 0=m o:=by
     have:=hE.evol 0 (BE cs) (BE (res cs xs).2) rfl rfl
     simp only [BE,CA] at this
     exact this.2
    have hlen:(res cs xs).2.length=cs.length:=by
     have:=hE.evol 0 (BE cs) (BE (res cs xs).2) rfl rfl
     simp only [BE,CA,List.length_map] at this
     exact this.1
    have hlt:o<H.length:=(List.getElem?_eq_some_iff.1 ho).1
    have hlive:∀ k,A0 (H.set o (BE (res cs xs).2)) k→A0 H k:=by
     intro k ⟨ob1,h1,hd⟩
     by_cases hk:o=k
     ·subst hk;exact hlo
     ·rw [List.getElem?_set_ne hk] at h1;exact ⟨ob1,h1,hd⟩
    have hkeep:∀ k,A0 H k→k ≠ o→w'.heap[m k]?=w.heap[m k]?:=by
     intro k hk hne
     refine hE.rest _ (hH.blk_lt hk) fun o' ho' e=>hne (hH.inj k o hk hlo e.symm)
    have hEE:Ext w Z m H w' Z' m (H.set o (BE (res cs xs).2)):=by
     refine ⟨hE.os,hE.tape,hE.output,hE.size,hE.sub,?_,hE.kept,?_,by simp,?_,fun k hk=>.inl ⟨hlive k hk,rfl⟩⟩
     ·intro b hb
      rcases hE.back b hb with h1 | h1 | ⟨o',ho',e⟩
      ·exact .inl h1
      ·exact .inr (.inl h1)
      ·exact .inr (.inr ⟨o,hlo,e⟩)
     ·intro b hb hn
      exact hE.rest b hb fun o' ho' e=>hn o hlo e
     ·intro k ob ob' hk hk'
      by_cases hko:o=k
      ·subst hko
       rw [List.getElem?_set_self hlt] at hk'
       rw [ho] at hk
       cases hk;cases hk'
       simp only [BE,CA,List.length_map]
       exact ⟨by rw [hlen,hl1],trivial⟩
      ·rw [List.getElem?_set_ne hko,hk] at hk'
       cases hk'
       cases ob with
       | arr sz n g =>
        refine ⟨rfl,Nat.le_refl _,fun _=>⟨rfl,?_⟩⟩
        simp only [A4,hkeep k ⟨_,hk,rfl⟩ (fun e=>hko e.symm)]
       | _=>simp [CA]
    refine ⟨Z',m,hEE,⟨hH'.zlt,?_,fun a b ha hb e=>hH.inj a b (hlive a ha) (hlive b hb) e,?_⟩,.f _ _ hr⟩
    ·intro k hk hz
     have hk':=hlive k hk
     by_cases hko:k=o
     ·subst hko
      exact hH'.apart 0 ⟨_,rfl,rfl⟩ (by rw [hm0];exact hz)
     ·rcases hE.back _ hz with h1 | h1 | ⟨o',ho',e⟩
      ·exact hH.apart k hk' h1
      ·have:=hH.blk_lt hk';omega
      ·exact hko (hH.inj k o hk' hlo e.symm)
    ·intro k ob hk
     by_cases hko:o=k
     ·subst hko
      rw [List.getElem?_set_self hlt] at hk
      cases hk
      obtain ⟨c,el,fr,q1,q2,q3,q4⟩:=hH'.ob 0 _ rfl
      rw [hm0] at q1 q2
      refine ⟨c,el,fr,q1,q2,q3,fun j u hu=>?_⟩
      obtain ⟨v,hv,hr⟩:=q4 j u hu
      refine ⟨v,hv,?_⟩
      rw [List.getElem?_map] at hu
      cases hxj:(res cs xs).2[j]? with
      | none=>rw [hxj] at hu;cases hu
      | some y=>rw [hxj] at hu;cases hu;cases hr with | f _ _ hr=>exact .f _ _ hr
     ·rw [List.getElem?_set_ne hko] at hk
      by_cases hd:ob.live=true
      ·exact (hH.ob k ob hk).mono hEE (hkeep k ⟨_,hk,hd⟩ (fun e=>hko e.symm))
      ·cases ob <;> simp_all [Ij,HO.live]
   ·cases hp
  ·cases hp
 ·cases hp
abbrev sM (pre:List F→Bool) (res:List F→List F):Sp:=.new pre res
end
section
variable {P:Program} {w:World} {Z:Nat→Prop} {m:Nat→Nat} {H:List HO}
def E5:List F→List F→Prop
 | [],[]=>True
 | x :: xs,y :: ys=>FLe x y∧E5 xs ys
 | _,_=>False
theorem E5.refl:∀ xs:List F,E5 xs xs
 | []=>trivial
 | x :: xs=>⟨.refl x,.refl xs⟩
theorem E5.get:∀ {xs ys:List F},E5 xs ys→xs.length=ys.length∧∀ (i:Nat) (y:F),ys[i]?=some y→∃ x,xs[i]?=some x∧FLe x y
 | [],[],_=>⟨rfl,fun i y h=>by simp at h⟩
 | x :: xs,y :: ys,h=>by
  obtain ⟨h1,h2⟩:=E5.get h.2
  refine ⟨by simp [h1],fun i z hi=>?_⟩
  cases i with
  | zero=>simp at hi;subst hi;exact ⟨x,rfl,h.1⟩
  | succ i=>simp at hi;obtain ⟨u2,h3,h4⟩:=h2 i z hi;exact ⟨u2,by simpa using h3,h4⟩
 | [],_ :: _,h=>h.elim
 | _ :: _,[],h=>h.elim
theorem Kw.le {xs ys:List F} {vs:List Value} (h:E5 xs ys) (hL:Kw w Z xs vs):Kw w Z ys vs:=by
 obtain ⟨h1,h2⟩:=h.get
 refine ⟨by rw [← h1];exact hL.1,fun j y v hy hv=>?_⟩
 obtain ⟨x,hx,hle⟩:=h2 j y hy
 exact hle _ _ _ (hL.2 j x v hx hv)
theorem Ad {f:FuncId} {fn:Func} {c:Code} (hf:P.funcs[f]?=some fn) (hb:fn.body=some c) (hname:Mi fn=false) {pre:List F→Bool} {res:List F→F}
  (h:∀ xs,pre xs=true→∃ ys y,E5 xs ys∧AX P fn.results.toList [.code c] (start fn.ntmps (ys.map .f)) y∧FLe y (res xs)):Ak P f pre res:=by
 intro xs hp w Z args hZ hL
 obtain ⟨ys,y,h1,h2,h3⟩:=h xs hp
 have:=B2 hf hb hname (pre:=fun _=>true) (res:=fun zs=>y) (P:=P) (f:=f)
 have key:Ak P f (fun zs=>@decide (zs=ys) (Classical.propDecidable _)) (fun _=>y):=B2 hf hb hname fun zs hz=>by
  obtain rfl:=@of_decide_eq_true _ (Classical.propDecidable _) hz
  exact h2
 exact (key ys (@decide_eq_true _ (Classical.propDecidable _) rfl) w Z args hZ (hL.le h1)).mono fun v w' ⟨hg,Z',hz,hr⟩=>⟨hg,Z',hz,h3 _ _ _ hr⟩
theorem HOK.box_le {xs ys:List F} (h:E5 xs ys) (hH:HOK w Z m [BE xs]):HOK w Z m [BE ys]:=by
 have hl:∀ k,A0 [BE ys] k→A0 [BE xs] k:=by
  rintro k ⟨ob,hk,_⟩
  have hk0:=(List.getElem?_eq_some_iff.1 hk).1
  obtain rfl:k=0:=by simp at hk0;exact hk0
  exact ⟨_,rfl,rfl⟩
 refine ⟨hH.zlt,fun o ho=>hH.apart o (hl o ho),fun o o' h h'=>hH.inj o o' (hl o h) (hl o' h'),fun k ob hk=>?_⟩
 have hk0:=(List.getElem?_eq_some_iff.1 hk).1
 obtain rfl:k=0:=by simp at hk0;exact hk0
 simp at hk;subst hk
 obtain ⟨c,el,fr,q1,q2,q3,q4⟩:=hH.ob 0 _ rfl
 obtain ⟨h1,h2⟩:=h.get
 refine ⟨c,el,fr,q1,q2,by rw [List.length_map,← h1];simpa using q3,fun j u hu=>?_⟩
 rw [List.getElem?_map] at hu
 cases hy:ys[j]? with
 | none=>rw [hy] at hu;cases hu
 | some y =>
  rw [hy] at hu;cases hu
  obtain ⟨x,hx,hle⟩:=h2 j y hy
  obtain ⟨v,hv,hr⟩:=q4 j (.f x) (by rw [List.getElem?_map,hx];rfl)
  exact ⟨v,hv,by cases hr with | f _ _ hr=>exact .f _ _ (hle _ _ _ hr)⟩
theorem Ext.box_le {w':World} {Z':Nat→Prop} {m':Nat→Nat} {xs ys os ps:List F} (h:E5 xs ys) (h':E5 ps os) (hE:Ext w Z m [BE ys] w' Z' m' [BE ps]):Ext w Z m [BE xs] w' Z' m' [BE os]:=by
 have hl:∀ (al bs:List F) k,A0 [BE al] k→A0 [BE bs] k:=by
  rintro al bs k ⟨ob,hk,_⟩
  have hk0:=(List.getElem?_eq_some_iff.1 hk).1
  obtain rfl:k=0:=by simp at hk0;exact hk0
  exact ⟨_,rfl,rfl⟩
 refine ⟨hE.os,hE.tape,hE.output,hE.size,hE.sub,fun b hb=>?_,hE.kept,fun b hb hn=>hE.rest b hb fun o ho=>hn o (hl _ _ o ho),by simp,fun o ob ob' ho ho'=>?_,fun o ho=>?_⟩
 ·rcases hE.back b hb with h1 | h1 | ⟨o,ho,e⟩
  ·exact .inl h1
  ·exact .inr (.inl h1)
  ·exact .inr (.inr ⟨o,hl _ _ o ho,e⟩)
 ·have hk0:=(List.getElem?_eq_some_iff.1 ho).1
  obtain rfl:o=0:=by simp at hk0;exact hk0
  simp at ho ho';subst ho;subst ho'
  have:=hE.evol 0 _ _ rfl rfl
  simp only [BE,CA,List.length_map] at this ⊢
  exact ⟨by rw [← h'.get.1,h.get.1];exact this.1,this.2⟩
 ·rcases hE.new o (hl _ _ o ho) with ⟨h1,h2⟩ | h1
  ·exact .inl ⟨hl _ _ o h1,h2⟩
  ·exact .inr h1
theorem MR {f:FuncId} {fn:Func} {c:Code} (hf:P.funcs[f]?=some fn) (hb:fn.body=some c) (hodd:Mi fn=false) {pre:List F→List F→Bool} {res:List F→List F→F × List F}
  (h:∀ cs xs,pre cs xs=true→∃ ds ys r os,E5 cs ds∧E5 xs ys∧Ct P 1 fn.results.toList [.code c] (Cx fn.ntmps (.hp 0 0 :: ys.map .f) [.box (ds.map .f)]) (.tup [r,.agg os])∧FLe r (res cs xs).1∧E5 os (res cs xs).2):Gk P f (Np pre res) :=
 cK fun cs xs hp w Z m args hH hL=>by
  obtain ⟨ds,ys,r,os,h1,h2,h3,h4,h5⟩:=h cs xs hp
  refine (tW hf hb hodd (H:=[BE ds]) (os:=[os]) rfl (by simp) h3 w Z m args (hH.box_le h1) ?_).mono fun v w' ⟨Z',m',hE,hH',hr⟩=>⟨Z',m',hE.box_le h1 h5,hH'.box_le h5,h4 _ _ _ hr⟩
  obtain ⟨hl,hg⟩:=h2.get
  refine ⟨by rw [← hL.1];simp [hl],fun j u v hu hv=>?_⟩
  cases j with
  | zero =>
   simp at hu;subst hu
   have:=hL.2 0 _ v rfl hv
   cases this with
   | hp _ _ _ h1 hk hvv=>exact .hp 0 0 v h1 ⟨_,rfl,by simp [BE]⟩ fun cs' _=>hvv _ rfl
  | succ j =>
   simp only [List.getElem?_cons_succ,List.getElem?_map] at hu
   cases hy:ys[j]? with
   | none=>rw [hy] at hu;cases hu
   | some y =>
    rw [hy] at hu;cases hu
    obtain ⟨x,hx,hle⟩:=hg j y hy
    have hr:=hL.2 (j+1) (.f x) v (by simp [hx]) hv
    cases hr with | f _ _ hr=>exact .f _ _ (hle _ _ _ hr)
theorem fn_new {f : FuncId} {fn : Func} {c : Code} {t : Tmp} {ty : TypeId} (hf : P.funcs[f]? = some fn) (hb : fn.body = some c) (hname : (fn.name == "runtime.NumGoroutine") = false) (hrs : fn.results = #[.tmp t]) (hag : ∀ ti, Jz P ty = some ti → ti.isAgg = true)
  {pre:List F→Bool} {res:List F→List F}
  (h:∀ xs,pre xs=true→∃ ys os,E5 xs ys∧AX P [.cell t ty] [.code c] (start fn.ntmps (ys.map .f)) (.agg os)∧E5 os (res xs)):Gk P f (sM pre res):=by
 intro us H hp w Z m args hH hL
 simp only [Wm,Wl] at hp ⊢
 cases hxs:Bf [] us with
 | none=>rw [hxs] at hp;cases hp
 | some xs =>
 rw [hxs] at hp
 simp only at hp
 simp only []
 obtain ⟨hl2,hg2⟩:=Bk us xs hxs
 obtain ⟨ys,os,hle,h,hlo2⟩:=h xs hp
 obtain ⟨hyl,hyg⟩:=hle.get
 obtain ⟨hol,hog⟩:=hlo2.get
 refine .inl ⟨by
  have hp:(program).run P w=.ok P w:=rfl
  unfold callFunc
  simp only [Sem.run_bind,hp,Result.andThen,hf,hname,hb,Option.isNone_some,Bool.false_eq_true,if_false,Sem.run_pure],fun cs=>?_⟩
 have hlenx:xs.length=args.size:=by rw [← hl2];simpa using hL.1
 have hlen:ys.length=args.size:=by rw [← hyl];exact hlenx
 have hA:AOK w Z m (start fn.ntmps (ys.map .f)) { tmps:=args++Array.replicate (fn.ntmps-args.size) undef,defers:=[] }:=by
  refine ⟨by simp [start,hlen],fun i u v hu hv=>?_,?_⟩
  ·simp only [start,List.length_map] at hu
   rw [List.getElem?_append] at hu
   rw [Array.getElem?_append] at hv
   simp only [List.length_map] at hu
   split at hu
   ·rename_i hi
    rw [if_pos (by omega)] at hv
    rw [List.getElem?_map] at hu
    cases hy:ys[i]? with
    | none=>rw [hy] at hu;cases hu
    | some y =>
     rw [hy] at hu;cases hu
     obtain ⟨x,hx,hxy⟩:=hyg i y hy
     have huj:us[i]?=some us[i]:=List.getElem?_eq_getElem (by omega)
     exact .f _ _ (hxy _ _ _ (C6 hH (hL.2 i _ v huj (by simpa using hv)) (hg2 i _ x huj hx)))
   ·rename_i hi
    rw [if_neg (by omega)] at hv
    rw [List.getElem?_replicate] at hu
    rw [Array.getElem?_replicate] at hv
    split at hu
    ·split at hv
     ·cases hu;cases hv;exact .undef
     ·cases hv
    ·cases hu
  ·exact ⟨hH.zlt,fun o ⟨ob,ho,_⟩=>by simp [start] at ho,fun o o' ⟨ob,ho,_⟩=>by simp [start] at ho,fun o ob ho=>by simp [start] at ho⟩
 let b:Frame:={ (default:Frame) with fn:=f,kind:=.normal }
 have henter:Frame.enter P f args .normal=b.at { tmps:=args++Array.replicate (fn.ntmps-args.size) undef,defers:=[] } [.code c]:=by
  simp [Frame.enter,Frame.at,hf,hb,b]
 obtain ⟨st',a',w',todo,hk,⟨hd,Z',m',hA',hE'⟩,hs⟩:=h w Z m [] [] _ w Z m rfl hA rfl (Ext.refl _ _ _ _) b cs
 unfold S0 at hk
 have hmk:(([ResultVar.cell t ty]).head?.elim false Hq&&Nat.beq ([]:List HO).length 0)=false:=rfl
 simp only [List.head?_cons,Option.elim_some,Hq,LQ,Bool.false_and,Bool.false_eq_true,if_false] at hk
 split at hk
 case h_2=>cases hk
 rename_i us' hus
 split at hk
 case h_2=>cases hk
 rename_i ys hys
 simp only [Option.some.injEq] at hk
 simp only [Oo] at hus
 split at hus
 case h_2=>cases hus
 rename_i o ti us2 htx hti hus2
 cases hus2
 split at hus
 case isFalse=>cases hus
 rename_i hwb
 unfold Xm at hwb
 split at hwb
 case h_2=>cases hwb
 rename_i cu ho
 simp only [beq_iff_eq] at hwb
 have hag:=hag ti hti
 simp only [IR,ho,hag,Nat.zero_add,hwb,Nat.le_refl,decide_true,AH,Bool.true_or,List.drop_zero,Option.some.injEq] at hus
 subst hus
 rw [List.take_of_length_le (by omega)] at hys
 simp only [mkU,if_true,Bf,toF] at hys
 cases hcu:Bf st'.heap cu with
 | none=>rw [hcu] at hys;simp at hys
 | some zs =>
 rw [hcu] at hys
 simp only [Option.map_some,Option.some.injEq] at hys
 subst hys
 simp only [Xs,F.agg.injEq] at hk
 subst hk
 have hlive0:∀ o,¬ A0 ([]:List HO) o:=fun o ⟨ob,ho,_⟩=>by simp at ho
 have hlo:A0 st'.heap o:=⟨_,ho,rfl⟩
 let Z2:Nat→Prop:=fun b=>Z' b ∨ ∃ o',o' ≠ o∧A0 st'.heap o'∧m' o'=b
 let m2:Nat→Nat:=fun k=>if k=H.length then m' o else m k
 have hfresh:w.heap.size≤m' o:=by
  rcases hE'.new o hlo with ⟨h,_⟩ | h
  ·exact absurd h (hlive0 o)
  ·exact h
 have data:∀ (u:U) (v:Value) (y:F),RepU w' Z' m' st'.heap u v→toF st'.heap u=some y→RepF w' Z2 y v:=by
  intro u v y hr hy
  refine (In hA'.hok (fun _ _ h=>h) hr hy).mono ?_ (fun _ _=>rfl)
  rintro b (hb | ⟨o',ho',hlv,rfl⟩)
  ·exact .inl hb
  ·refine .inr ⟨o',?_,hlv,rfl⟩
   rintro rfl
   obtain ⟨sz,k,g,h2⟩:=WI u y hy o' ho'
   rw [ho] at h2;cases h2
 have hZ2:∀ b,Z2 b→Z b ∨ (w.heap.size≤b∧b<w'.heap.size):=by
  rintro b (hb | ⟨o',ho',hlv,rfl⟩)
  ·have hlt:=hA'.hok.zlt b hb
   rcases hE'.back b hb with h | h | ⟨o,ho,_⟩
   ·exact .inl h
   ·exact .inr ⟨h,hlt⟩
   ·exact absurd ho (hlive0 o)
  ·rcases hE'.new o' hlv with ⟨h,_⟩ | h
   ·exact absurd h (hlive0 o')
   ·exact .inr ⟨h,hA'.hok.blk_lt hlv⟩
 have hold:∀ b,b<w.heap.size→w'.heap[b]?=w.heap[b]?:=fun b hb=>hE'.rest b hb fun o ho=>absurd ho (hlive0 o)
 have hmk:∀ k,A0 H k→m2 k=m k:=by
  rintro k ⟨ob,hk,_⟩
  have:=(List.getElem?_eq_some_iff.1 hk).1
  simp only [m2]
  rw [if_neg (by omega)]
 have hmn:m2 H.length=m' o:=by simp [m2]
 have hsplit:∀ k,A0 (H++[BE (res xs)]) k→A0 H k ∨ k=H.length:=by
  rintro k ⟨ob,hk,hl⟩
  rcases Nat.lt_trichotomy k H.length with h1 | h1 | h1
  ·rw [List.getElem?_append_left h1] at hk;exact .inl ⟨ob,hk,hl⟩
  ·exact .inr h1
  ·rw [List.getElem?_append_right (by omega),List.getElem?_eq_none (by simp;omega)] at hk;cases hk
 have hEE:Ext w Z m H w' Z2 m2 (H++[BE (res xs)]):=by
  refine ⟨hE'.os,hE'.tape,hE'.output,hE'.size,fun b hb=>.inl (hE'.sub b hb),?_,hE'.kept,fun b hb _=>hold b hb,by simp,?_,?_⟩
  ·intro b hb
   rcases hZ2 b hb with h | h
   ·exact .inl h
   ·exact .inr (.inl h.1)
  ·intro k ob ob' hk hk'
   have hlt:=(List.getElem?_eq_some_iff.1 hk).1
   rw [List.getElem?_append_left hlt,hk] at hk'
   cases hk'
   have:m2 k=m k:=by simp only [m2];rw [if_neg (by omega)]
   rw [this]
   cases ob with
   | arr sz n g=>exact ⟨rfl,Nat.le_refl _,fun _=>⟨rfl,by simp only [A4,hold _ (hH.blk_lt ⟨_,hk,rfl⟩)]⟩⟩
   | _=>simp [CA]
  ·intro k hk
   rcases hsplit k hk with h1 | h1
   ·exact .inl ⟨h1,hmk k h1⟩
   ·subst h1;right;rw [hmn];exact hfresh
 have hHH:HOK w' Z2 m2 (H++[BE (res xs)]):=by
  refine ⟨?_,?_,?_,?_⟩
  ·intro b hb
   rcases hZ2 b hb with h | h
   ·exact Nat.lt_of_lt_of_le (hH.zlt b h) hE'.size
   ·exact h.2
  ·intro k hk hz
   rcases hsplit k hk with h1 | h1
   ·rw [hmk k h1] at hz
    have:=hH.blk_lt h1
    rcases hZ2 _ hz with h | h
    ·exact hH.apart k h1 h
    ·omega
   ·subst h1
    rw [hmn] at hz
    rcases hz with hz | ⟨o',hne,hlv,e⟩
    ·exact hA'.hok.apart o hlo hz
    ·exact hne (hA'.hok.inj o' o hlv hlo e)
  ·intro k k' hk hk' e
   rcases hsplit k hk with h1 | h1 <;> rcases hsplit k' hk' with h2 | h2
   ·rw [hmk k h1,hmk k' h2] at e;exact hH.inj k k' h1 h2 e
   ·subst h2;rw [hmk k h1,hmn] at e;have:=hH.blk_lt h1;omega
   ·subst h1;rw [hmk k' h2,hmn] at e;have:=hH.blk_lt h2;omega
   ·rw [h1,h2]
  ·intro k ob hk
   by_cases hlt:k<H.length
   ·rw [List.getElem?_append_left hlt] at hk
    by_cases hd:ob.live=true
    ·rw [hmk k ⟨_,hk,hd⟩]
     have:=(hH.ob k ob hk).mono hEE (hold _ (hH.blk_lt ⟨_,hk,hd⟩))
     exact this
    ·cases ob <;> simp_all [Ij,HO.live]
   ·rw [List.getElem?_append_right (by omega)] at hk
    have hk0:=(List.getElem?_eq_some_iff.1 hk).1
    obtain rfl:k=H.length:=by simp at hk0;omega
    simp at hk;subst hk
    rw [hmn]
    obtain ⟨c1,el,fr,q1,q2,q3,q4⟩:=hA'.hok.ob o _ ho
    obtain ⟨hl,hg⟩:=Bk cu _ hcu
    refine ⟨c1,el,fr,q1,q2,by rw [List.length_map,← hol,← hl];exact q3,fun j u hu=>?_⟩
    rw [List.getElem?_map] at hu
    cases hzj:(res xs)[j]? with
    | none=>rw [hzj] at hu;cases hu
    | some z =>
     rw [hzj] at hu;cases hu
     obtain ⟨y,hxj,hyz⟩:=hog j z hzj
     have hj:=(List.getElem?_eq_some_iff.1 hxj).1
     have huj:cu[j]?=some cu[j]:=List.getElem?_eq_getElem (by omega)
     obtain ⟨v,hv,hr⟩:=q4 j _ huj
     exact ⟨v,hv,.f _ _ (hyz _ _ _ (data _ _ _ hr (hg j _ y huj hxj)))⟩
 have hval:a'.tmps.getD t undef=.pointer (some ⟨m' o,0,none⟩):=by
  have hr:=CE hA' (.tmp t)
  simp only [St.ev,Act.eval] at hr
  rw [htx] at hr
  cases hr with | hp _ _ _ _ _ hvv=>exact hvv _ ho
 have hres:(results fn a'.tmps).run P w'=.ok (.pointer (some ⟨m' o,0,none⟩)) w':=by
  unfold results
  rw [hrs]
  simp [Result.andThen,← hval]
 refine ⟨.returned _,w',{ b.at a' todo with mode:=.returning },⟨Z2,m2,hEE,hHH,?_⟩,?_,rfl,rfl,hd,rfl,fn,hf,hres⟩
 ·refine .hp _ _ _ rfl ⟨BE (res xs),by simp,by simp [BE]⟩ fun cs' _=>by rw [hmn]
 ·rw [henter];exact hs
def slF {α:Type} (enc:α→F) (d:α) (l:List α):F:=.sl l.length fun i=>enc (l.getD i d)
def Dq (is:F→Bool):F→Bool
 | .sl n g=>(List.range n).all fun i=>is (g i)
 | _=>false
def Gi {α:Type} (un:F→α):F→List α
 | .sl n g=>(List.range n).map fun i=>un (g i)
 | _=>[]
theorem NV {α:Type} {enc:α→F} {un:F→α} {d:α} (h:∀ a,un (enc a)=a) (l:List α):Gi un (slF enc d l)=l:=by
 simp only [Gi,slF,h]
 apply List.ext_getElem
 ·simp
 ·intro i h1 h2
  simp [List.getD,List.getElem?_eq_getElem h2]
theorem N5 {α:Type} {enc:α→F} {is:F→Bool} {d:α} (l:List α) (h:∀ a ∈ l,is (enc a)=true):Dq is (slF enc d l)=true:=by
 simp only [Dq,slF,List.all_eq_true,List.mem_range]
 intro i hi
 rw [show l.getD i d=l[i] by simp [List.getD,List.getElem?_eq_getElem hi]]
 exact h _ (List.getElem_mem hi)
theorem NW {α:Type} (un:F→α) (n:Nat) (g:Nat→F):(Gi un (.sl n g)).length=n:=by simp [Gi]
theorem WM {α:Type} {enc:α→F} {un:F→α} {is:F→Bool} {d:α} (h:∀ x,is x=true→enc (un x)=x) {x:F} (hx:Dq is x=true):FLe x (slF enc d (Gi un x))∧FLe (slF enc d (Gi un x)) x:=by
 cases x with
 | sl n g =>
  simp only [Dq,List.all_eq_true,List.mem_range] at hx
  have e:∀ j,j<n→enc ((Gi un (.sl n g)).getD j d)=g j:=fun j hj=>by
   have:(Gi un (.sl n g)).getD j d=un (g j):=by simp [Gi,List.getD,hj]
   rw [this,h _ (hx j hj)]
  have hl:=NW un n g
  unfold slF
  rw [hl]
  exact ⟨FLe.sl fun j hj=>(e j hj).symm,FLe.sl fun j hj=>e j hj⟩
 | _=>simp [Dq] at hx
theorem HLe.nil:HLe [] []:=⟨rfl,fun o ob ob' h=>by simp at h⟩
theorem HLe.cons {a b:HO} {H H':List HO} (h:Ik a b) (t:HLe H H'):HLe (a :: H) (b :: H'):=by
 refine ⟨by simp [t.1],fun o ob ob' ho ho'=>?_⟩
 cases o with
 | zero=>simp at ho ho';subst ho;subst ho';exact h
 | succ o=>exact t.2 o ob ob' (by simpa using ho) (by simpa using ho')
theorem Ik.refl (a:HO):Ik a a:=.inl rfl
theorem Ik.arr {sz n:Nat} {g g':Nat→F} (h:∀ j,j<n→g j=g' j):Ik (.arr sz n g) (.arr sz n g'):=.inr ⟨sz,n,g,g',rfl,rfl,h⟩
def AB (s:ByteArray):F:=.sl s.size fun i=>.int .u8 (CP s i)
def Ro:F→Bool
 | .int .u8 b=>decide (0≤b)&&decide (b<256)
 | _=>false
def A1 (x:F):Bool:=Dq Ro x
def AA:F→ByteArray
 | .sl n g=>Ha n g
 | _=>⟨#[]⟩
theorem SS (s:ByteArray) (i:Int):0≤CP s i∧CP s i<256:=by
 unfold CP
 have:=UInt8.toNat_lt (s.data.toList.getD i.toNat 0)
 omega
theorem BY (s:ByteArray):A1 (AB s)=true:=by
 simp only [A1,Dq,AB,List.all_eq_true,List.mem_range]
 intro i _
 obtain ⟨h1,h2⟩:=SS s i
 simp [Ro,h1,h2]
theorem JA (n:Nat) (g:Nat→F):(Ha n g).data.toList=(List.range n).map fun i=>match g i with | .int .u8 b=>UInt8.ofNat b.toNat | _=>0:=rfl
theorem TC (n:Nat) (g:Nat→F):(Ha n g).size=n:=by
 have:=congrArg List.length (JA n g)
 rw [List.length_map,List.length_range] at this
 exact this
theorem BW (s:ByteArray):AA (AB s)=s:=by
 have:(Ha s.size fun i=>.int .u8 (CP s i)).data=s.data:=by
  apply Array.toList_inj.1
  rw [JA]
  apply List.ext_getElem
  ·rw [List.length_map,List.length_range];rfl
  ·intro i h1 h2
   simp only [List.getElem_map,List.getElem_range,CP]
   have:s.data.toList.getD (i:Int).toNat 0=s.data.toList[i]:=by simp [List.getD,List.getElem?_eq_getElem h2]
   rw [this]
   simp
 exact congrArg ByteArray.mk this
theorem Ci {x:F} (hx:A1 x=true):FLe x (AB (AA x))∧FLe (AB (AA x)) x:=by
 cases x with
 | sl n g =>
  simp only [A1,Dq,List.all_eq_true,List.mem_range] at hx
  have e:∀ j:Nat,j<n→F.int .u8 (CP (Ha n g) j)=g j:=fun j hj=>by
   have h1:=hx j hj
   unfold CP
   have hlen:j<((List.range n).map fun i=>match g i with | .int .u8 b=>UInt8.ofNat b.toNat | _=>0).length:=by simpa using hj
   rw [JA]
   simp only [Int.toNat_natCast,List.getD,List.getElem?_eq_getElem hlen,List.getElem_map,List.getElem_range,Option.getD_some]
   cases hg:g j with
   | int k b =>
    rw [hg] at h1
    cases k <;> simp [Ro] at h1
    simp only [F.int.injEq,true_and]
    obtain ⟨h2,h3⟩:=h1
    rw [UInt8.toNat_ofNat']
    omega
   | _=>rw [hg] at h1;simp [Ro] at h1
  unfold AB AA
  rw [TC]
  exact ⟨FLe.sl fun j hj=>(e j hj).symm,FLe.sl fun j hj=>e j hj⟩
 | _=>simp [A1,Dq] at hx
end
end Go.Proofs.YtonmnfkibnflnaaGreat.R
namespace Go.Proofs.YtonmnfkibnflnaaGreat.R
open Go Go.ChangeShapes Go.WideShapes Go.RowKit
section
variable {H:Type} {enc:TypeId × Value→H} {P:Program} {W:World} {base:Nat} {t e:TypeId} {v:Value} {d:DataW H} {ps:List MemPlace}
theorem cell_lt {a:Addr} {x:Value} (h:W.cell? a=some x):a.block<W.heap.size:=by
 unfold World.cell? at h
 cases hb:W.heap[a.block]? with
 | none=>rw [hb] at h;simp at h
 | some o=>exact (Array.getElem?_eq_some_iff.1 hb).1
theorem cS {k:IntKind} (ht:P.underlying t=some (.slice e)) (he:P.underlying e=some (.int k)) (hc:P.cellsOf e=1) (hval:Value.okWide P W .any base t v) (h:DataW.Trod enc P W 0 (fun _=>true) true t v d ps) :
  ∃ zs:List Int,(∀ n ∈ zs,(Lit.int k n).wf=true)∧zs.length≤maxLen∧RepF W (fun b=>b<W.heap.size) (.sl zs.length fun i=>.int k (zs.getD i 0)) v:=by
 obtain ⟨a1,len,cap,rfl⟩:=okWide_slice ht hval
 obtain ⟨fuel,hf⟩:=h
 rcases open_ints ht he hc hf with ⟨hcs,hx⟩ | ⟨a,len',cap',zs,hcs,_,hl,hm,hz,hx,hcell,hwz⟩
 ·simp [Value.cells] at hcs
  obtain ⟨rfl,rfl,rfl⟩:=hcs
  exact ⟨[],by simp,Nat.zero_le _,.sl 0 _ none 0 1 ⟨0,0,none⟩ (fun _=>undef) (Nat.le_refl _) (fun i hi=>by omega) (fun i j u hi=>by omega) (fun h=>absurd rfl h) (fun i j u hi=>by omega) (fun i j u hi=>by omega)⟩
 ·simp [Value.cells] at hcs
  obtain ⟨rfl,rfl,rfl⟩:=hcs
  simp only [if_true] at hz
  have hlen:(zs.take len).length=len:=by simp;omega
  refine ⟨zs.take len,fun n hn=>hwz n (List.mem_of_mem_take hn),by rw [hlen];omega,?_⟩
  rw [hlen]
  refine .sl len _ (some a) cap 1 a (fun j=>.int k (zs.getD j 0)) hl (fun i hi=>rfl) (fun i j u hi hu=>?_) (fun h0=>?_) (fun i j u hi hu=>?_) (fun i j u hi hu=>?_)
  ·cases j with
   | zero=>simp [F.cells] at hu;subst hu;rfl
   | succ j=>simp [F.cells] at hu
  ·have h1:=hcell 0 (by omega)
   have hsp:a.spot=none:=by
    have:=World.cell?_spot h1
    simpa [Addr.add] using this
   refine ⟨rfl,?_,hsp⟩
   have:=cell_lt h1
   simpa [Addr.add] using this
  ·cases j with
   | zero =>
    have h1:=hcell i (by omega)
    have hsp:a.spot=none:=by
     have:=World.cell?_spot (hcell 0 (by omega))
     simpa [Addr.add] using this
    have e1:a.add i=⟨a.block,a.off+(i*1+0),none⟩:=by
     rw [DB a hsp];simp
    rw [← e1,h1]
    simp
   | succ j=>simp [F.cells] at hu
  ·cases j with
   | zero =>
    simp [F.cells] at hu;subst hu
    have e2:(zs.take len).getD i 0=zs.getD (i*1+0) 0:=by
     simp only [Nat.mul_one,Nat.add_zero,List.getD]
     rw [List.getElem?_take,if_pos hi]
    rw [← List.getD_eq_getElem?_getD,e2]
    exact .int k _
   | succ j=>simp [F.cells] at hu
theorem Yx (ht:P.underlying t=some (.slice e)) (he:P.underlying e=some (.int .u8)) (hc:P.cellsOf e=1) (hval:Value.okWide P W .any base t v) (h:DataW.Trod enc P W 0 (fun _=>true) true t v d ps) :
  ∃ x,A1 x=true∧RepF W (fun b=>b<W.heap.size) x v:=by
 obtain ⟨zs,h1,_,h2⟩:=cS ht he hc hval h
 refine ⟨_,?_,h2⟩
 simp only [A1,Dq,List.all_eq_true,List.mem_range]
 intro i hi
 have hmem:zs.getD i 0 ∈ zs:=by
  rw [show zs.getD i 0=zs[i] by simp [List.getD,List.getElem?_eq_getElem hi]]
  exact List.getElem_mem hi
 have hb:=h1 _ hmem
 have:0≤zs.getD i 0∧zs.getD i 0<256:=by
  have:=range_u8 h1 i
  rw [← List.getD_eq_getElem?_getD] at this
  omega
 simp only [Ro,Bool.and_eq_true,decide_eq_true_eq]
 exact this
end
def AT (fn:Func):Code:=match fn.body with | some c=>c | none=>.skip
def at_ (fn:Func) (id:Nat):List Item:=(KF id (AT fn) []).getD []
theorem Au:Hg Tryz.prog (Jz Tryz.prog):=⟨by kernel_rfl,fun _ _ h=>h⟩
def env0:Env:=fun _=>.none
theorem Ei:Az Tryz.prog env0:=fun _=>trivial
def E4 {α:Type} (enc:α→F) (d:α) (n:Nat) (g:Nat→F) (o:List α):Prop:=n=o.length∧∀ j,j<n→g j=enc (o.getD j d)
theorem E4.nil {α:Type} {enc:α→F} {d:α} {g:Nat→F}:E4 enc d 0 g []:=⟨rfl,fun j h=>by omega⟩
theorem E4.push {α:Type} {enc:α→F} {d:α} {n:Nat} {g:Nat→F} {o:List α} (h:E4 enc d n g o) (x:α):E4 enc d (n+1) (fun j=>if j<n then g j else enc x) (o++[x]):=by
 obtain ⟨h1,h2⟩:=h
 refine ⟨by simp [h1],fun j hj=>?_⟩
 by_cases hjn:j<n
 ·simp only [if_pos hjn,h2 j hjn,List.getD]
  rw [List.getElem?_append_left (by omega)]
 ·obtain rfl:j=n:=by omega
  simp only [if_neg hjn,List.getD]
  rw [List.getElem?_append_right (by omega),h1]
  simp
theorem E4.le {α:Type} {enc:α→F} {d:α} {n:Nat} {g:Nat→F} {o:List α} (h:E4 enc d n g o):FLe (.sl n g) (slF enc d o):=by
 obtain ⟨rfl,h2⟩:=h
 exact FLe.sl h2
theorem FLe.tup {xs ys:List F} (h:E5 xs ys):FLe (.tup xs) (.tup ys):=by
 intro w Z v hv
 cases hv with
 | tup _ vs hl hr =>
  obtain ⟨h1,h2⟩:=h.get
  refine .tup ys vs (by rw [← h1];exact hl) fun j y v hy hv=>?_
  obtain ⟨x,hx,hle⟩:=h2 j y hy
  exact hle _ _ _ (hr j x v hx hv)
theorem Ak.sp {P:Program} {f:FuncId} {pre:List F→Bool} {res:List F→F} (h:Ak P f pre res):Gk P f (.pure pre res):=h
def Env.add (C:Env) (f:FuncId) (s:Sp):Env:=fun g=>match Nat.beq g f with
 | true=>s
 | false=>C g
theorem Env.add_ok {C:Env} (hC:Az Tryz.prog C) {f:FuncId} {s:Sp} (h:Gk Tryz.prog f s):Az Tryz.prog (C.add f s):=by
 intro g
 unfold Env.add
 split
 ·rename_i e
  have:=Nat.eq_of_beq_eq_true e
  subst this
  exact h
 ·exact hC g
def val (B:Nat):List Nat→Nat
 | []=>0
 | w :: ws=>w+B*val B ws
def okD (B:Nat) (l:List Nat):Prop:=∀ w ∈ l,w<B
def Dn (l:List Nat):Prop:=l.getLast? ≠ some 0
theorem Jw (B:Nat):∀ a b:List Nat,val B (a++b)=val B a+B ^ a.length*val B b
 | [],b=>by simp [val]
 | x :: a,b=>by
  simp only [List.cons_append,val,List.length_cons,Jw B a b,Nat.pow_succ,Nat.mul_add]
  rw [Nat.mul_comm (B ^ a.length) B,Nat.mul_assoc]
  omega
theorem K1 {B:Nat}:∀ (l:List Nat),okD B l→val B l<B ^ l.length
 | [],_=>by simp [val]
 | x :: l,h=>by
  have h1:=h x (by simp)
  have h2:=K1 l fun w hw=>h w (by simp [hw])
  simp only [val,List.length_cons,Nat.pow_succ]
  have h3:B*(val B l+1)≤B*B ^ l.length:=Nat.mul_le_mul_left B h2
  rw [Nat.mul_comm (B ^ l.length) B]
  rw [Nat.mul_add] at h3
  omega
theorem L5 {B:Nat} (hB:0<B):∀ (l:List Nat),Dn l→l ≠ []→0<val B l
 | [],_,h=>absurd rfl h
 | [x],ht,_=>by
  simp only [Dn,List.getLast?_singleton,ne_eq,Option.some.injEq] at ht
  simp only [val];omega
 | x :: y :: l,ht,_=>by
  have h1:Dn (y :: l):=by
   simp only [Dn,List.getLast?_cons_cons] at ht ⊢
   exact ht
  have:=L5 hB (y :: l) h1 (by simp)
  simp only [val] at this ⊢
  have h2:0<B*(y+B*val B l):=Nat.mul_pos hB this
  omega
theorem Od {x:Nat} {l:List Nat} (h:Dn (x :: l)):Dn l:=by
 cases l with
 | nil=>simp [Dn]
 | cons y l=>simpa [Dn,List.getLast?_cons_cons] using h
theorem fR {B:Nat} (hB:1<B):∀ (a b:List Nat),okD B a→okD B b→Dn a→Dn b→val B a=val B b→a=b
 | [],[],_,_,_,_,_=>rfl
 | [],y :: b,_,_,_,hb,h=>by
  have:=L5 (B:=B) (by omega) (y :: b) hb (by simp)
  rw [← h] at this;simp [val] at this
 | x :: a,[],_,_,ha,_,h=>by
  have:=L5 (B:=B) (by omega) (x :: a) ha (by simp)
  rw [h] at this;simp [val] at this
 | x :: a,y :: b,oa,ob,ha,hb,h=>by
  have hx:=oa x (by simp)
  have hy:=ob y (by simp)
  simp only [val] at h
  have e1:x=y:=by
   have:=congrArg (· % B) h
   simp only [Nat.add_mul_mod_self_left,Nat.mod_eq_of_lt hx,Nat.mod_eq_of_lt hy] at this
   exact this
  subst e1
  have e2:val B a=val B b:=by
   have h3:B*val B a=B*val B b:=by omega
   exact Nat.eq_of_mul_eq_mul_left (by omega) h3
  rw [fR hB a b (fun w hw=>oa w (by simp [hw])) (fun w hw=>ob w (by simp [hw])) (Od ha) (Od hb) e2]
def AM (B n:Nat):List Nat:=if h:1<B∧n ≠ 0 then (n % B) :: AM B (n / B) else []
termination_by n
decreasing_by exact Nat.div_lt_self (by omega) h.1
theorem BU (B:Nat):AM B 0=[]:=by rw [AM];simp
theorem Ll {B n:Nat} (hB:1<B) (hn:n ≠ 0):AM B n=(n % B) :: AM B (n / B):=by rw [AM,dif_pos ⟨hB,hn⟩]
theorem Dl {B:Nat} (hB:1<B) (n:Nat):val B (AM B n)=n:=by
 induction n using Nat.strongRecOn with
 | _ n ih =>
  by_cases hn:n=0
  ·subst hn;rw [BU];rfl
  ·rw [Ll hB hn,val,ih _ (Nat.div_lt_self (by omega) hB)]
   exact Nat.mod_add_div n B
theorem BG {B:Nat} (hB:1<B) (n:Nat):okD B (AM B n):=by
 induction n using Nat.strongRecOn with
 | _ n ih =>
  by_cases hn:n=0
  ·subst hn;rw [BU];intro w hw;cases hw
  ·rw [Ll hB hn]
   intro w hw
   rcases List.mem_cons.1 hw with rfl | hw
   ·exact Nat.mod_lt _ (by omega)
   ·exact ih _ (Nat.div_lt_self (by omega) hB) w hw
theorem CS {B:Nat} (hB:1<B) (n:Nat):Dn (AM B n):=by
 induction n using Nat.strongRecOn with
 | _ n ih =>
  by_cases hn:n=0
  ·subst hn;rw [BU];simp [Dn]
  ·rw [Ll hB hn]
   have h1:=ih _ (Nat.div_lt_self (by omega) hB)
   by_cases h0:n / B=0
   ·rw [h0,BU]
    have:n<B:=by
     rcases Nat.lt_or_ge n B with h | h
     ·exact h
     ·have:=Nat.div_pos h (by omega);omega
    simp only [Dn,List.getLast?_singleton,ne_eq,Option.some.injEq,Nat.mod_eq_of_lt this]
    exact hn
   ·rw [Ll hB h0] at h1 ⊢
    simp only [Dn,List.getLast?_cons_cons] at h1 ⊢
    exact h1
theorem OG {B:Nat} (hB:1<B) {l:List Nat} (h1:okD B l) (h2:Dn l):AM B (val B l)=l :=
 fR hB _ _ (BG hB _) h1 (CS hB _) h2 (Dl hB _)
def CF:List Nat→List Nat
 | []=>[]
 | x :: l=>match CF l with
  | []=>if x=0 then [] else [x]
  | y :: m=>x :: y :: m
theorem Ob (B:Nat):∀ l:List Nat,val B (CF l)=val B l
 | []=>rfl
 | x :: l=>by
  have ih:=Ob B l
  simp only [CF]
  cases h:CF l with
  | nil =>
   rw [h] at ih
   have h0:val B l=0:=ih.symm
   by_cases hx:x=0
   ·simp [hx,val,h0]
   ·simp [hx,val,h0]
  | cons y m=>rw [h] at ih;simp only [val] at ih ⊢;rw [ih]
theorem O4 {B:Nat}:∀ l:List Nat,okD B l→okD B (CF l)
 | [],h=>h
 | x :: l,h=>by
  have ih:=O4 l fun w hw=>h w (by simp [hw])
  simp only [CF]
  cases h2:CF l with
  | nil =>
   by_cases hx:x=0
   ·simp [hx,okD]
   ·simp only [if_neg hx];intro w hw;simp at hw;subst hw;exact h w (by simp)
  | cons y m =>
   rw [h2] at ih
   intro w hw
   rcases List.mem_cons.1 hw with rfl | hw
   ·exact h w (by simp)
   ·exact ih w hw
theorem Pi:∀ l:List Nat,Dn (CF l)
 | []=>by simp [CF,Dn]
 | x :: l=>by
  have ih:=Pi l
  simp only [CF]
  cases h2:CF l with
  | nil =>
   by_cases hx:x=0
   ·simp [hx,Dn]
   ·simp [hx,Dn]
  | cons y m =>
   rw [h2] at ih
   simp only [Dn,List.getLast?_cons_cons] at ih ⊢
   exact ih
theorem IX {B:Nat} (hB:1<B) {l:List Nat} (h:okD B l):CF l=AM B (val B l):=by
 rw [← Ob B l,OG hB (O4 l h) (Pi l)]
def TE (B:Nat):List Nat→List Nat→Nat→List Nat
 | [],_,c=>[c]
 | x :: a,b,c=>((x+b.headD 0+c) % B) :: TE B a b.tail ((x+b.headD 0+c) / B)
theorem Qi (B:Nat) (b:List Nat):b.headD 0+B*val B b.tail=val B b:=by cases b <;> simp [val]
theorem Xp (B:Nat):∀ (a b:List Nat) (c:Nat),b.length≤a.length→val B (TE B a b c)=val B a+val B b+c
 | [],b,c,h=>by
  have:b=[]:=List.eq_nil_of_length_eq_zero (by simpa using h)
  subst this
  simp [TE,val]
 | x :: a,b,c,h=>by
  have ih:=Xp B a b.tail ((x+b.headD 0+c) / B) (by simp at h ⊢;omega)
  simp only [TE,val,ih]
  have h1:=Nat.mod_add_div (x+b.headD 0+c) B
  have h2:=Qi B b
  simp only [Nat.mul_add]
  omega
theorem Y7 {B:Nat} (hB:1<B):∀ (a b:List Nat) (c:Nat),okD B a→okD B b→c≤1→okD B (TE B a b c)
 | [],b,c,_,_,hc=>by intro w hw;simp [TE] at hw;omega
 | x :: a,b,c,ha,hb,hc=>by
  have hx:=ha x (by simp)
  have hy:b.headD 0<B:=by
   cases b with
   | nil=>simp;omega
   | cons y b=>exact hb y (by simp)
  have ih:=Y7 hB a b.tail ((x+b.headD 0+c) / B) (fun w hw=>ha w (by simp [hw])) (fun w hw=>hb w (List.mem_of_mem_tail hw)) (by
   have:x+b.headD 0+c<B*2:=by omega
   have:=Nat.div_lt_of_lt_mul this
   omega)
  intro w hw
  simp only [TE,List.mem_cons] at hw
  rcases hw with rfl | hw
  ·exact Nat.mod_lt _ (by omega)
  ·exact ih w hw
def Hb (B:Nat):List Nat→List Nat→Nat→List Nat
 | [],_,_=>[]
 | x :: a,b,c=>((x+B-b.headD 0-c) % B) :: Hb B a b.tail (if x<b.headD 0+c then 1 else 0)
theorem K0 {B:Nat} (hB:1<B):∀ (a b:List Nat) (c:Nat),okD B a→okD B b→c≤1→b.length≤a.length→val B b+c≤val B a→val B (Hb B a b c)+val B b+c=val B a
 | [],b,c,_,_,_,h,hl=>by
  have:b=[]:=List.eq_nil_of_length_eq_zero (by simpa using h)
  subst this
  simp [Hb,val] at hl ⊢
  exact hl
 | x :: a,b,c,ha,hb,hc,h,hl=>by
  have hx:=ha x (by simp)
  have hy:b.headD 0<B:=by
   cases b with
   | nil=>simp;omega
   | cons y b=>exact hb y (by simp)
  have h2:=Qi B b
  simp only [val] at hl ⊢
  have oa:okD B a:=fun w hw=>ha w (by simp [hw])
  have ob:okD B b.tail:=fun w hw=>hb w (List.mem_of_mem_tail hw)
  have hlen:b.tail.length≤a.length:=by simp at h ⊢;omega
  simp only [Hb,val]
  by_cases hlt:x<b.headD 0+c
  ·rw [if_pos hlt]
   have hle:val B b.tail+1≤val B a:=by
    rcases Nat.lt_or_ge (val B b.tail) (val B a) with h3 | h3
    ·omega
    ·exfalso
     have:=Nat.mul_le_mul_left B h3
     omega
   have ih:=K0 hB a b.tail 1 oa ob (by omega) hlen hle
   have e:(x+B-b.headD 0-c) % B=x+B-b.headD 0-c:=Nat.mod_eq_of_lt (by omega)
   rw [e,← ih]
   simp only [Nat.mul_add]
   omega
  ·rw [if_neg hlt]
   have hle:val B b.tail+0≤val B a:=by
    rcases Nat.lt_or_ge (val B a) (val B b.tail) with h3 | h3
    ·exfalso
     have:=Nat.mul_le_mul_left B (show val B a+1≤val B b.tail by omega)
     rw [Nat.mul_add] at this
     omega
    ·omega
   have ih:=K0 hB a b.tail 0 oa ob (by omega) hlen hle
   have e:(x+B-b.headD 0-c) % B=x-b.headD 0-c:=by
    have:x+B-b.headD 0-c=(x-b.headD 0-c)+B:=by omega
    rw [this,Nat.add_mod_right,Nat.mod_eq_of_lt (by omega)]
   rw [e,← ih]
   simp only [Nat.mul_add]
   omega
theorem LK {B:Nat} (hB:1<B):∀ (a b:List Nat) (c:Nat),okD B (Hb B a b c)
 | [],b,c=>by intro w hw;simp [Hb] at hw
 | x :: a,b,c=>by
  intro w hw
  simp only [Hb,List.mem_cons] at hw
  rcases hw with rfl | hw
  ·exact Nat.mod_lt _ (by omega)
  ·exact LK hB _ _ _ w hw
theorem NU {B:Nat} (hB:1<B):∀ (k:Nat) (a b:List Nat),okD B a→okD B b→a.length=b.length→k<a.length→(∀ j,k<j→j<a.length→a.getD j 0=b.getD j 0)→a.getD k 0<b.getD k 0→val B a<val B b
 | 0,x :: a,y :: b,oa,ob,hl,hk,he,h=>by
  have e:a=b:=by
   apply List.ext_getElem (by simpa using hl)
   intro i h1 h2
   have:=he (i+1) (by omega) (by simp;omega)
   simpa [List.getD,List.getElem?_eq_getElem h1,List.getElem?_eq_getElem h2] using this
  subst e
  simp only [List.getD_cons_zero] at h
  simp only [val]
  omega
 | k+1,x :: a,y :: b,oa,ob,hl,hk,he,h=>by
  have ih:=NU hB k a b (fun w hw=>oa w (by simp [hw])) (fun w hw=>ob w (by simp [hw])) (by simpa using hl) (by simpa using hk) (fun j h1 h2=>by
   have:=he (j+1) (by omega) (by simp;omega)
   simpa using this) (by simpa using h)
  have hx:=oa x (by simp)
  simp only [val]
  have:=Nat.mul_le_mul_left B (show val B a+1≤val B b from ih)
  rw [Nat.mul_add] at this
  omega
 | 0,[],b,_,_,_,hk,_,_=>by simp at hk
 | k+1,[],b,_,_,_,hk,_,_=>by simp at hk
 | 0,_ :: _,[],_,_,hl,_,_,_=>by simp at hl
 | k+1,_ :: _,[],_,_,hl,_,_,_=>by simp at hl
theorem D2 {B:Nat} (hB:1<B) {a b:List Nat} (oa:okD B a) (hb:Dn b) (h:a.length<b.length):val B a<val B b:=by
 have h1:=K1 a oa
 have hne:b ≠ []:=by rintro rfl;simp at h
 have h2:B ^ (b.length-1)≤val B b:=by
  clear h h1 oa
  induction b with
  | nil=>exact absurd rfl hne
  | cons y b ih =>
   cases b with
   | nil =>
    have:=L5 (B:=B) (by omega) [y] hb (by simp)
    show B ^ 0≤_
    rw [Nat.pow_zero]
    exact this
   | cons z b =>
    have:=ih (Od hb) (by simp)
    simp only [List.length_cons,Nat.add_sub_cancel] at this ⊢
    rw [Nat.pow_succ,val]
    have:=Nat.mul_le_mul_left B this
    rw [Nat.mul_comm (B ^ b.length) B]
    omega
 have h3:B ^ a.length≤B ^ (b.length-1):=Nat.pow_le_pow_right (by omega) (by omega)
 omega
theorem NT (B:Nat):∀ (l:List Nat) (i v:Nat),i<l.length→val B (l.set i v)+B ^ i*l.getD i 0=val B l+B ^ i*v
 | [],i,v,h=>by simp at h
 | x :: l,0,v,h=>by simp [val];omega
 | x :: l,i+1,v,h=>by
  have ih:=NT B l i v (by simpa using h)
  simp only [List.set_cons_succ,val,List.getD_cons_succ,Nat.pow_succ]
  have h2:=congrArg (B * ·) ih
  simp only [Nat.mul_add] at h2
  rw [Nat.mul_comm (B ^ i) B,Nat.mul_assoc,Nat.mul_assoc]
  omega
theorem Nv {B:Nat} {l:List Nat} {i v:Nat} (h:okD B l) (hv:v<B):okD B (l.set i v):=by
 intro w hw
 rcases List.mem_or_eq_of_mem_set hw with h1 | rfl
 ·exact h w h1
 ·exact hv
theorem L4 (B n:Nat):val B (List.replicate n 0)=0:=by
 induction n with
 | zero=>rfl
 | succ n ih=>simp [List.replicate_succ,val,ih]
theorem ZA {B x y o c:Nat} (hB:1<B) (hx:x<B) (hy:y<B) (ho:o<B) (hc:c<B):(x*y+o+c) / B<B:=by
 have h1:x*y≤(B-1)*(B-1):=Nat.mul_le_mul (by omega) (by omega)
 have h2:(B-1)*(B-1)+(B-1)+(B-1)<B*B:=by
  obtain ⟨k,rfl⟩:∃ k,B=k+1:=⟨B-1,by omega⟩
  simp only [Nat.add_sub_cancel]
  rw [Nat.add_mul,Nat.mul_add]
  omega
 exact Nat.div_lt_of_lt_mul (by omega)
def Ej (B b:Nat):List Nat→List Nat × Nat
 | []=>([],0)
 | x :: a=>(((Ej B b a).2*B+x) / b :: (Ej B b a).1,((Ej B b a).2*B+x) % b)
theorem Lk (B:Nat) {b:Nat} (hb:0<b):∀ a:List Nat,val B (Ej B b a).1*b+(Ej B b a).2=val B a∧(Ej B b a).2<b
 | []=>by simp [Ej,val,hb]
 | x :: a=>by
  obtain ⟨h1,h2⟩:=Lk B hb a
  refine ⟨?_,Nat.mod_lt _ hb⟩
  simp only [Ej,val]
  have h3:=Nat.div_add_mod ((Ej B b a).2*B+x) b
  rw [← h1]
  generalize (Ej B b a).2=r at *
  generalize val B (Ej B b a).1=q at *
  rw [Nat.add_mul,Nat.mul_add,Nat.mul_comm ((r*B+x) / b) b,Nat.mul_assoc,Nat.mul_comm B r]
  omega
theorem W6 {B b:Nat} (hb:0<b):∀ a:List Nat,okD B a→okD B (Ej B b a).1
 | [],_=>by intro w hw;simp [Ej] at hw
 | x :: a,h=>by
  obtain ⟨_,h2⟩:=Lk B hb a
  have hx:=h x (by simp)
  intro w hw
  simp only [Ej,List.mem_cons] at hw
  rcases hw with rfl | hw
  ·refine Nat.div_lt_of_lt_mul ?_
   have:=Nat.mul_le_mul_right B (show (Ej B b a).2+1≤b from h2)
   rw [Nat.add_mul] at this
   omega
  ·exact W6 hb a (fun w hw=>h w (by simp [hw])) w hw
theorem SN (B b:Nat):∀ a:List Nat,(Ej B b a).1.length=a.length
 | []=>rfl
 | x :: a=>by simp [Ej,SN B b a]
theorem SM {a b q r:Nat} (h:q*b+r=a) (hr:r<b):q=a / b∧r=a % b:=by
 have e:a=r+q*b:=by omega
 refine ⟨?_,?_⟩
 ·rw [e,Nat.add_mul_div_right _ _ (by omega),Nat.div_eq_of_lt hr];omega
 ·rw [e,Nat.add_mul_mod_self_right,Nat.mod_eq_of_lt hr]
theorem vZ {a b rest q i:Nat} (h:a=rest+b*q) (hr:rest<b*2 ^ (i+1)) (hs:b*2 ^ i≤rest):a=(rest-b*2 ^ i)+b*(q+2 ^ i)∧rest-b*2 ^ i<b*2 ^ i:=by
 rw [Nat.pow_succ,← Nat.mul_assoc] at hr
 rw [Nat.mul_add]
 omega
theorem ZV (x y:Nat):Nat.gcd x y=Nat.gcd y (x % y):=by rw [Nat.gcd_comm x y,Nat.gcd_rec y x,Nat.gcd_comm]
theorem Xi (n:Nat):IntKind.u64.wrap (n:Int)=((n % 18446744073709551616:Nat):Int):=by rw [IntKind.wrap_u64];omega
theorem Cg {n:Nat} (h:n<18446744073709551616):IntKind.u64.wrap (n:Int)=(n:Int):=by rw [Xi,Nat.mod_eq_of_lt h]
theorem JW (n:Nat):BitVec.ofInt 64 (n:Int)=BitVec.ofNat 64 n:=by
 apply BitVec.eq_of_toNat_eq
 rw [BitVec.toNat_ofInt,BitVec.toNat_ofNat]
 omega
theorem bOr (a b:Int):B8 .or .u64 a b=IntKind.u64.wrap ((BitVec.ofInt 64 a ||| BitVec.ofInt 64 b).toNat:Int):=rfl
theorem bAnd (a b:Int):B8 .and .u64 a b=IntKind.u64.wrap ((BitVec.ofInt 64 a &&& BitVec.ofInt 64 b).toNat:Int):=rfl
theorem bXor (a b:Int):B8 .xor .u64 a b=IntKind.u64.wrap ((BitVec.ofInt 64 a ^^^ BitVec.ofInt 64 b).toNat:Int):=rfl
def bJ (x y:F):Prop:=FLe x y∧FLe y x
theorem bJ.refl (x:F):bJ x x:=⟨.refl x,.refl x⟩
theorem bJ.symm {x y:F} (h:bJ x y):bJ y x:=⟨h.2,h.1⟩
theorem FLe.trans {x y z:F} (h:FLe x y) (k:FLe y z):FLe x z:=fun w Z v hv=>k w Z v (h w Z v hv)
structure ElLe (x y:F):Prop where
 cells:E5 x.cells y.cells
 cell:(∀ u ∈ x.cells,Bi u=true)→∀ u ∈ y.cells,Bi u=true
theorem ElLe.refl (x:F):ElLe x x:=⟨.refl _,fun h=>h⟩
theorem FLe.slEl {n:Nat} {g g':Nat→F} (h:∀ j,j<n→ElLe (g j) (g' j)):FLe (.sl n g) (.sl n g'):=by
 intro w Z v hv
 cases hv with
 | sl _ _ A c sz a V hc hs hk hA hV hr =>
  have hget:∀ (i j:Nat) (u:F),i<n→(g' i).cells[j]?=some u→∃ x,(g i).cells[j]?=some x∧FLe x u:=fun i j u hi hu=>(h i hi).cells.get.2 j u hu
  refine .sl n g' A c sz a V hc (fun i hi=>by rw [← (h i hi).cells.get.1];exact hs i hi) (fun i j u hi hu=>?_) hA (fun i j u hi hu=>?_) (fun i j u hi hu=>?_)
  ·refine (h i hi).cell (fun u hu=>?_) u (List.mem_of_getElem? hu)
   obtain ⟨k,hk'⟩:=List.getElem?_of_mem hu
   exact hk i k u hi hk'
  ·obtain ⟨x,hx,_⟩:=hget i j u hi hu
   exact hV i j x hi hx
  ·obtain ⟨x,hx,hle⟩:=hget i j u hi hu
   exact hle _ _ _ (hr i j x hi hx)
theorem X1 {α:Type} {enc:α→F} {un:F→α} {is:F→Bool} {d:α} (h:∀ x,is x=true→ElLe x (enc (un x))∧ElLe (enc (un x)) x) {x:F} (hx:Dq is x=true):FLe x (slF enc d (Gi un x))∧FLe (slF enc d (Gi un x)) x:=by
 cases x with
 | sl n g =>
  simp only [Dq,List.all_eq_true,List.mem_range] at hx
  have e:∀ j,j<n→(Gi un (.sl n g)).getD j d=un (g j):=fun j hj=>by simp [Gi,List.getD,hj]
  have hl:=NW un n g
  unfold slF
  rw [hl]
  exact ⟨FLe.slEl fun j hj=>by rw [e j hj];exact (h _ (hx j hj)).1,FLe.slEl fun j hj=>by rw [e j hj];exact (h _ (hx j hj)).2⟩
 | _=>simp [Dq] at hx
theorem FLe.agg {xs ys:List F} (h:E5 xs ys):FLe (.agg xs) (.agg ys):=by
 intro w Z v hv
 cases hv with
 | agg _ vs hl hr =>
  obtain ⟨h1,h2⟩:=h.get
  refine .agg ys vs (by rw [← h1];exact hl) fun j y v hy hv=>?_
  obtain ⟨x,hx,hle⟩:=h2 j y hy
  exact hle _ _ _ (hr j x v hx hv)
theorem ElLe.agg {xs ys:List F} (h:E5 xs ys) (hc:(∀ u ∈ xs,Bi u=true)→∀ u ∈ ys,Bi u=true):ElLe (.agg xs) (.agg ys):=⟨h,hc⟩
def BK (n:Nat):F:=.int .u64 (n:Int)
def VG:F→Bool | .int .u64 n=>decide (0≤n)&&decide (n<18446744073709551616) | _=>false
def Qk:F→Nat | .int .u64 n=>n.toNat | _=>0
theorem oO {x:F} (h:VG x=true):BK (Qk x)=x:=by
 unfold VG at h
 split at h
 ·simp only [Bool.and_eq_true,decide_eq_true_eq] at h
  simp only [BK,Qk]
  rw [Int.toNat_of_nonneg h.1]
 ·cases h
def AL (l:List Nat):F:=slF BK 0 l
def Ay (x:F):Bool:=Dq VG x
def AS (x:F):List Nat:=Gi Qk x
theorem CR (l:List Nat):AS (AL l)=l:=NV (fun n=>by simp [Qk,BK]) l
theorem GZ {l:List Nat} (h:okD 18446744073709551616 l):Ay (AL l)=true:=N5 l fun n hn=>by
 have:=h n hn
 simp only [VG,BK,Bool.and_eq_true,decide_eq_true_eq]
 omega
theorem CC {x:F} (hx:Ay x=true):FLe x (AL (AS x))∧FLe (AL (AS x)) x:=WM (fun _ h=>oO h) hx
theorem C7 {x:F} (hx:Ay x=true):okD 18446744073709551616 (AS x):=by
 cases x with
 | sl n g =>
  simp only [Ay,Dq,List.all_eq_true,List.mem_range] at hx
  intro w hw
  simp only [AS,Gi,List.mem_map,List.mem_range] at hw
  obtain ⟨i,hi,rfl⟩:=hw
  have h:=hx i hi
  unfold VG at h
  split at h
  ·rename_i n' he
   simp only [Bool.and_eq_true,decide_eq_true_eq] at h
   rw [he]
   simp only [Qk]
   omega
  ·cases h
 | _=>simp [Ay,Dq] at hx
theorem Qo:∀ l:List Nat,CF l=l.take (CF l).length
 | []=>rfl
 | x :: l=>by
  have ih:=Qo l
  simp only [CF]
  cases h:CF l with
  | nil =>
   by_cases hx:x=0
   ·simp [hx]
   ·simp [hx]
  | cons y m =>
   rw [h] at ih
   simp only [List.length_cons,List.take_succ_cons,List.cons.injEq,true_and]
   simpa using ih
theorem QB (l:List Nat):CF (l++[0])=CF l:=by
 induction l with
 | nil=>rfl
 | cons x l ih=>simp only [List.cons_append,CF,ih]
theorem bT {x:Nat} (hx:x ≠ 0) (l:List Nat):CF (l++[x])=l++[x]:=by
 induction l with
 | nil=>simp [CF,hx]
 | cons y l ih =>
  simp only [List.cons_append,CF,ih]
  cases h:l++[x] with
  | nil=>simp at h
  | cons z m=>rfl
theorem As {x:Int} (h0:-9223372036854775808≤x) (h1:x≤9223372036854775807):IntKind.i64.wrap x=x:=by
 unfold IntKind.wrap
 simp [IntKind.bits,IntKind.signed]
 omega
def AF (z:Int):F:=.agg [.bool (decide (z<0)),AL (AM 18446744073709551616 z.natAbs)]
def I7 (x:Int):Bool:=match x with | .ofNat n=>Nat.ble n 18446744073709551615 | .negSucc _=>false
def iT (x:Int):Bool:=match x with | .ofNat n=>Nat.ble n 1 | .negSucc _=>false
def ED (x y c:Int):Bool:=I7 x&&I7 y&&iT c
def Hm (x y c:Int):Int:=(x+y+c) % 18446744073709551616
def Ks (x y c:Int):Int:=(x+y+c) / 18446744073709551616
def Qv (x y c:Int):Int:=(x-y-c) % 18446744073709551616
def Qw (x y c:Int):Int:=if x<y+c then 1 else 0
theorem Ga {x:Int}:I7 x=true ↔ 0≤x∧x<18446744073709551616:=by
 cases x with
 | ofNat n=>simp only [I7,Nat.ble_eq];constructor <;> intro h <;> simp at * <;> omega
 | negSucc n=>simp only [I7,Bool.false_eq_true,false_iff];omega
theorem mO {x:Int}:iT x=true ↔ 0≤x∧x≤1:=by
 cases x with
 | ofNat n=>simp only [iT,Nat.ble_eq];constructor <;> intro h <;> simp at * <;> omega
 | negSucc n=>simp only [iT,Bool.false_eq_true,false_iff];omega
theorem HU {x y c:Int}:ED x y c=true ↔ (0≤x∧x<18446744073709551616)∧(0≤y∧y<18446744073709551616)∧0≤c∧c≤1:=by
 simp only [ED,Bool.and_eq_true,Ga,mO,and_assoc]
def iF:List F→Bool | [.int .u64 x,.int .u64 y,.int .u64 c]=>ED x y c | _=>false
def Yc:List F→F | [.int .u64 x,.int .u64 y,.int .u64 c]=>.tup [.int .u64 (Hm x y c),.int .u64 (Ks x y c)] | _=>.dflt
def YG:List F→F | [.int .u64 x,.int .u64 y,.int .u64 c]=>.tup [.int .u64 (Qv x y c),.int .u64 (Qw x y c)] | _=>.dflt
theorem Yd (w:World) (Z:Nat→Prop) (a b:Nat) {x y:Int} (ha:x=(a:Int)) (hb:y=(b:Int)):RepF w Z (.tup [.int .u64 x,.int .u64 y]) (Extern.MathBitsCarry.pair a b):=by
 subst ha hb
 exact .tup [.int .u64 (a:Int),.int .u64 (b:Int)] [.int .u64 (a:Int),.int .u64 (b:Int)] rfl fun j u v hu hv=>by
  match j with
  | 0=>cases hu;cases hv;exact .int _ _
  | 1=>cases hu;cases hv;exact .int _ _
  | j+2=>cases hu
theorem TU {P:Program} {w:World} {name:String} {x y c:Nat} (hc:c≤1) :
  (Extern.MathBitsCarry.three name #[.int .u64 (x:Int),.int .u64 (y:Int),.int .u64 (c:Int)]).run P w=.ok (x,y,c) w:=by
 match c,hc with
 | 0,_=>rfl
 | 1,_=>rfl
theorem JP {w:World} {Z:Nat→Prop} {k:IntKind} {n:Int} {v:Value} (h:RepF w Z (.int k n) v):v=.int k n:=by cases h;rfl
theorem okAdd64:Ak Tryz.prog 63 iF Yc:=by
 intro xs hp w Z args hZ ha
 match xs,hp with
 | [.int .u64 x,.int .u64 y,.int .u64 c],hp =>
 obtain ⟨⟨hx0,hx⟩,⟨hy0,hy⟩,hc0,hc⟩:=HU.1 hp
 obtain ⟨x,rfl⟩:=Int.eq_ofNat_of_zero_le hx0
 obtain ⟨y,rfl⟩:=Int.eq_ofNat_of_zero_le hy0
 obtain ⟨c,rfl⟩:=Int.eq_ofNat_of_zero_le hc0
 obtain ⟨hl,hr⟩:=ha
 obtain ⟨v1,v2,v3,he⟩:∃ v1 v2 v3,args.toList=[v1,v2,v3]:=by
  match h:args.toList,hl with
  | [v1,v2,v3],_=>exact ⟨v1,v2,v3,rfl⟩
 have e:args = #[v1,v2,v3]:=by rw [← Array.toArray_toList (xs:=args),he]
 have e1:=JP (hr 0 _ v1 rfl (by rw [he];rfl))
 have e2:=JP (hr 1 _ v2 rfl (by rw [he];rfl))
 have e3:=JP (hr 2 _ v3 rfl (by rw [he];rfl))
 subst e e1 e2 e3
 refine .inr ⟨_,w,?_,⟨rfl,rfl,rfl,Nat.le_refl _,fun _ _=>rfl⟩,Z,fun b h=>.inl h,Yd w Z ((x+y+c) % 18446744073709551616) ((x+y+c) / 18446744073709551616) ?_ ?_⟩
 ·rw [run_callFunc_extern (e:=fun args=>do
   let (x, y, c) ← Extern.MathBitsCarry.three "Add64" args
   pure (Extern.MathBitsCarry.pair ((x+y+c) % Extern.MathBitsCarry.m64) ((x+y+c) / Extern.MathBitsCarry.m64))) Tryz.func63 (by kernel_rfl) (by kernel_rfl) (by kernel_rfl) (by kernel_rfl)]
  simp only [Sem.run_bind,TU (show c≤1 by omega),Result.andThen]
  rfl
 ·unfold Hm;omega
 ·unfold Ks;omega
theorem okSub64:Ak Tryz.prog 84 iF YG:=by
 intro xs hp w Z args hZ ha
 match xs,hp with
 | [.int .u64 x,.int .u64 y,.int .u64 c],hp =>
 obtain ⟨⟨hx0,hx⟩,⟨hy0,hy⟩,hc0,hc⟩:=HU.1 hp
 obtain ⟨x,rfl⟩:=Int.eq_ofNat_of_zero_le hx0
 obtain ⟨y,rfl⟩:=Int.eq_ofNat_of_zero_le hy0
 obtain ⟨c,rfl⟩:=Int.eq_ofNat_of_zero_le hc0
 obtain ⟨hl,hr⟩:=ha
 obtain ⟨v1,v2,v3,he⟩:∃ v1 v2 v3,args.toList=[v1,v2,v3]:=by
  match h:args.toList,hl with
  | [v1,v2,v3],_=>exact ⟨v1,v2,v3,rfl⟩
 have e:args = #[v1,v2,v3]:=by rw [← Array.toArray_toList (xs:=args),he]
 have e1:=JP (hr 0 _ v1 rfl (by rw [he];rfl))
 have e2:=JP (hr 1 _ v2 rfl (by rw [he];rfl))
 have e3:=JP (hr 2 _ v3 rfl (by rw [he];rfl))
 subst e e1 e2 e3
 refine .inr ⟨_,w,?_,⟨rfl,rfl,rfl,Nat.le_refl _,fun _ _=>rfl⟩,Z,fun b h=>.inl h,Yd w Z ((x+18446744073709551616-y-c) % 18446744073709551616) (if x<y+c then 1 else 0) ?_ ?_⟩
 ·rw [run_callFunc_extern (e:=fun args=>do
   let (x, y, c) ← Extern.MathBitsCarry.three "Sub64" args
   pure (Extern.MathBitsCarry.pair ((x+Extern.MathBitsCarry.m64-y-c) % Extern.MathBitsCarry.m64) (if x<y+c then 1 else 0))) Tryz.func84 (by kernel_rfl) (by kernel_rfl) (by kernel_rfl) (by kernel_rfl)]
  simp only [Sem.run_bind,TU (show c≤1 by omega),Result.andThen]
  rfl
 ·unfold Qv;omega
 ·unfold Qw;by_cases h:x<y+c <;> simp [h] <;> omega
theorem bP (n:Nat):Qk (BK n)=n:=by simp [Qk,BK]
def envN3:Env:=(env0.add 63 (.pure iF Yc)).add 84 (.pure iF YG)
theorem Zr:Az Tryz.prog envN3:=(Env.add_ok (Env.add_ok Ei okAdd64.sp) okSub64.sp)
theorem bA {n:Nat} (h:n<18446744073709551616):B8 .and .u64 (n:Int) 4294967295=((n % 4294967296:Nat):Int):=by
 rw [bAnd,JW,show BitVec.ofInt 64 4294967295=BitVec.ofNat 64 (2 ^ 32-1) from rfl,Xi]
 rw [BitVec.toNat_and,BitVec.toNat_ofNat,BitVec.toNat_ofNat,Nat.mod_eq_of_lt h]
 have e:(2 ^ 32-1) % 2 ^ 64=2 ^ 32-1:=rfl
 rw [e,Nat.and_two_pow_sub_one_eq_mod]
 omega
theorem K8 (n:Nat):Int.fdiv (n:Int) (2 ^ min (Int.toNat 32) IntKind.u64.bits)=((n / 4294967296:Nat):Int):=by
 rw [show (2 ^ min (Int.toNat 32) IntKind.u64.bits:Int)=((4294967296:Nat):Int) from rfl,Int.fdiv_eq_ediv_of_nonneg _ (by omega)]
 omega
theorem dA {x1 x0 y1 y0:Nat} (hx1:x1<4294967296) (hx0:x0<4294967296) (hy1:y1<4294967296) (hy0:y0<4294967296) :
  x1*y1≤18446744065119617025∧x1*y0≤18446744065119617025∧x0*y1≤18446744065119617025∧x0*y0≤18446744065119617025 ∧
  (x1*4294967296+x0)*(y1*4294967296+y0)=(x1*y1)*18446744073709551616+(x1*y0+x0*y1)*4294967296+x0*y0:=by
 have h:∀ {a b:Nat},a<4294967296→b<4294967296→a*b≤18446744065119617025:=fun {a b} ha hb =>
  Nat.le_trans (Nat.mul_le_mul (Nat.le_of_lt_succ ha) (Nat.le_of_lt_succ hb)) (by decide)
 refine ⟨h hx1 hy1,h hx1 hy0,h hx0 hy1,h hx0 hy0,?_⟩
 simp only [Nat.add_mul,Nat.mul_add]
 have e1:x1*4294967296*(y1*4294967296)=x1*y1*18446744073709551616:=by rw [Nat.mul_mul_mul_comm]
 have e2:x1*4294967296*y0=x1*y0*4294967296:=by rw [Nat.mul_right_comm]
 have e3:x0*(y1*4294967296)=x0*y1*4294967296:=by rw [Nat.mul_assoc]
 rw [e1,e2,e3]
 omega
/-! ### function 62 -/
def T62 {ρ:Type} (ret:(F)→Option ρ) (x:Nat) (y:Nat):Option ρ :=
 (ret (F.tup [F.int .u64 (IntKind.u64.wrap (IntKind.u64.wrap (IntKind.u64.wrap ((↑x:Int).fdiv (2 ^ min (Int.toNat 32) IntKind.u64.bits)*(↑y:Int).fdiv (2 ^ min (Int.toNat 32) IntKind.u64.bits))+(IntKind.u64.wrap (IntKind.u64.wrap ((↑x:Int).fdiv (2 ^ min (Int.toNat 32) IntKind.u64.bits)*B8 BinOp.and IntKind.u64 (↑y:Int) 4294967295)+(IntKind.u64.wrap (B8 BinOp.and IntKind.u64 (↑x:Int) 4294967295*B8 BinOp.and IntKind.u64 (↑y:Int) 4294967295)).fdiv (2 ^ min (Int.toNat 32) IntKind.u64.bits))).fdiv (2 ^ min (Int.toNat 32) IntKind.u64.bits))+(IntKind.u64.wrap (B8 BinOp.and IntKind.u64 (IntKind.u64.wrap (IntKind.u64.wrap ((↑x:Int).fdiv (2 ^ min (Int.toNat 32) IntKind.u64.bits)*B8 BinOp.and IntKind.u64 (↑y:Int) 4294967295)+(IntKind.u64.wrap (B8 BinOp.and IntKind.u64 (↑x:Int) 4294967295*B8 BinOp.and IntKind.u64 (↑y:Int) 4294967295)).fdiv (2 ^ min (Int.toNat 32) IntKind.u64.bits))) 4294967295+IntKind.u64.wrap (B8 BinOp.and IntKind.u64 (↑x:Int) 4294967295*(↑y:Int).fdiv (2 ^ min (Int.toNat 32) IntKind.u64.bits)))).fdiv (2 ^ min (Int.toNat 32) IntKind.u64.bits))),F.int .u64 (IntKind.u64.wrap ((↑x:Int)*(↑y:Int)))]))
def G62 (x:Nat) (y:Nat):Option (F):=T62 some x y
theorem t62 (x:Nat) (y:Nat) (r:F) (h:G62 x y=some r):AX Tryz.prog Tryz.f62.results.toList [.code (AT Tryz.f62)] (start Tryz.f62.ntmps ([BK x,BK y].map .f)) (r):=by
 refine AX.of_run Au Zr (T:=[]) (n:=200) ?_
 refine gE (Y:=T62 (fun r=>some (.ret (r))) x y) (by kernel_rfl) ?_
 exact gR (by cases h;rfl)
def Hk (x y:Int):Int:=(x*y) % 18446744073709551616
def Pq (x y:Int):Int:=(x*y) / 18446744073709551616
theorem mD {x y:Nat} (hx:x<18446744073709551616) (hy:y<18446744073709551616):G62 x y=some (.tup [.int .u64 (Pq x y),.int .u64 (Hk x y)]):=by
 have h1:Pq x y=((x*y / 18446744073709551616:Nat):Int):=by
  unfold Pq
  rw [← Int.natCast_mul]
  omega
 have h2:Hk x y=((x*y % 18446744073709551616:Nat):Int):=by
  unfold Hk
  rw [← Int.natCast_mul]
  omega
 rw [h1,h2]
 unfold G62 T62
 rw [bA hx,bA hy,K8,K8]
 have hx1:x / 4294967296<4294967296:=by omega
 have hx0:x % 4294967296<4294967296:=by omega
 have hy1:y / 4294967296<4294967296:=by omega
 have hy0:y % 4294967296<4294967296:=by omega
 obtain ⟨b1,b2,b3,b4,e⟩:=dA hx1 hx0 hy1 hy0
 rw [show x / 4294967296*4294967296+x % 4294967296=x by omega,show y / 4294967296*4294967296+y % 4294967296=y by omega] at e
 generalize x / 4294967296=x1 at *
 generalize x % 4294967296=x0 at *
 generalize y / 4294967296=y1 at *
 generalize y % 4294967296=y0 at *
 simp only [← Int.natCast_mul]
 generalize x1*y1=p at *
 generalize x1*y0=q at *
 generalize x0*y1=r at *
 generalize x0*y0=s at *
 generalize x*y=t at *
 subst e
 rw [Cg (n:=s) (by omega),K8,Cg (n:=q) (by omega),Cg (n:=p) (by omega),Cg (n:=r) (by omega)]
 try simp only [← Int.natCast_add]
 rw [Cg (n:=q+s / 4294967296) (by omega),K8,bA (by omega)]
 try simp only [← Int.natCast_add]
 rw [Cg (n:=_+r) (by omega),K8]
 try simp only [← Int.natCast_add]
 rw [Cg (n:=p+_) (by omega)]
 try simp only [← Int.natCast_add]
 rw [Cg (n:=p+_+_) (by omega),Xi]
 congr 5
 all_goals omega
def ZJ (x y:Int):Bool:=I7 x&&I7 y
def pre2w:List F→Bool | [.int .u64 x,.int .u64 y]=>ZJ x y | _=>false
def YN:List F→F | [.int .u64 x,.int .u64 y]=>.tup [.int .u64 (Pq x y),.int .u64 (Hk x y)] | _=>.dflt
theorem VF {x y:Int}:ZJ x y=true ↔ (0≤x∧x<18446744073709551616)∧(0≤y∧y<18446744073709551616):=by
 simp only [ZJ,Bool.and_eq_true,Ga]
theorem okMul64:Ak Tryz.prog 62 pre2w YN :=
 B2 (c:=AT Tryz.f62) Tryz.func62 (by kernel_rfl) (by kernel_rfl) fun xs hp=>match xs,hp with
 | [.int .u64 x,.int .u64 y],hp=>by
  obtain ⟨⟨hx0,hx⟩,hy0,hy⟩:=VF.1 hp
  obtain ⟨x,rfl⟩:=Int.eq_ofNat_of_zero_le hx0
  obtain ⟨y,rfl⟩:=Int.eq_ofNat_of_zero_le hy0
  exact t62 x y _ (mD (by omega) (by omega))
def envN4:Env:=envN3.add 62 (.pure pre2w YN)
theorem Lc:Az Tryz.prog envN4:=(Env.add_ok Zr okMul64.sp)
noncomputable section
/-! ### function 83 -/
def wV (n:Nat) (g:Nat→Nat):St:=⟨(U.f (F.sl n (fun j=>BK (g j)))) :: Al 20 [],[]⟩
def wO {ρ:Type} (ret:(Nat)→(Nat→F)→Option ρ) (c1:(Nat)→(Nat→Nat)→Option ρ) (n:Nat) (g:Nat→Nat):Option ρ :=
 (AD (decide ((↑n:Int) > 0)==true)
 (AD (decide (0≤IntKind.i64.wrap ((↑n:Int)-1)))
 (AD (decide (IntKind.i64.wrap ((↑n:Int)-1)<(↑n:Int)))
 (AD ((↑(g (IntKind.i64.wrap ((↑n:Int)-1)).toNat):Int)==0)
 (AD (decide (0≤IntKind.i64.wrap ((↑n:Int)-1)))
 (AD (decide (IntKind.i64.wrap ((↑n:Int)-1)≤(↑n:Int)))
 (c1 ((IntKind.i64.wrap ((↑n:Int)-1)).toNat-0) (fun j ↦ g (Int.toNat 0+j)))
 none)
 none)
 (ret (n) (fun j ↦ F.int .u64 (↑(g j):Int))))
 none)
 none)
 (ret (n) (fun j ↦ F.int .u64 (↑(g j):Int))))
def bF:Nat→(Nat)→(Nat→Nat)→Option ((Nat) × (Nat→F))
 | 0,_,_=>none
 | k+1,n,g=>wO (fun rn rg=>some (rn,rg)) (bF k) n g
def T83 {ρ:Type} (ret:(Nat)→(Nat→F)→Option ρ) (c1:(Nat)→(Nat→Nat)→Option ρ) (n:Nat) (g:Nat→Nat):Option ρ :=
 (c1 (n) (g))
def G83 (k:Nat) (n:Nat) (g:Nat→Nat):Option ((Nat) × (Nat→F)):=T83 (fun rn rg=>some (rn,rg)) (bF k) n g
theorem t83_1:∀ (k:Nat) (n:Nat) (g:Nat→Nat) (rn:Nat) (rg:Nat→F),bF k n g=some (rn,rg)→AX Tryz.prog Tryz.f83.results.toList (at_ Tryz.f83 1) (wV n g) (F.sl rn rg)
 | 0,_,_,_,_,h=>nomatch h
 | k+1,n,g,rn,rg,h=>by
  refine AX.of_cut Au Lc (T:=[(1,[0],1000)]) (n:=200) ?_
  refine gE (Y:=wO (fun rn rg=>some (.ret (F.sl rn rg))) (fun n g=>some (.cut (at_ Tryz.f83 1) (wV n g))) n g) (by kernel_rfl) ?_
  exact (gS h (fun _ h=>(gS h (fun _ h=>(gS h (fun _ h=>(gS h (fun _ h=>(gS h (fun _ h=>(gS h (fun _ h=>gC (t83_1 k _ _ rn rg h)) gN)) gN)) (fun _ h=>gR (by cases h;rfl)))) gN)) gN)) (fun _ h=>gR (by cases h;rfl)))
theorem t83 (k:Nat) (n:Nat) (g:Nat→Nat) (rn:Nat) (rg:Nat→F) (h:G83 k n g=some (rn,rg)):AX Tryz.prog Tryz.f83.results.toList [.code (AT Tryz.f83)] (start Tryz.f83.ntmps ([F.sl n (fun j=>BK (g j))].map .f)) (F.sl rn rg):=by
 refine AX.of_run Au Lc (T:=[(1,[0],1000)]) (n:=200) ?_
 refine gE (Y:=T83 (fun rn rg=>some (.ret (F.sl rn rg))) (fun n g=>some (.cut (at_ Tryz.f83 1) (wV n g))) n g) (by kernel_rfl) ?_
 exact gC (t83_1 k _ _ rn rg h)
theorem wpred {n:Nat} (h:n≤100000):IntKind.i64.wrap (((n+1:Nat):Int)-1)=(n:Int):=by rw [As (by omega) (by omega)];omega
theorem TR:∀ (n k:Nat) (g:Nat→Nat) (l:List Nat),n=l.length→(∀ j,j<n→g j=l.getD j 0)→n≤1000→n<k→∃ rn rg,bF k n g=some (rn,rg)∧E4 BK 0 rn rg (CF l)
 | 0,0,_,_,_,_,_,hk=>by omega
 | 0,k+1,g,[],_,_,_,_=>⟨_,_,rfl,.nil⟩
 | 0,k+1,g,x :: l,h,_,_,_=>by simp at h
 | n+1,0,_,_,_,_,_,hk=>by omega
 | n+1,k+1,g,l,h,hg,hn,hk=>by
  obtain ⟨l',x,rfl⟩:∃ l' x,l=l'++[x]:=by
   rcases List.eq_nil_or_concat l with rfl | ⟨l',x,rfl⟩
   ·simp at h
   ·exact ⟨l',x,by simp⟩
  have hl:n=l'.length:=by simp at h;exact h
  have hx:g n=x:=by
   rw [hg n (by omega),hl]
   simp [List.getD]
  have e0:IntKind.i64.wrap (((n+1:Nat):Int)-1)=(n:Int):=wpred (by omega)
  simp only [bF]
  unfold wO
  rw [e0,decide_eq_true (show ((n+1:Nat):Int) > 0 by omega),decide_eq_true (show (0:Int)≤n by omega),decide_eq_true (show (n:Int)<(n+1:Nat) by omega),decide_eq_true (show (n:Int)≤(n+1:Nat) by omega),Int.toNat_natCast,hx]
  simp only [AH,beq_self_eq_true]
  by_cases h0:x=0
  ·subst h0
   simp only [Int.cast_ofNat_Int,beq_self_eq_true,AH,Nat.sub_zero]
   rw [QB]
   refine TR n k _ l' hl (fun j hj=>?_) (by omega) (by omega)
   have:=hg j (by omega)
   simp only [List.getD] at this ⊢
   rw [List.getElem?_append_left (by omega)] at this
   rw [show Int.toNat 0+j=j by omega]
   exact this
  ·have hb:((x:Int)==0)=false:=by simpa using h0
   rw [hb,AJ,bT h0]
   exact ⟨_,_,rfl,h.symm ▸ rfl,fun j hj=>by rw [← hg j hj];rfl⟩
def cL:List F→Bool | [x]=>Ay x&&decide ((AS x).length≤1000) | _=>false
def Ip:List F→F | [x]=>AL (CF (AS x)) | _=>.dflt
theorem okTrim:Ak Tryz.prog 83 cL Ip :=
 Ad (c:=AT Tryz.f83) Tryz.func83 (by kernel_rfl) (by kernel_rfl) fun xs hp=>match xs,hp with
 | [x],hp=>by
  simp only [cL,Bool.and_eq_true,decide_eq_true_eq] at hp
  obtain ⟨h1,h2⟩:=hp
  obtain ⟨rn,rg,he,hl⟩:=TR _ 2000 (fun j=>(AS x).getD j 0) (AS x) rfl (fun j _=>rfl) h2 (by omega)
  exact ⟨[.sl (AS x).length fun j=>BK ((AS x).getD j 0)],_,⟨(CC h1).1,trivial⟩,t83 2000 _ _ _ _ he,hl.le⟩
/-! ### function 65 -/
def wX (a:List Nat) (b:List Nat) (i:Int):St:=⟨(U.f (AL a)) :: (U.f (AL b)) :: Al 3 ((U.f (F.int .i64 i)) :: Al 35 []),[]⟩
def jP {ρ:Type} (ret:(Int)→Option ρ) (c4:(List Nat)→(List Nat)→(Int)→Option ρ) (a:List Nat) (b:List Nat) (i:Int):Option ρ :=
 (AD (decide (i ≥ 0))
 (AD (decide (0≤i))
 (AD (decide (i<(↑a.length:Int)))
 (AD (decide (0≤i))
 (AD (decide (i<(↑b.length:Int)))
 (AD ((↑(a.getD i.toNat 0):Int) != (↑(b.getD i.toNat 0):Int))
 (AD (decide (0≤i))
 (AD (decide (i<(↑a.length:Int)))
 (AD (decide (0≤i))
 (AD (decide (i<(↑b.length:Int)))
 (AD (decide ((↑(a.getD i.toNat 0):Int)<(↑(b.getD i.toNat 0):Int)))
 (ret (-1))
 (ret (1)))
 none)
 none)
 none)
 none)
 (c4 (a) (b) (IntKind.i64.wrap (i-1))))
 none)
 none)
 none)
 none)
 (ret (0)))
def V0:Nat→(List Nat)→(List Nat)→(Int)→Option (Int)
 | 0,_,_,_=>none
 | k+1,a,b,i=>jP some (V0 k) a b i
def T65 {ρ:Type} (ret:(Int)→Option ρ) (c4:(List Nat)→(List Nat)→(Int)→Option ρ) (a:List Nat) (b:List Nat):Option ρ :=
 (AD ((↑a.length:Int) != (↑b.length:Int))
 (ret (IntKind.i64.wrap ((↑a.length:Int)-(↑b.length:Int))))
 (c4 (a) (b) (IntKind.i64.wrap ((↑a.length:Int)-1))))
def G65 (k:Nat) (a:List Nat) (b:List Nat):Option (Int):=T65 some (V0 k) a b
theorem t65_4:∀ (k:Nat) (a:List Nat) (b:List Nat) (i:Int) (r:Int),V0 k a b i=some r→AX Tryz.prog Tryz.f65.results.toList (at_ Tryz.f65 4) (wX a b i) (F.int .i64 r)
 | 0,_,_,_,_,h=>nomatch h
 | k+1,a,b,i,r,h=>by
  refine AX.of_cut Au Lc (T:=[(4,[0,1,5],1000)]) (n:=200) ?_
  refine gE (Y:=jP (fun r=>some (.ret (F.int .i64 r))) (fun a b i=>some (.cut (at_ Tryz.f65 4) (wX a b i))) a b i) (by kernel_rfl) ?_
  exact (gS h (fun _ h=>(gS h (fun _ h=>(gS h (fun _ h=>(gS h (fun _ h=>(gS h (fun _ h=>(gS h (fun _ h=>(gS h (fun _ h=>(gS h (fun _ h=>(gS h (fun _ h=>(gS h (fun _ h=>(gS h (fun _ h=>gR (by cases h;rfl)) (fun _ h=>gR (by cases h;rfl)))) gN)) gN)) gN)) gN)) (fun _ h=>gC (t65_4 k _ _ _ r h)))) gN)) gN)) gN)) gN)) (fun _ h=>gR (by cases h;rfl)))
theorem t65 (k:Nat) (a:List Nat) (b:List Nat) (r:Int) (h:G65 k a b=some r):AX Tryz.prog Tryz.f65.results.toList [.code (AT Tryz.f65)] (start Tryz.f65.ntmps ([AL a,AL b].map .f)) (F.int .i64 r):=by
 refine AX.of_run Au Lc (T:=[(4,[0,1,5],1000)]) (n:=200) ?_
 refine gE (Y:=T65 (fun r=>some (.ret (F.int .i64 r))) (fun a b i=>some (.cut (at_ Tryz.f65 4) (wX a b i))) a b) (by kernel_rfl) ?_
 exact (gS h (fun _ h=>gR (by cases h;rfl)) (fun _ h=>gC (t65_4 k _ _ _ r h)))
def Kq (a b:List Nat):Int:=if a.length ≠ b.length then (a.length:Int)-b.length else if val 18446744073709551616 a<val 18446744073709551616 b then -1 else if val 18446744073709551616 b<val 18446744073709551616 a then 1 else 0
theorem Dk {B:Nat} {l:List Nat} (h:okD B l) {j:Nat} (hj:j<l.length):l.getD j 0<B:=by
 simp only [List.getD,List.getElem?_eq_getElem hj,Option.getD_some]
 exact h _ (List.getElem_mem hj)
theorem aL {a b:List Nat} (oa:okD 18446744073709551616 a) (ob:okD 18446744073709551616 b) (hl:a.length=b.length) (hn:a.length≤1000) :
  ∀ (n k:Nat) (i:Int),i=(n:Int)-1→n≤a.length→(∀ j,n≤j→j<a.length→a.getD j 0=b.getD j 0)→n<k→V0 k a b i=some (Kq a b)
 | 0,0,_,_,_,_,hk=>by omega
 | n+1,0,_,_,_,_,hk=>by omega
 | 0,k+1,i,hi,_,he,_=>by
  subst hi
  have hab:a=b:=List.ext_getElem hl fun j h1 h2=>by
   have:=he j (Nat.zero_le _) h1
   simpa [List.getD,List.getElem?_eq_getElem h1,List.getElem?_eq_getElem h2] using this
  subst hab
  simp only [V0]
  unfold jP Kq
  simp [AJ]
 | n+1,k+1,i,hi,hna,he,hk=>by
  obtain rfl:i=(n:Int):=by omega
  simp only [V0]
  unfold jP
  rw [decide_eq_true (show (n:Int) ≥ 0 by omega),decide_eq_true (show (n:Int)<a.length by omega),decide_eq_true (show (n:Int)<b.length by omega)]
  rw [Int.toNat_natCast]
  simp only [AH]
  by_cases hx:a.getD n 0=b.getD n 0
  ·have hb:((a.getD n 0:Int) != (b.getD n 0:Int))=false:=by rw [hx,bne_self_eq_false]
   rw [hb,AJ]
   refine aL oa ob hl hn n k _ (by rw [As (by omega) (by omega)]) (by omega) (fun j h1 h2=>?_) (by omega)
   rcases Nat.eq_or_lt_of_le h1 with rfl | h
   ·exact hx
   ·exact he j h h2
  ·have hb:((a.getD n 0:Int) != (b.getD n 0:Int))=true:=by simp only [bne_iff_ne,ne_eq];omega
   rw [hb,AH]
   unfold Kq
   rw [if_neg (by omega)]
   by_cases hlt:a.getD n 0<b.getD n 0
   ·rw [decide_eq_true (show (a.getD n 0:Int)<b.getD n 0 by omega),AH,if_pos (NU (by omega) n a b oa ob hl (by omega) (fun j h1 h2=>he j h1 h2) hlt)]
   ·have hgt:b.getD n 0<a.getD n 0:=by omega
    have hv:=NU (B:=18446744073709551616) (by omega) n b a ob oa hl.symm (by omega) (fun j h1 h2=>(he j h1 (by omega)).symm) hgt
    rw [decide_eq_false (show ¬ (a.getD n 0:Int)<b.getD n 0 by omega),AJ,if_neg (by omega),if_pos hv]
theorem XC {a b:List Nat} (oa:okD 18446744073709551616 a) (ob:okD 18446744073709551616 b) (ha:a.length≤1000) (hb:b.length≤1000):G65 2000 a b=some (Kq a b):=by
 unfold G65 T65
 by_cases hl:a.length=b.length
 ·have h:((a.length:Int) != (b.length:Int))=false:=by simp [hl]
  rw [h,AJ]
  exact aL oa ob hl ha _ _ _ (by rw [As (by omega) (by omega)]) (Nat.le_refl _) (fun j h1 h2=>by omega) (by omega)
 ·have h:((a.length:Int) != (b.length:Int))=true:=by simp only [bne_iff_ne,ne_eq];omega
  rw [h,AH,As (by omega) (by omega)]
  unfold Kq
  rw [if_pos hl]
def rB:List F→Bool | [x,y]=>cL [x]&&cL [y] | _=>false
def gX:List F→F | [x,y]=>.int .i64 (Kq (AS x) (AS y)) | _=>.dflt
theorem Yj {x:F} (h:cL [x]=true):Ay x=true∧(AS x).length≤1000:=by
 simpa [cL] using h
theorem okCmpW:Ak Tryz.prog 65 rB gX :=
 Ad (c:=AT Tryz.f65) Tryz.func65 (by kernel_rfl) (by kernel_rfl) fun xs hp=>match xs,hp with
 | [x,y],hp=>by
  simp only [rB,Bool.and_eq_true] at hp
  obtain ⟨hx,hxl⟩:=Yj hp.1
  obtain ⟨hy,hyl⟩:=Yj hp.2
  exact ⟨[AL (AS x),AL (AS y)],_,⟨(CC hx).1,(CC hy).1,trivial⟩,t65 2000 _ _ _ (XC (C7 hx) (C7 hy) hxl hyl),.refl _⟩
theorem NA (m n:Nat):(Kq (AM 18446744073709551616 m) (AM 18446744073709551616 n) ≥ 0 ↔ n≤m)∧(Kq (AM 18446744073709551616 m) (AM 18446744073709551616 n)<0 ↔ m<n):=by
 have hm:=Dl (B:=18446744073709551616) (by omega) m
 have hn:=Dl (B:=18446744073709551616) (by omega) n
 have key:Kq (AM 18446744073709551616 m) (AM 18446744073709551616 n)<0 ↔ m<n:=by
  unfold Kq
  rw [hm,hn]
  split
  ·rename_i h
   rcases Nat.lt_or_gt_of_ne h with h | h
   ·have:=D2 (by omega) (BG (B:=18446744073709551616) (by omega) m) (CS (B:=18446744073709551616) (by omega) n) h
    omega
   ·have:=D2 (by omega) (BG (B:=18446744073709551616) (by omega) n) (CS (B:=18446744073709551616) (by omega) m) h
    omega
  ·split
   ·omega
   ·split <;> omega
 exact ⟨by omega,key⟩
def envN5:Env:=(envN4.add 83 (.pure cL Ip)).add 65 (.pure rB gX)
theorem Jj:Az Tryz.prog envN5:=(Env.add_ok (Env.add_ok Lc okTrim.sp) okCmpW.sp)
end
noncomputable section
theorem RC {m:Nat} {f:Nat→Nat} {l:List Nat} (hl:l.length=m) (hg:∀ j,j<m→f j=l.getD j 0):(List.range m).map f=l:=by
 refine List.ext_getElem (by simp [hl]) fun j h1 h2=>?_
 simp only [List.getElem_map,List.getElem_range]
 rw [hg j (by omega)]
 simp [List.getD,List.getElem?_eq_getElem h2]
theorem D3 {m:Nat} {g:Nat→F} {l:List Nat} (hl:l.length=m) (hg:∀ j,j<m→g j=BK (l.getD j 0)):AS (.sl m g)=l :=
 RC hl fun j hj=>by rw [hg j hj,bP]
theorem DZ {m:Nat} {g:Nat→F} {l:List Nat} (hl:l.length=m) (hg:∀ j,j<m→g j=BK (l.getD j 0)) (ho:okD 18446744073709551616 l):Ay (.sl m g)=true:=by
 simp only [Ay,Dq,List.all_eq_true,List.mem_range]
 intro j hj
 rw [hg j hj]
 have:=Dk ho (show j<l.length by omega)
 simp only [VG,BK,Bool.and_eq_true,decide_eq_true_eq]
 omega
theorem Nw {B:Nat} {a b:List Nat} (ha:okD B a) (hb:okD B b):okD B (a++b):=by
 intro w hw
 rcases List.mem_append.1 hw with h | h
 ·exact ha w h
 ·exact hb w h
theorem Jo {a:List Nat} {x:Nat} {rest:List Nat} {i:Nat} (h:a.drop i=x :: rest):a.getD i 0=x∧a.drop (i+1)=rest∧i<a.length:=by
 have hi:i<a.length:=by
  rcases Nat.lt_or_ge i a.length with h1 | h1
  ·exact h1
  ·rw [List.drop_eq_nil_of_le h1] at h;cases h
 rw [List.drop_eq_getElem_cons hi] at h
 injection h with h1 h2
 exact ⟨by simp [List.getD,List.getElem?_eq_getElem hi,h1],h2,hi⟩
theorem KJ (b:List Nat) (i:Nat):(b.drop i).headD 0=b.getD i 0:=by
 rw [List.headD_eq_head?_getD,List.head?_drop]
 rfl
theorem L7 (b:List Nat) (i:Nat):(b.drop i).tail=b.drop (i+1):=by simp
theorem Dz {b:List Nat} {i:Nat} (h:b.length≤i):b.getD i 0=0:=by simp [List.getD,List.getElem?_eq_none h]
theorem HX {B:Nat} (hB:0<B) {l:List Nat} (h:okD B l) (j:Nat):l.getD j 0<B:=by
 rcases Nat.lt_or_ge j l.length with hj | hj
 ·exact Dk h hj
 ·rw [Dz hj];exact hB
theorem DO (n:Nat):(BK n).cells.length=1:=rfl
theorem EW (x:F):((Cd x || true)&&true)=true:=by simp
theorem Lx {x y c:Nat}:Hm x y c=(((x+y+c) % 18446744073709551616:Nat):Int)∧Ks x y c=(((x+y+c) / 18446744073709551616:Nat):Int):=by
 unfold Hm Ks
 omega
theorem K6 {x y c:Nat} (hx:x<18446744073709551616) (hy:y<18446744073709551616) (hc:c≤1):Qv x y c=(((x+18446744073709551616-y-c) % 18446744073709551616:Nat):Int)∧Qw x y c=(((if x<y+c then 1 else 0:Nat)):Int):=by
 unfold Qv Qw
 refine ⟨by omega,?_⟩
 by_cases h:x<y+c
 ·rw [if_pos h,if_pos (by omega)];rfl
 ·rw [if_neg h,if_neg (by omega)];rfl
theorem Mp {m i v:Nat} {g:Nat→F} {o:List Nat} (hi:o.length=i) (hg:∀ j,j<m→g j=BK (o.getD j 0)) :
  ∀ j,j<m→(fun j=>if j=0+i then F.int .u64 (v:Int) else g j) j=BK ((o++[v]).getD j 0):=by
 intro j hj
 show (if j=0+i then F.int .u64 (v:Int) else g j)=_
 subst hi
 by_cases h:j=0+o.length
 ·rw [if_pos h,h,Nat.zero_add]
  simp [List.getD,BK]
 ·rw [if_neg h,hg j hj]
  rcases Nat.lt_or_ge j o.length with h1 | h1
  ·simp [List.getD,List.getElem?_append_left h1]
  ·rw [Dz h1,Dz (by simp;omega)]
/-! ### function 64 -/
def wY (a:List Nat) (b:List Nat) (m:Nat) (n:Int) (i:Int) (c:Int) (g:Nat→F):St:=⟨(U.f (AL a)) :: (U.f (AL b)) :: Al 3 ((U.hs 0 m 0 m) :: (U.f (F.int .u64 c)) :: Al 14 ((U.f (F.int .i64 n)) :: (U.f (F.int .i64 i)) :: Al 31 [])),[HO.arr 1 m g]⟩
abbrev KJ31 (ρ:Type):=(List Nat)→(List Nat)→(Nat)→(Int)→(Int)→(Int)→(Nat→F)→Option ρ
def jQ {ρ:Type} (ret:(List Nat)→Option ρ) (c5:KJ31 ρ) (a:List Nat) (b:List Nat) (m:Nat) (n:Int) (i:Int) (c:Int) (g:Nat→F):Option ρ :=
 (AD (decide (i<n))
 (AD (decide (i<(↑b.length:Int)))
 (AD (decide (0≤i))
 (AD (decide (i<(↑b.length:Int)))
 (AD (decide (0≤i))
 (AD (decide (i<(↑a.length:Int)))
 (AD (ED (↑(a.getD i.toNat 0):Int) (↑(b.getD i.toNat 0):Int) c)
 (AD (decide (m=m))
 (AD (decide (0≤i))
 (AD (decide (i<(↑m:Int)))
 (AD (decide (m=m))
 (AD (decide (0+i.toNat<m))
 (AD (decide ((g (0+i.toNat)).cells.length=1))
 (AD ((Cd (g (0+i.toNat)) || true)&&true)
 (c5 (a) (b) (m) (n) (IntKind.i64.wrap (i+1)) (Ks (↑(a.getD i.toNat 0):Int) (↑(b.getD i.toNat 0):Int) c) (fun j ↦ if j=0+i.toNat then F.int .u64 (Hm (↑(a.getD i.toNat 0):Int) (↑(b.getD i.toNat 0):Int) c) else g j))
 none)
 none)
 none)
 none)
 none)
 none)
 none)
 none)
 none)
 none)
 none)
 none)
 (AD (decide (0≤i))
 (AD (decide (i<(↑a.length:Int)))
 (AD (ED (↑(a.getD i.toNat 0):Int) 0 c)
 (AD (decide (m=m))
 (AD (decide (0≤i))
 (AD (decide (i<(↑m:Int)))
 (AD (decide (m=m))
 (AD (decide (0+i.toNat<m))
 (AD (decide ((g (0+i.toNat)).cells.length=1))
 (AD ((Cd (g (0+i.toNat)) || true)&&true)
 (c5 (a) (b) (m) (n) (IntKind.i64.wrap (i+1)) (Ks (↑(a.getD i.toNat 0):Int) 0 c) (fun j ↦ if j=0+i.toNat then F.int .u64 (Hm (↑(a.getD i.toNat 0):Int) 0 c) else g j))
 none)
 none)
 none)
 none)
 none)
 none)
 none)
 none)
 none)
 none))
 (AD (decide (m=m))
 (AD (decide ((↑a.length:Int)<(↑m:Int)))
 (AD (decide (m=m))
 (AD (decide (0+(↑a.length:Int).toNat<m))
 (AD (decide ((g (0+(↑a.length:Int).toNat)).cells.length=1))
 (AD ((Cd (g (0+(↑a.length:Int).toNat)) || true)&&true)
 (AD (decide (m=m))
 (AD (Ay (F.sl m (B9 0 fun j ↦ if j=0+(↑a.length:Int).toNat then F.int .u64 c else g j))&&decide ((AS (F.sl m (B9 0 fun j ↦ if j=0+(↑a.length:Int).toNat then F.int .u64 c else g j))).length≤1000))
 (ret (CF (AS (F.sl m (B9 0 fun j ↦ if j=0+(↑a.length:Int).toNat then F.int .u64 c else g j)))))
 none)
 none)
 none)
 none)
 none)
 none)
 none)
 none))
def P7:Nat→(List Nat)→(List Nat)→(Nat)→(Int)→(Int)→(Int)→(Nat→F)→Option (List Nat)
 | 0,_,_,_,_,_,_,_=>none
 | k+1,a,b,m,n,i,c,g=>jQ some (P7 k) a b m n i c g
def T64 {ρ:Type} (ret:(List Nat)→Option ρ) (c5:KJ31 ρ) (a:List Nat) (b:List Nat):Option ρ :=
 (AD (decide ((↑a.length:Int)<(↑b.length:Int)))
 (AD (decide (0≤IntKind.i64.wrap ((↑b.length:Int)+1)))
 (AD (decide (IntKind.i64.wrap ((↑b.length:Int)+1)≤IntKind.i64.wrap ((↑b.length:Int)+1)))
 (AD (decide (IntKind.i64.wrap ((↑b.length:Int)+1)*(((8:Nat):Int)+1)≤(↑Bs:Int)))
 (c5 (b) (a) ((IntKind.i64.wrap ((↑b.length:Int)+1)).toNat) ((↑b.length:Int)) (0) (0) (fun x ↦ F.int .u64 0))
 none)
 none)
 none)
 (AD (decide (0≤IntKind.i64.wrap ((↑a.length:Int)+1)))
 (AD (decide (IntKind.i64.wrap ((↑a.length:Int)+1)≤IntKind.i64.wrap ((↑a.length:Int)+1)))
 (AD (decide (IntKind.i64.wrap ((↑a.length:Int)+1)*(((8:Nat):Int)+1)≤(↑Bs:Int)))
 (c5 (a) (b) ((IntKind.i64.wrap ((↑a.length:Int)+1)).toNat) ((↑a.length:Int)) (0) (0) (fun x ↦ F.int .u64 0))
 none)
 none)
 none))
def G64 (k:Nat) (a:List Nat) (b:List Nat):Option (List Nat):=T64 some (P7 k) a b
theorem fS:∀ (k:Nat) (a:List Nat) (b:List Nat) (m:Nat) (n:Int) (i:Int) (c:Int) (g:Nat→F) (r:List Nat),P7 k a b m n i c g=some r→AX Tryz.prog Tryz.f64.results.toList (at_ Tryz.f64 5) (wY a b m n i c g) (AL r)
 | 0,_,_,_,_,_,_,_,_,h=>nomatch h
 | k+1,a,b,m,n,i,c,g,r,h=>by
  refine AX.of_cut Au Jj (T:=[(5,[0,1,5,6,21,22],1000)]) (n:=200) ?_
  refine gE (Y:=jQ (fun r=>some (.ret (AL r))) (fun a b m n i c g=>some (.cut (at_ Tryz.f64 5) (wY a b m n i c g))) a b m n i c g) (by kernel_rfl) ?_
  exact (gS h (fun _ h=>(gS h (fun _ h=>(gS h (fun _ h=>(gS h (fun _ h=>(gS h (fun _ h=>(gS h (fun _ h=>(gS h (fun _ h=>(gS h (fun _ h=>(gS h (fun _ h=>(gS h (fun _ h=>(gS h (fun _ h=>(gS h (fun _ h=>(gS h (fun _ h=>(gS h (fun _ h=>gC (fS k _ _ _ _ _ _ _ r h)) gN)) gN)) gN)) gN)) gN)) gN)) gN)) gN)) gN)) gN)) gN)) gN)) (fun _ h=>(gS h (fun _ h=>(gS h (fun _ h=>(gS h (fun _ h=>(gS h (fun _ h=>(gS h (fun _ h=>(gS h (fun _ h=>(gS h (fun _ h=>(gS h (fun _ h=>(gS h (fun _ h=>(gS h (fun _ h=>gC (fS k _ _ _ _ _ _ _ r h)) gN)) gN)) gN)) gN)) gN)) gN)) gN)) gN)) gN)) gN)))) (fun _ h=>(gS h (fun _ h=>(gS h (fun _ h=>(gS h (fun _ h=>(gS h (fun _ h=>(gS h (fun _ h=>(gS h (fun _ h=>(gS h (fun _ h=>(gS h (fun _ h=>gR (by cases h;rfl)) gN)) gN)) gN)) gN)) gN)) gN)) gN)) gN)))
theorem t64 (k:Nat) (a:List Nat) (b:List Nat) (r:List Nat) (h:G64 k a b=some r):AX Tryz.prog Tryz.f64.results.toList [.code (AT Tryz.f64)] (start Tryz.f64.ntmps ([AL a,AL b].map .f)) (AL r):=by
 refine AX.of_run Au Jj (T:=[(5,[0,1,5,6,21,22],1000)]) (n:=200) ?_
 refine gE (Y:=T64 (fun r=>some (.ret (AL r))) (fun a b m n i c g=>some (.cut (at_ Tryz.f64 5) (wY a b m n i c g))) a b) (by kernel_rfl) ?_
 exact (gS h (fun _ h=>(gS h (fun _ h=>(gS h (fun _ h=>(gS h (fun _ h=>gC (fS k _ _ _ _ _ _ _ r h)) gN)) gN)) gN)) (fun _ h=>(gS h (fun _ h=>(gS h (fun _ h=>(gS h (fun _ h=>gC (fS k _ _ _ _ _ _ _ r h)) gN)) gN)) gN)))
theorem GW {n:Nat} (h:n≤1000):(n:Int)*(((8:Nat):Int)+1)≤((Bs:Nat):Int):=by
 rw [Ev]
 omega
theorem bD {a b:List Nat} (oa:okD 18446744073709551616 a) (ob:okD 18446744073709551616 b) (hn:a.length≤900):∀ (rest:List Nat) (i c k:Nat) (o:List Nat) (g:Nat→F),a.drop i=rest→o.length=i→i+rest.length=a.length→c≤1→okD 18446744073709551616 o →
  (∀ j,j<a.length+1→g j=BK (o.getD j 0))→rest.length<k→P7 k a b (a.length+1) a.length i c g=some (CF (o++TE 18446744073709551616 rest (b.drop i) c))
 | _,_,_,0,_,_,_,_,_,_,_,_,h=>by omega
 | [],i,c,k+1,o,g,hr,ho,hi,hc,oo,hg,_=>by
  simp only [List.length_nil,Nat.add_zero] at hi
  subst hi
  have hw:=Mp (m:=a.length+1) (v:=c) ho hg
  have hlen:(o++[c]).length=a.length+1:=by simp [ho]
  have hok:okD 18446744073709551616 (o++[c]):=Nw oo (by intro w hw;simp at hw;omega)
  simp only [P7]
  unfold jQ
  rw [decide_eq_false (show ¬ (a.length:Int)<a.length by omega),AJ,decide_eq_true (show (a.length:Int)<((a.length+1:Nat):Int) by omega),Int.toNat_natCast,decide_eq_true (show a.length+1=a.length+1 from rfl),decide_eq_true (show 0+a.length<a.length+1 by omega),EW,hg (0+a.length) (by omega)]
  rw [show B9 0 (fun j=>if j=0+a.length then F.int .u64 (c:Int) else g j)=(fun j=>if j=0+a.length then F.int .u64 (c:Int) else g j) from rfl]
  rw [D3 hlen hw,DZ hlen hw hok,decide_eq_true (show (o++[c]).length≤1000 by omega),decide_eq_true (DO _)]
  rfl
 | x :: rest,i,c,k+1,o,g,hr,ho,hi,hc,oo,hg,hk=>by
  obtain ⟨hx,hr',hia⟩:=Jo hr
  have hxb:=Dk oa hia
  have hyb:=HX (by omega) ob i
  have hok:okD 18446744073709551616 (o++[(x+b.getD i 0+c) % 18446744073709551616]):=Nw oo (by intro w hw;simp at hw;omega)
  have go:=bD oa ob hn rest (i+1) ((x+b.getD i 0+c) / 18446744073709551616) k (o++[(x+b.getD i 0+c) % 18446744073709551616]) _ hr' (by simp [ho]) (by simp only [List.length_cons] at hi;omega) (by omega) hok (Mp ho hg) (by simp at hk;omega)
  have ei:IntKind.i64.wrap ((i:Int)+1)=((i+1:Nat):Int):=by rw [As (by omega) (by omega)];omega
  have goal:P7 k a b (a.length+1) a.length ((i+1:Nat):Int) (Ks (a.getD i 0:Int) (b.getD i 0:Int) c) (fun j=>if j=0+i then F.int .u64 (Hm (a.getD i 0:Int) (b.getD i 0:Int) c) else g j)=some (CF (o++TE 18446744073709551616 (x :: rest) (b.drop i) c)):=by
   rw [hx,(Lx).1,(Lx).2,go]
   simp only [TE,KJ,L7,List.append_assoc,List.singleton_append]
  have cr:ED (a.getD i 0:Int) (b.getD i 0:Int) c=true:=HU.2 (by omega)
  simp only [P7]
  unfold jQ
  rw [decide_eq_true (show (i:Int)<a.length by omega),decide_eq_true (show (0:Int)≤i by omega),decide_eq_true (show (i:Int)<((a.length+1:Nat):Int) by omega),Int.toNat_natCast,decide_eq_true (show 0+i<a.length+1 by omega),EW,hg (0+i) (by omega),decide_eq_true (DO _),decide_eq_true (show a.length+1=a.length+1 from rfl),ei]
  rcases Nat.lt_or_ge i b.length with hib | hib
  ·rw [decide_eq_true (show (i:Int)<b.length by omega)]
   simp only [AH]
   rw [cr]
   exact goal
  ·rw [decide_eq_false (show ¬ (i:Int)<b.length by omega)]
   rw [Dz hib] at cr goal
   simp only [AH,AJ]
   have cr':ED (a.getD i 0:Int) 0 c=true:=cr
   rw [cr']
   exact goal
theorem XI {a b:List Nat} (oa:okD 18446744073709551616 a) (ob:okD 18446744073709551616 b) (ha:a.length≤900) (hb:b.length≤900):G64 1000 a b=some (AM 18446744073709551616 (val 18446744073709551616 a+val 18446744073709551616 b)):=by
 have key:∀ {a b:List Nat},okD 18446744073709551616 a→okD 18446744073709551616 b→a.length≤900→b.length≤a.length→P7 1000 a b (a.length+1) a.length 0 0 (fun _=>F.int .u64 0)=some (AM 18446744073709551616 (val 18446744073709551616 a+val 18446744073709551616 b)):=fun {a b} oa ob ha hb=>by
  refine (bD oa ob ha a 0 0 1000 [] (fun _=>F.int .u64 0) rfl rfl (by simp) (by omega) (by intro w hw;simp at hw) (fun j hj=>rfl) (by omega)).trans ?_
  simp only [List.nil_append,List.drop_zero]
  rw [IX (B:=18446744073709551616) (by omega) (Y7 (by omega) _ _ _ oa ob (by omega)),Xp 18446744073709551616 a b 0 hb,Nat.add_zero]
 unfold G64 T64
 have e:∀ l:List Nat,l.length≤900→IntKind.i64.wrap ((l.length:Int)+1)=((l.length+1:Nat):Int):=fun l hl=>by rw [As (by omega) (by omega)];omega
 rw [e a ha,e b hb,decide_eq_true (GW (show a.length+1≤1000 by omega)),decide_eq_true (GW (show b.length+1≤1000 by omega))]
 rw [decide_eq_true (show (0:Int)≤((a.length+1:Nat):Int) by omega),decide_eq_true (show (0:Int)≤((b.length+1:Nat):Int) by omega),decide_eq_true (Int.le_refl _),decide_eq_true (Int.le_refl _),Int.toNat_natCast,Int.toNat_natCast]
 simp only [AH]
 by_cases h:a.length<b.length
 ·rw [decide_eq_true (show (a.length:Int)<b.length by omega),AH,key ob oa hb (by omega),Nat.add_comm]
 ·rw [decide_eq_false (show ¬ (a.length:Int)<b.length by omega),AJ,key oa ob ha (by omega)]
/-! ### function 66 -/
def wW (a:List Nat) (b:List Nat) (m:Nat) (n:Int) (i:Int) (c:Int) (g:Nat→F):St:=⟨(U.f (AL a)) :: (U.f (AL b)) :: Al 3 ((U.hs 0 m 0 m) :: (U.f (F.int .u64 c)) :: Al 6 ((U.f (F.int .i64 n)) :: (U.f (F.int .i64 i)) :: Al 26 [])),[HO.arr 1 m g]⟩
def jO {ρ:Type} (ret:(List Nat)→Option ρ) (c3:KJ31 ρ) (a:List Nat) (b:List Nat) (m:Nat) (n:Int) (i:Int) (c:Int) (g:Nat→F):Option ρ :=
 (AD (decide (i<n))
 (AD (decide (i<(↑b.length:Int)))
 (AD (decide (0≤i))
 (AD (decide (i<(↑b.length:Int)))
 (AD (decide (0≤i))
 (AD (decide (i<(↑a.length:Int)))
 (AD (ED (↑(a.getD i.toNat 0):Int) (↑(b.getD i.toNat 0):Int) c)
 (AD (decide (m=m))
 (AD (decide (0≤i))
 (AD (decide (i<(↑m:Int)))
 (AD (decide (m=m))
 (AD (decide (0+i.toNat<m))
 (AD (decide ((g (0+i.toNat)).cells.length=1))
 (AD ((Cd (g (0+i.toNat)) || true)&&true)
 (c3 (a) (b) (m) (n) (IntKind.i64.wrap (i+1)) (Qw (↑(a.getD i.toNat 0):Int) (↑(b.getD i.toNat 0):Int) c) (fun j ↦ if j=0+i.toNat then F.int .u64 (Qv (↑(a.getD i.toNat 0):Int) (↑(b.getD i.toNat 0):Int) c) else g j))
 none)
 none)
 none)
 none)
 none)
 none)
 none)
 none)
 none)
 none)
 none)
 none)
 (AD (decide (0≤i))
 (AD (decide (i<(↑a.length:Int)))
 (AD (ED (↑(a.getD i.toNat 0):Int) 0 c)
 (AD (decide (m=m))
 (AD (decide (0≤i))
 (AD (decide (i<(↑m:Int)))
 (AD (decide (m=m))
 (AD (decide (0+i.toNat<m))
 (AD (decide ((g (0+i.toNat)).cells.length=1))
 (AD ((Cd (g (0+i.toNat)) || true)&&true)
 (c3 (a) (b) (m) (n) (IntKind.i64.wrap (i+1)) (Qw (↑(a.getD i.toNat 0):Int) 0 c) (fun j ↦ if j=0+i.toNat then F.int .u64 (Qv (↑(a.getD i.toNat 0):Int) 0 c) else g j))
 none)
 none)
 none)
 none)
 none)
 none)
 none)
 none)
 none)
 none))
 (AD (decide (m=m))
 (AD (Ay (F.sl m (B9 0 g))&&decide ((AS (F.sl m (B9 0 g))).length≤1000))
 (ret (CF (AS (F.sl m (B9 0 g)))))
 none)
 none))
def Sm:Nat→(List Nat)→(List Nat)→(Nat)→(Int)→(Int)→(Int)→(Nat→F)→Option (List Nat)
 | 0,_,_,_,_,_,_,_=>none
 | k+1,a,b,m,n,i,c,g=>jO some (Sm k) a b m n i c g
def T66 {ρ:Type} (ret:(List Nat)→Option ρ) (c3:KJ31 ρ) (a:List Nat) (b:List Nat):Option ρ :=
 (AD (decide ((↑a.length:Int)≤(↑a.length:Int)))
 (AD (decide ((↑a.length:Int)*(((8:Nat):Int)+1)≤(↑Bs:Int)))
 (c3 (a) (b) ((↑a.length:Int).toNat) ((↑a.length:Int)) (0) (0) (fun x ↦ F.int .u64 0))
 none)
 none)
def G66 (k:Nat) (a:List Nat) (b:List Nat):Option (List Nat):=T66 some (Sm k) a b
theorem oZ:∀ (k:Nat) (a:List Nat) (b:List Nat) (m:Nat) (n:Int) (i:Int) (c:Int) (g:Nat→F) (r:List Nat),Sm k a b m n i c g=some r→AX Tryz.prog Tryz.f66.results.toList (at_ Tryz.f66 3) (wW a b m n i c g) (AL r)
 | 0,_,_,_,_,_,_,_,_,h=>nomatch h
 | k+1,a,b,m,n,i,c,g,r,h=>by
  refine AX.of_cut Au Jj (T:=[(3,[0,1,5,6,13,14],1000)]) (n:=200) ?_
  refine gE (Y:=jO (fun r=>some (.ret (AL r))) (fun a b m n i c g=>some (.cut (at_ Tryz.f66 3) (wW a b m n i c g))) a b m n i c g) (by kernel_rfl) ?_
  exact (gS h (fun _ h=>(gS h (fun _ h=>(gS h (fun _ h=>(gS h (fun _ h=>(gS h (fun _ h=>(gS h (fun _ h=>(gS h (fun _ h=>(gS h (fun _ h=>(gS h (fun _ h=>(gS h (fun _ h=>(gS h (fun _ h=>(gS h (fun _ h=>(gS h (fun _ h=>(gS h (fun _ h=>gC (oZ k _ _ _ _ _ _ _ r h)) gN)) gN)) gN)) gN)) gN)) gN)) gN)) gN)) gN)) gN)) gN)) gN)) (fun _ h=>(gS h (fun _ h=>(gS h (fun _ h=>(gS h (fun _ h=>(gS h (fun _ h=>(gS h (fun _ h=>(gS h (fun _ h=>(gS h (fun _ h=>(gS h (fun _ h=>(gS h (fun _ h=>(gS h (fun _ h=>gC (oZ k _ _ _ _ _ _ _ r h)) gN)) gN)) gN)) gN)) gN)) gN)) gN)) gN)) gN)) gN)))) (fun _ h=>(gS h (fun _ h=>(gS h (fun _ h=>gR (by cases h;rfl)) gN)) gN)))
theorem t66 (k:Nat) (a:List Nat) (b:List Nat) (r:List Nat) (h:G66 k a b=some r):AX Tryz.prog Tryz.f66.results.toList [.code (AT Tryz.f66)] (start Tryz.f66.ntmps ([AL a,AL b].map .f)) (AL r):=by
 refine AX.of_run Au Jj (T:=[(3,[0,1,5,6,13,14],1000)]) (n:=200) ?_
 refine gE (Y:=T66 (fun r=>some (.ret (AL r))) (fun a b m n i c g=>some (.cut (at_ Tryz.f66 3) (wW a b m n i c g))) a b) (by kernel_rfl) ?_
 exact (gS h (fun _ h=>(gS h (fun _ h=>gC (oZ k _ _ _ _ _ _ _ r h)) gN)) gN)
theorem Xt {a b:List Nat} (oa:okD 18446744073709551616 a) (ob:okD 18446744073709551616 b) (hn:a.length≤1000):∀ (rest:List Nat) (i c k:Nat) (o:List Nat) (g:Nat→F),a.drop i=rest→o.length=i→i+rest.length=a.length→c≤1→okD 18446744073709551616 o →
  (∀ j,j<a.length→g j=BK (o.getD j 0))→rest.length<k→Sm k a b a.length a.length i c g=some (CF (o++Hb 18446744073709551616 rest (b.drop i) c))
 | _,_,_,0,_,_,_,_,_,_,_,_,h=>by omega
 | [],i,c,k+1,o,g,hr,ho,hi,hc,oo,hg,_=>by
  simp only [List.length_nil,Nat.add_zero] at hi
  subst hi
  simp only [Sm]
  unfold jO
  rw [decide_eq_false (show ¬ (a.length:Int)<a.length by omega),AJ,decide_eq_true (show a.length=a.length from rfl)]
  rw [show B9 0 g=g from rfl,D3 ho hg,DZ ho hg oo,decide_eq_true (show o.length≤1000 by omega)]
  simp only [Hb,List.append_nil]
  rfl
 | x :: rest,i,c,k+1,o,g,hr,ho,hi,hc,oo,hg,hk=>by
  obtain ⟨hx,hr',hia⟩:=Jo hr
  have hxb:=Dk oa hia
  have hyb:=HX (by omega) ob i
  have hok:okD 18446744073709551616 (o++[(x+18446744073709551616-b.getD i 0-c) % 18446744073709551616]):=Nw oo (by intro w hw;simp at hw;omega)
  have go:=Xt oa ob hn rest (i+1) (if x<b.getD i 0+c then 1 else 0) k (o++[(x+18446744073709551616-b.getD i 0-c) % 18446744073709551616]) _ hr' (by simp [ho]) (by simp only [List.length_cons] at hi;omega) (by split <;> omega) hok (Mp ho hg) (by simp at hk;omega)
  have ei:IntKind.i64.wrap ((i:Int)+1)=((i+1:Nat):Int):=by rw [As (by omega) (by omega)];omega
  have goal:Sm k a b a.length a.length ((i+1:Nat):Int) (Qw (a.getD i 0:Int) (b.getD i 0:Int) c) (fun j=>if j=0+i then F.int .u64 (Qv (a.getD i 0:Int) (b.getD i 0:Int) c) else g j)=some (CF (o++Hb 18446744073709551616 (x :: rest) (b.drop i) c)):=by
   rw [hx] at hxb ⊢
   rw [(K6 hxb hyb hc).1,(K6 hxb hyb hc).2,go]
   simp only [Hb,KJ,L7,List.append_assoc,List.singleton_append]
  have cr:ED (a.getD i 0:Int) (b.getD i 0:Int) c=true:=HU.2 (by omega)
  simp only [Sm]
  unfold jO
  rw [decide_eq_true (show (i:Int)<a.length by omega),decide_eq_true (show (0:Int)≤i by omega),Int.toNat_natCast,decide_eq_true (show 0+i<a.length by omega),EW,hg (0+i) (by omega),decide_eq_true (DO _),decide_eq_true (show a.length=a.length from rfl),ei]
  rcases Nat.lt_or_ge i b.length with hib | hib
  ·rw [decide_eq_true (show (i:Int)<b.length by omega)]
   simp only [AH]
   rw [cr]
   exact goal
  ·rw [decide_eq_false (show ¬ (i:Int)<b.length by omega)]
   rw [Dz hib] at cr goal
   simp only [AH,AJ]
   have cr':ED (a.getD i 0:Int) 0 c=true:=cr
   rw [cr']
   exact goal
theorem WL {a b:List Nat} (oa:okD 18446744073709551616 a) (ob:okD 18446744073709551616 b) (ha:a.length≤1000) (hb:b.length≤a.length) (hv:val 18446744073709551616 b≤val 18446744073709551616 a):G66 2000 a b=some (AM 18446744073709551616 (val 18446744073709551616 a-val 18446744073709551616 b)):=by
 unfold G66 T66
 rw [decide_eq_true (Int.le_refl _),decide_eq_true (GW ha),Int.toNat_natCast]
 simp only [AH]
 refine (Xt oa ob ha a 0 0 2000 [] (fun _=>F.int .u64 0) rfl rfl (by simp) (by omega) (by intro w hw;simp at hw) (fun j hj=>rfl) (by omega)).trans ?_
 simp only [List.nil_append,List.drop_zero]
 have:=K0 (B:=18446744073709551616) (by omega) a b 0 oa ob (by omega) hb (by omega)
 rw [IX (B:=18446744073709551616) (by omega) (LK (by omega) _ _ _),show val 18446744073709551616 (Hb 18446744073709551616 a b 0)=val 18446744073709551616 a-val 18446744073709551616 b by omega]
def BB (n:Nat):F→Bool | .sl m _=>Nat.ble m n | _=>false
theorem H3 {n:Nat} {x:F} (hx:Ay x=true) (h:BB n x=true):(AS x).length≤n:=by
 cases x with
 | sl m g=>simpa [AS,Gi,BB] using h
 | _=>simp [Ay,Dq] at hx
theorem KE {n:Nat} {l:List Nat}:BB n (AL l)=Nat.ble l.length n:=rfl
def Wg:List F→Bool | [x,y]=>Ay x&&BB 900 x&&(Ay y&&BB 900 y) | _=>false
def Ec:List F→F | [x,y]=>AL (AM 18446744073709551616 (val 18446744073709551616 (AS x)+val 18446744073709551616 (AS y))) | _=>.dflt
def TX (a b:List Nat):Bool:=Nat.ble b.length a.length&&Nat.ble (val 18446744073709551616 b) (val 18446744073709551616 a)
def WY:List F→Bool | [x,y]=>Ay x&&BB 900 x&&(Ay y&&TX (AS x) (AS y)) | _=>false
def E6:List F→F | [x,y]=>AL (AM 18446744073709551616 (val 18446744073709551616 (AS x)-val 18446744073709551616 (AS y))) | _=>.dflt
theorem okAddW:Ak Tryz.prog 64 Wg Ec :=
 Ad (c:=AT Tryz.f64) Tryz.func64 (by kernel_rfl) (by kernel_rfl) fun xs hp=>match xs,hp with
 | [x,y],hp=>by
  simp only [Wg,Bool.and_eq_true] at hp
  obtain ⟨⟨hx,hxl⟩,hy,hyl⟩:=hp
  exact ⟨[AL (AS x),AL (AS y)],_,⟨(CC hx).1,(CC hy).1,trivial⟩,t64 1000 _ _ _ (XI (C7 hx) (C7 hy) (H3 hx hxl) (H3 hy hyl)),.refl _⟩
theorem okSubW:Ak Tryz.prog 66 WY E6 :=
 Ad (c:=AT Tryz.f66) Tryz.func66 (by kernel_rfl) (by kernel_rfl) fun xs hp=>match xs,hp with
 | [x,y],hp=>by
  simp only [WY,TX,Bool.and_eq_true,Nat.ble_eq] at hp
  obtain ⟨⟨hx,hxl⟩,hy,h1,h2⟩:=hp
  exact ⟨[AL (AS x),AL (AS y)],_,⟨(CC hx).1,(CC hy).1,trivial⟩,t66 2000 _ _ _ (WL (C7 hx) (C7 hy) (Nat.le_trans (H3 hx hxl) (by omega)) h1 h2),.refl _⟩
/-! ### function 67 -/
def T67 {ρ:Type} (ret:(Int)→Option ρ) (z:Int):Option ρ :=
 (AD (decide (z<0))
 (ret (-1))
 (AD (decide ((↑(AM 18446744073709551616 z.natAbs).length:Int) > 0))
 (ret (1))
 (ret (0))))
def G67 (z:Int):Option (Int):=T67 some z
theorem t67 (z:Int) (r:Int) (h:G67 z=some r):AX Tryz.prog Tryz.f67.results.toList [.code (AT Tryz.f67)] (start Tryz.f67.ntmps ([AF z].map .f)) (F.int .i64 r):=by
 refine AX.of_run Au Jj (T:=[]) (n:=200) ?_
 refine gE (Y:=T67 (fun r=>some (.ret (F.int .i64 r))) z) (by kernel_rfl) ?_
 exact (gS h (fun _ h=>gR (by cases h;rfl)) (fun _ h=>(gS h (fun _ h=>gR (by cases h;rfl)) (fun _ h=>gR (by cases h;rfl)))))
theorem OH {n:Nat}:AM 18446744073709551616 n=[] ↔ n=0:=by
 constructor
 ·intro h
  have:=Dl (B:=18446744073709551616) (by omega) n
  rw [h] at this
  exact this.symm
 ·rintro rfl;exact BU _
theorem C5 {n:Nat}:((AM 18446744073709551616 n).length:Int) > 0 ↔ n ≠ 0:=by
 rw [ne_eq,← OH,← List.length_eq_zero_iff]
 omega
theorem pX (z:Int):G67 z=some z.sign:=by
 unfold G67 T67
 rcases Int.lt_trichotomy z 0 with h | h | h
 ·rw [decide_eq_true h,Int.sign_eq_neg_one_of_neg h];rfl
 ·subst h
  rw [decide_eq_false (by omega),AJ,decide_eq_false (by rw [C5];simp)]
  rfl
 ·rw [decide_eq_false (by omega),AJ,decide_eq_true (by rw [C5];omega),Int.sign_eq_one_of_pos h];rfl
def envN6:Env:=(envN5.add 64 (.pure Wg Ec)).add 66 (.pure WY E6)
theorem R3:Az Tryz.prog envN6:=(Env.add_ok (Env.add_ok Jj okAddW.sp) okSubW.sp)
end
noncomputable section
def Oe (l:List Nat):Bool:=match l.getLast? with | some 0=>false | _=>true
theorem EM {l:List Nat}:Oe l=true ↔ Dn l:=by
 unfold Oe Dn
 split
 ·rename_i h;simp [h]
 ·rename_i h;simp;exact fun e=>h e
def Aq (n:Nat):F→Bool | .agg [.bool s,x]=>Ay x&&BB n x&&(Oe (AS x)&&(!s || !BB 0 x)) | _=>false
def sgn (s:Bool) (n:Nat):Int:=if s then -(n:Int) else n
def AG:F→Int | .agg [.bool s,x]=>sgn s (val 18446744073709551616 (AS x)) | _=>0
theorem SO {x:F} (hx:Ay x=true) (ht:Dn (AS x)):AM 18446744073709551616 (val 18446744073709551616 (AS x))=AS x:=OG (by omega) (C7 hx) ht
theorem EX {n k:Nat} (h:n<18446744073709551616 ^ k):(AM 18446744073709551616 n).length≤k:=by
 rcases Nat.lt_or_ge k (AM 18446744073709551616 n).length with hk | hk
 ·exfalso
  have h1:=D2 (B:=18446744073709551616) (a:=List.replicate k (18446744073709551616-1)) (b:=AM 18446744073709551616 n) (by omega) (fun w hw=>by have:=(List.mem_replicate.1 hw).2;omega) (CS (by omega) n) (by simpa using hk)
  have h2:∀ k:Nat,val 18446744073709551616 (List.replicate k (18446744073709551616-1))+1=18446744073709551616 ^ k:=by
   intro k
   induction k with
   | zero=>rfl
   | succ k ih =>
    simp only [List.replicate_succ,val,Nat.pow_succ,← ih]
    omega
  rw [Dl (by omega)] at h1
  have:=h2 k
  omega
 ·exact hk
theorem D5 (s:Bool) (n:Nat):(sgn s n).natAbs=n:=by cases s <;> simp [sgn]
theorem QR (s:Bool) (n:Nat):decide (sgn s n<0)=(s&&decide (n ≠ 0)):=by
 cases s
 ·simp only [sgn,Bool.false_eq_true,if_false,Bool.false_and]
  exact decide_eq_false (by omega)
 ·simp only [sgn,if_true,Bool.true_and]
  by_cases h:n=0
  ·rw [decide_eq_false (by omega),decide_eq_false (by omega)]
  ·rw [decide_eq_true (by omega),decide_eq_true h]
theorem X6 (z:Int):sgn (decide (z<0)) z.natAbs=z:=by
 unfold sgn
 split <;> simp at * <;> omega
theorem qD (s:Bool):sgn s 0=0:=by cases s <;> rfl
theorem dG {x:F} (hx:Ay x=true):BB 0 x=true ↔ AS x=[]:=by
 cases x with
 | sl m g=>simp [BB,AS,Gi]
 | _=>simp [Ay,Dq] at hx
theorem LM {n:Nat} {x:F} (h:Aq n x=true):∃ s y,x=.agg [.bool s,y]∧Ay y=true∧AF (AG x)=.agg [.bool s,AL (AS y)]:=by
 unfold Aq at h
 split at h
 ·rename_i s y
  simp only [Bool.and_eq_true,EM] at h
  obtain ⟨⟨hy,hl⟩,ht,hs⟩:=h
  have e:AF (AG (.agg [.bool s,y]))=.agg [.bool s,AL (AS y)]:=by
   rw [show AG (.agg [.bool s,y])=sgn s (val 18446744073709551616 (AS y)) from rfl]
   unfold AF
   rw [D5,QR,SO hy ht]
   congr 2
   cases s with
   | false=>rfl
   | true =>
    simp only [Bool.not_true,Bool.false_or,Bool.not_eq_true'] at hs
    have:AS y ≠ []:=fun e=>by rw [(dG hy).2 e] at hs;cases hs
    have:=L5 (B:=18446744073709551616) (by omega) _ ht this
    rw [Bool.true_and]
    congr 1
    exact decide_eq_true (by omega)
  exact ⟨s,y,rfl,hy,e⟩
 ·cases h
theorem D8 {n:Nat} {x:F} (h:Aq n x=true):FLe x (AF (AG x))∧FLe (AF (AG x)) x:=by
 obtain ⟨s,y,hx,hy,e⟩:=LM h
 rw [e,hx]
 exact ⟨FLe.agg ⟨.refl _,(CC hy).1,trivial⟩,FLe.agg ⟨.refl _,(CC hy).2,trivial⟩⟩
theorem num_el {n:Nat} {x:F} (h:Aq n x=true):ElLe x (AF (AG x))∧ElLe (AF (AG x)) x:=by
 obtain ⟨s,y,hx,hy,e⟩:=LM h
 have hc:Bi y=true:=by
  cases y with
  | sl n g=>rfl
  | _=>simp [Ay,Dq] at hy
 rw [e,hx]
 exact ⟨ElLe.agg ⟨.refl _,(CC hy).1,trivial⟩ fun _ u hu=>by
   simp only [List.mem_cons,List.not_mem_nil,or_false] at hu
   rcases hu with rfl | rfl <;> rfl,
  ElLe.agg ⟨.refl _,(CC hy).2,trivial⟩ fun _ u hu=>by
   simp only [List.mem_cons,List.not_mem_nil,or_false] at hu
   rcases hu with rfl | rfl
   ·rfl
   ·exact hc⟩
theorem B4 (z:Int):AG (AF z)=z:=by
 simp only [AG,AF,CR,Dl (show 1<18446744073709551616 by omega),X6]
theorem B6 {n:Nat} {z:Int} (h:z.natAbs<18446744073709551616 ^ n):Aq n (AF z)=true:=by
 simp only [Aq,AF,KE,GZ (BG (B:=18446744073709551616) (by omega) _),CR,Bool.and_eq_true,EM]
 refine ⟨⟨trivial,?_⟩,CS (by omega) _,?_⟩
 ·rw [Nat.ble_eq];exact EX h
 ·by_cases h0:z<0
  ·have:(AM 18446744073709551616 z.natAbs).length ≠ 0:=fun e=>by
    have:=OH.1 (List.length_eq_zero_iff.1 e)
    omega
   cases hb:Nat.ble (AM 18446744073709551616 z.natAbs).length 0 with
   | false=>simp
   | true=>rw [Nat.ble_eq] at hb;omega
  ·simp [h0]
theorem BA {n:Nat} {x:F} (h:Aq n x=true):(AG x).natAbs<18446744073709551616 ^ n:=by
 unfold Aq at h
 split at h
 ·rename_i s y
  simp only [Bool.and_eq_true] at h
  obtain ⟨⟨hy,hl⟩,_⟩:=h
  simp only [AG,D5]
  exact Nat.lt_of_lt_of_le (K1 _ (C7 hy)) (Nat.pow_le_pow_right (by omega) (H3 hy hl))
 ·cases h
/-! ### function 61 -/
def T61 {ρ:Type} (ret:(Bool)→(List Nat)→Option ρ) (s:Bool) (w:List Nat):Option ρ :=
 (AD (Ay (AL w)&&decide ((AS (AL w)).length≤1000))
 (AD (s==true)
 (ret (decide ((↑(CF (AS (AL w))).length:Int) > 0)) (CF (AS (AL w))))
 (ret (false) (CF (AS (AL w)))))
 none)
def G61 (s:Bool) (w:List Nat):Option ((Bool) × (List Nat)):=T61 (fun rb rw=>some (rb,rw)) s w
theorem t61 (s:Bool) (w:List Nat) (rb:Bool) (rw:List Nat) (h:G61 s w=some (rb,rw)):AX Tryz.prog Tryz.f61.results.toList [.code (AT Tryz.f61)] (start Tryz.f61.ntmps ([F.bool s,AL w].map .f)) (F.agg [F.bool rb,AL rw]):=by
 refine AX.of_run Au R3 (T:=[]) (n:=200) ?_
 refine gE (Y:=T61 (fun rb rw=>some (.ret (F.agg [F.bool rb,AL rw]))) s w) (by kernel_rfl) ?_
 exact (gS h (fun _ h=>(gS h (fun _ h=>gR (by cases h;rfl)) (fun _ h=>gR (by cases h;rfl)))) gN)
theorem sV {s:Bool} {w:List Nat} (ow:okD 18446744073709551616 w) (hl:w.length≤1000):G61 s w=some (s&&decide (val 18446744073709551616 w ≠ 0),AM 18446744073709551616 (val 18446744073709551616 w)):=by
 unfold G61 T61
 rw [GZ ow,CR,decide_eq_true hl,IX (by omega) ow]
 cases s
 ·rfl
 ·simp only [Bool.and_self,AH,beq_self_eq_true,Bool.true_and]
  congr 2
  by_cases h:val 18446744073709551616 w=0
  ·rw [decide_eq_false (by rw [C5];simpa using h),decide_eq_false (by simpa using h)]
  ·rw [decide_eq_true (by rw [C5];exact h),decide_eq_true h]
def Wa:List F→Bool | [.bool _,x]=>Ay x&&BB 1000 x | _=>false
def gJ:List F→F | [.bool s,x]=>AF (sgn s (val 18446744073709551616 (AS x))) | _=>.dflt
theorem okMade:Ak Tryz.prog 61 Wa gJ :=
 Ad (c:=AT Tryz.f61) Tryz.func61 (by kernel_rfl) (by kernel_rfl) fun xs hp=>match xs,hp with
 | [.bool s,x],hp=>by
  simp only [Wa,Bool.and_eq_true] at hp
  obtain ⟨hx,hl⟩:=hp
  refine ⟨[.bool s,AL (AS x)],_,⟨.refl _,(CC hx).1,trivial⟩,t61 s _ _ _ (sV (C7 hx) (H3 hx hl)),?_⟩
  show FLe _ (AF (sgn s (val 18446744073709551616 (AS x))))
  unfold AF
  rw [D5,QR]
  exact .refl _
/-! ### function 87 -/
def T87 {ρ:Type} (ret:(F)→Option ρ) (z:Int):Option ρ :=
 (ret (F.agg [F.bool false,AL (AM 18446744073709551616 z.natAbs)]))
def G87 (z:Int):Option (F):=T87 some z
theorem t87 (z:Int) (r:F) (h:G87 z=some r):AX Tryz.prog Tryz.f87.results.toList [.code (AT Tryz.f87)] (start Tryz.f87.ntmps ([AF z].map .f)) (r):=by
 refine AX.of_run Au R3 (T:=[]) (n:=200) ?_
 refine gE (Y:=T87 (fun r=>some (.ret (r))) z) (by kernel_rfl) ?_
 exact gR (by cases h;rfl)
def Mf (n:Nat):List F→Bool | [x]=>Aq n x | _=>false
def Me (n:Nat):List F→Bool | [x,y]=>Aq n x&&Aq n y | _=>false
def Ot:List F→F | [x]=>AF ((AG x).natAbs:Int) | _=>.dflt
theorem okAbs:Ak Tryz.prog 87 (Mf 400) Ot :=
 Ad (c:=AT Tryz.f87) Tryz.func87 (by kernel_rfl) (by kernel_rfl) fun xs hp=>match xs,hp with
 | [x],hp=>by
  refine ⟨[AF (AG x)],_,⟨(D8 hp).1,trivial⟩,t87 (AG x) _ rfl,?_⟩
  show FLe _ (AF ((AG x).natAbs:Int))
  unfold AF
  rw [Int.natAbs_natCast,decide_eq_false (by omega)]
  exact .refl _
def resSg:List F→F | [x]=>.int .i64 (AG x).sign | _=>.dflt
theorem okSg:Ak Tryz.prog 67 (Mf 400) resSg :=
 Ad (c:=AT Tryz.f67) Tryz.func67 (by kernel_rfl) (by kernel_rfl) fun xs hp=>match xs,hp with
 | [x],hp=>⟨[AF (AG x)],_,⟨(D8 hp).1,trivial⟩,t67 (AG x) _ (pX _),.refl _⟩
def envN7:Env:=((envN6.add 61 (.pure Wa gJ)).add 87 (.pure (Mf 400) Ot)).add 67 (.pure (Mf 400) resSg)
theorem OE:Az Tryz.prog envN7:=(Env.add_ok (Env.add_ok (Env.add_ok R3 okMade.sp) okAbs.sp) okSg.sp)
end
noncomputable section
theorem C2 (n:Nat):Ay (AL (AM 18446744073709551616 n))=true:=GZ (BG (by omega) n)
theorem DS (n:Nat):AS (AL (AM 18446744073709551616 n))=AM 18446744073709551616 n:=CR _
theorem DN (n:Nat):val 18446744073709551616 (AM 18446744073709551616 n)=n:=Dl (by omega) n
theorem Cv {n k j:Nat} (h:n<18446744073709551616 ^ j) (hk:j≤k):BB k (AL (AM 18446744073709551616 n))=true:=by
 rw [KE,Nat.ble_eq];exact Nat.le_trans (EX h) hk
theorem ZG {n k j:Nat} (h:n<18446744073709551616 ^ j) (hk:j≤k):decide ((AM 18446744073709551616 n).length≤k)=true:=decide_eq_true (Nat.le_trans (EX h) hk)
/-! ### function 50 -/
def T50 {ρ:Type} (ret:(F)→Option ρ) (n:Int):Option ρ :=
 (AD (decide (n<0))
 (AD (Ay (F.sl 1 (Ar [F.int .u64 (IntKind.u64.wrap (0-IntKind.u64.wrap n))]))&&true)
 (ret (AF (sgn true (val 18446744073709551616 (AS (F.sl 1 (Ar [F.int .u64 (IntKind.u64.wrap (0-IntKind.u64.wrap n))])))))))
 none)
 (AD (Ay (F.sl 1 (Ar [F.int .u64 (IntKind.u64.wrap n)]))&&true)
 (ret (AF (sgn false (val 18446744073709551616 (AS (F.sl 1 (Ar [F.int .u64 (IntKind.u64.wrap n)])))))))
 none))
def G50 (n:Int):Option (F):=T50 some n
theorem t50 (n:Int) (r:F) (h:G50 n=some r):AX Tryz.prog Tryz.f50.results.toList [.code (AT Tryz.f50)] (start Tryz.f50.ntmps ([F.int .i64 n].map .f)) (r):=by
 refine AX.of_run Au OE (T:=[]) (n:=200) ?_
 refine gE (Y:=T50 (fun r=>some (.ret (r))) n) (by kernel_rfl) ?_
 exact (gS h (fun _ h=>(gS h (fun _ h=>gR (by cases h;rfl)) gN)) (fun _ h=>(gS h (fun _ h=>gR (by cases h;rfl)) gN)))
def Ae (x:Int):Bool:=match x with | .ofNat n=>Nat.ble n 9223372036854775807 | .negSucc n=>Nat.ble n 9223372036854775807
theorem Bd {x:Int}:Ae x=true ↔ -9223372036854775808≤x∧x≤9223372036854775807:=by
 cases x with
 | ofNat n=>simp only [Ae,Nat.ble_eq];constructor <;> intro h <;> simp at * <;> omega
 | negSucc n=>simp only [Ae,Nat.ble_eq];constructor <;> intro h <;> omega
theorem Dw {x:Int}:IntKind.u64.wrap x=x % 18446744073709551616:=by rw [IntKind.wrap_u64]
theorem lA {n:Int} (h:-9223372036854775808≤n∧n≤9223372036854775807):G50 n=some (AF n):=by
 have key:∀ (v:Nat) (g:Nat→F) (s:Bool),g 0=F.int .u64 (v:Int)→v<18446744073709551616→sgn s v=n→AD (Ay (.sl 1 g)&&true) (some (F.agg [F.bool (decide (sgn s (val 18446744073709551616 (AS (.sl 1 g)))<0)),AL (AM 18446744073709551616 (sgn s (val 18446744073709551616 (AS (.sl 1 g)))).natAbs)])) none=some (AF n):=by
  intro v g s hg hv hn
  have hr:∀ j,j<1→g j=BK ([v].getD j 0):=fun j hj=>by
   obtain rfl:j=0:=by omega
   rw [hg];rfl
  have ho:okD 18446744073709551616 [v]:=by intro w hw;simp at hw;omega
  rw [DZ (m:=1) (l:=[v]) rfl hr ho,D3 (m:=1) (l:=[v]) rfl hr]
  show some (AF (sgn s (val 18446744073709551616 [v])))=_
  rw [show val 18446744073709551616 [v]=v by simp [val],hn]
 unfold G50 T50
 by_cases h0:n<0
 ·rw [decide_eq_true h0,AH]
  refine key (-n).toNat _ true ?_ (by omega) (by simp only [sgn,if_true];omega)
  show F.int .u64 (IntKind.u64.wrap (0-IntKind.u64.wrap n))=_
  rw [Dw,Dw]
  congr 1
  omega
 ·rw [decide_eq_false h0,AJ]
  refine key n.toNat _ false ?_ (by omega) (by simp only [sgn,Bool.false_eq_true,if_false];omega)
  show F.int .u64 (IntKind.u64.wrap n)=_
  rw [Dw]
  congr 1
  omega
def O0:List F→Bool | [.int .i64 n]=>Ae n | _=>false
def AC:List F→F | [.int .i64 n]=>AF n | _=>.dflt
theorem okWhole:Ak Tryz.prog 50 O0 AC :=
 B2 (c:=AT Tryz.f50) Tryz.func50 (by kernel_rfl) (by kernel_rfl) fun xs hp=>match xs,hp with
 | [.int .i64 n],hp=>t50 n _ (lA (Bd.1 hp))
/-! ### function 69 -/
def T69 {ρ:Type} (ret:(Bool)→(List Nat)→Option ρ) (z:Int):Option ρ :=
 (AD (Ay (AL (AM 18446744073709551616 z.natAbs))&&BB 1000 (AL (AM 18446744073709551616 z.natAbs)))
 (ret (decide (sgn (!decide (z<0)) (val 18446744073709551616 (AS (AL (AM 18446744073709551616 z.natAbs))))<0)) (AM 18446744073709551616 (sgn (!decide (z<0)) (val 18446744073709551616 (AS (AL (AM 18446744073709551616 z.natAbs))))).natAbs))
 none)
def G69 (z:Int):Option ((Bool) × (List Nat)):=T69 (fun rb rl=>some (rb,rl)) z
theorem t69 (z:Int) (rb:Bool) (rl:List Nat) (h:G69 z=some (rb,rl)):AX Tryz.prog Tryz.f69.results.toList [.code (AT Tryz.f69)] (start Tryz.f69.ntmps ([AF z].map .f)) (F.agg [F.bool rb,AL rl]):=by
 refine AX.of_run Au OE (T:=[]) (n:=200) ?_
 refine gE (Y:=T69 (fun rb rl=>some (.ret (F.agg [F.bool rb,AL rl]))) z) (by kernel_rfl) ?_
 exact (gS h (fun _ h=>gR (by cases h;rfl)) gN)
theorem mE {z:Int} (h:z.natAbs<18446744073709551616 ^ 400):∃ s l,G69 z=some (s,l)∧F.agg [.bool s,AL l]=AF (-z):=by
 unfold G69 T69
 rw [C2,Cv h (by omega),DS,DN]
 refine ⟨_,_,rfl,?_⟩
 have e:sgn (!decide (z<0)) z.natAbs = -z:=by
  unfold sgn
  by_cases h:z<0
  ·rw [decide_eq_true h];simp;omega
  ·rw [decide_eq_false h];simp;omega
 rw [e]
 rfl
def LE:List F→F | [x]=>AF (-(AG x)) | _=>.dflt
theorem okMinus:Ak Tryz.prog 69 (Mf 400) LE :=
 Ad (c:=AT Tryz.f69) Tryz.func69 (by kernel_rfl) (by kernel_rfl) fun xs hp=>match xs,hp with
 | [x],hp=>by
  obtain ⟨s,l,h1,h2⟩:=mE (BA hp)
  exact ⟨[AF (AG x)],_,⟨(D8 hp).1,trivial⟩,t69 (AG x) _ _ h1,by rw [h2];exact .refl _⟩
/-! ### function 52 -/
def T52 {ρ:Type} (ret:(Bool)→(List Nat)→Option ρ) (x:Int) (y:Int):Option ρ :=
 (AD (decide (x<0)==decide (y<0))
 (AD (Ay (AL (AM 18446744073709551616 x.natAbs))&&BB 900 (AL (AM 18446744073709551616 x.natAbs))&&(Ay (AL (AM 18446744073709551616 y.natAbs))&&BB 900 (AL (AM 18446744073709551616 y.natAbs))))
 (AD (Ay (Ec [AL (AM 18446744073709551616 x.natAbs),AL (AM 18446744073709551616 y.natAbs)])&&BB 1000 (Ec [AL (AM 18446744073709551616 x.natAbs),AL (AM 18446744073709551616 y.natAbs)]))
 (ret (decide (sgn (decide (x<0)) (val 18446744073709551616 (AS (Ec [AL (AM 18446744073709551616 x.natAbs),AL (AM 18446744073709551616 y.natAbs)])))<0)) (AM 18446744073709551616 (sgn (decide (x<0)) (val 18446744073709551616 (AS (Ec [AL (AM 18446744073709551616 x.natAbs),AL (AM 18446744073709551616 y.natAbs)])))).natAbs))
 none)
 none)
 (AD (Ay (AL (AM 18446744073709551616 x.natAbs))&&decide ((AS (AL (AM 18446744073709551616 x.natAbs))).length≤1000)&&(Ay (AL (AM 18446744073709551616 y.natAbs))&&decide ((AS (AL (AM 18446744073709551616 y.natAbs))).length≤1000)))
 (AD (decide (Kq (AS (AL (AM 18446744073709551616 x.natAbs))) (AS (AL (AM 18446744073709551616 y.natAbs))) ≥ 0))
 (AD (Ay (AL (AM 18446744073709551616 x.natAbs))&&BB 900 (AL (AM 18446744073709551616 x.natAbs))&&(Ay (AL (AM 18446744073709551616 y.natAbs))&&TX (AS (AL (AM 18446744073709551616 x.natAbs))) (AS (AL (AM 18446744073709551616 y.natAbs)))))
 (AD (Ay (E6 [AL (AM 18446744073709551616 x.natAbs),AL (AM 18446744073709551616 y.natAbs)])&&BB 1000 (E6 [AL (AM 18446744073709551616 x.natAbs),AL (AM 18446744073709551616 y.natAbs)]))
 (ret (decide (sgn (decide (x<0)) (val 18446744073709551616 (AS (E6 [AL (AM 18446744073709551616 x.natAbs),AL (AM 18446744073709551616 y.natAbs)])))<0)) (AM 18446744073709551616 (sgn (decide (x<0)) (val 18446744073709551616 (AS (E6 [AL (AM 18446744073709551616 x.natAbs),AL (AM 18446744073709551616 y.natAbs)])))).natAbs))
 none)
 none)
 (AD (Ay (AL (AM 18446744073709551616 y.natAbs))&&BB 900 (AL (AM 18446744073709551616 y.natAbs))&&(Ay (AL (AM 18446744073709551616 x.natAbs))&&TX (AS (AL (AM 18446744073709551616 y.natAbs))) (AS (AL (AM 18446744073709551616 x.natAbs)))))
 (AD (Ay (E6 [AL (AM 18446744073709551616 y.natAbs),AL (AM 18446744073709551616 x.natAbs)])&&BB 1000 (E6 [AL (AM 18446744073709551616 y.natAbs),AL (AM 18446744073709551616 x.natAbs)]))
 (ret (decide (sgn (decide (y<0)) (val 18446744073709551616 (AS (E6 [AL (AM 18446744073709551616 y.natAbs),AL (AM 18446744073709551616 x.natAbs)])))<0)) (AM 18446744073709551616 (sgn (decide (y<0)) (val 18446744073709551616 (AS (E6 [AL (AM 18446744073709551616 y.natAbs),AL (AM 18446744073709551616 x.natAbs)])))).natAbs))
 none)
 none))
 none))
def G52 (x:Int) (y:Int):Option ((Bool) × (List Nat)):=T52 (fun rb rl=>some (rb,rl)) x y
theorem t52 (x:Int) (y:Int) (rb:Bool) (rl:List Nat) (h:G52 x y=some (rb,rl)):AX Tryz.prog Tryz.f52.results.toList [.code (AT Tryz.f52)] (start Tryz.f52.ntmps ([AF x,AF y].map .f)) (F.agg [F.bool rb,AL rl]):=by
 refine AX.of_run Au OE (T:=[]) (n:=200) ?_
 refine gE (Y:=T52 (fun rb rl=>some (.ret (F.agg [F.bool rb,AL rl]))) x y) (by kernel_rfl) ?_
 exact (gS h (fun _ h=>(gS h (fun _ h=>(gS h (fun _ h=>gR (by cases h;rfl)) gN)) gN)) (fun _ h=>(gS h (fun _ h=>(gS h (fun _ h=>(gS h (fun _ h=>(gS h (fun _ h=>gR (by cases h;rfl)) gN)) gN)) (fun _ h=>(gS h (fun _ h=>(gS h (fun _ h=>gR (by cases h;rfl)) gN)) gN)))) gN)))
theorem S2 (a b:List Nat):Ec [AL a,AL b]=AL (AM 18446744073709551616 (val 18446744073709551616 a+val 18446744073709551616 b)):=by simp only [Ec,CR]
theorem S1 (a b:List Nat):E6 [AL a,AL b]=AL (AM 18446744073709551616 (val 18446744073709551616 a-val 18446744073709551616 b)):=by simp only [E6,CR]
theorem Qu {m n:Nat} (h:n≤m):TX (AM 18446744073709551616 m) (AM 18446744073709551616 n)=true:=by
 simp only [TX,Bool.and_eq_true,Nat.ble_eq,DN]
 refine ⟨?_,h⟩
 rcases Nat.lt_or_ge (AM 18446744073709551616 m).length (AM 18446744073709551616 n).length with h1 | h1
 ·have:=D2 (B:=18446744073709551616) (by omega) (BG (by omega) m) (CS (by omega) n) h1
  simp only [DN] at this
  omega
 ·exact h1
theorem rH {n m:Nat} (hn:n<18446744073709551616 ^ 400) (hm:m<18446744073709551616 ^ 400):n+m<18446744073709551616 ^ 401:=by
 have:18446744073709551616 ^ 401=18446744073709551616 ^ 400*18446744073709551616:=Nat.pow_succ 18446744073709551616 400
 generalize 18446744073709551616 ^ 400=t at *
 omega
theorem rJ {x y:Int} (hx:x.natAbs<18446744073709551616 ^ 400) (hy:y.natAbs<18446744073709551616 ^ 400):∃ s l,G52 x y=some (s,l)∧F.agg [.bool s,AL l]=AF (x+y):=by
 have h1:=rH hx hy
 have h2:x.natAbs-y.natAbs<18446744073709551616 ^ 400:=by omega
 have h3:y.natAbs-x.natAbs<18446744073709551616 ^ 400:=by omega
 unfold G52 T52
 simp only [S2,S1,C2,DS,DN,Cv hx (show 400≤900 by omega),Cv hy (show 400≤900 by omega),ZG hx (show 400≤1000 by omega),ZG hy (show 400≤1000 by omega),Cv h1 (show 401≤1000 by omega),Cv h2 (show 400≤1000 by omega),Cv h3 (show 400≤1000 by omega),Bool.true_and,Bool.and_true,AH]
 by_cases hs:decide (x<0)=decide (y<0)
 ·rw [hs,beq_self_eq_true,AH]
  refine ⟨_,_,rfl,?_⟩
  have e:sgn (decide (y<0)) (x.natAbs+y.natAbs)=x+y:=by
   unfold sgn
   by_cases h:y<0
   ·rw [decide_eq_true h] at hs ⊢;have:=of_decide_eq_true hs;simp;omega
   ·rw [decide_eq_false h] at hs ⊢;have:=of_decide_eq_false hs;simp;omega
  rw [e]
  rfl
 ·have hb:(decide (x<0)==decide (y<0))=false:=by simpa using hs
  rw [hb,AJ]
  by_cases hc:y.natAbs≤x.natAbs
  ·rw [decide_eq_true ((NA _ _).1.2 hc),Qu hc]
   refine ⟨_,_,rfl,?_⟩
   have e:sgn (decide (x<0)) (x.natAbs-y.natAbs)=x+y:=by
    unfold sgn
    by_cases h:x<0
    ·rw [decide_eq_true h] at hs ⊢;have:¬ y<0:=fun h'=>hs (by rw [decide_eq_true h']);simp;omega
    ·rw [decide_eq_false h] at hs ⊢;have:y<0:=Classical.byContradiction fun h'=>hs (by rw [decide_eq_false h']);simp;omega
   rw [e]
   rfl
  ·rw [decide_eq_false (fun h=>hc ((NA _ _).1.1 h)),AJ,Qu (by omega)]
   refine ⟨_,_,rfl,?_⟩
   have e:sgn (decide (y<0)) (y.natAbs-x.natAbs)=x+y:=by
    unfold sgn
    by_cases h:y<0
    ·rw [decide_eq_true h] at hs ⊢;have:¬ x<0:=fun h'=>hs (by rw [decide_eq_true h']);simp;omega
    ·rw [decide_eq_false h] at hs ⊢;have:x<0:=Classical.byContradiction fun h'=>hs (by rw [decide_eq_false h']);simp;omega
   rw [e]
   rfl
def Hp:List F→F | [x,y]=>AF (AG x+AG y) | _=>.dflt
theorem MI {n:Nat} {x y:F} (h:Me n [x,y]=true):Aq n x=true∧Aq n y=true:=by simpa [Me] using h
theorem okPlus:Ak Tryz.prog 52 (Me 400) Hp :=
 Ad (c:=AT Tryz.f52) Tryz.func52 (by kernel_rfl) (by kernel_rfl) fun xs hp=>match xs,hp with
 | [x,y],hp=>by
  obtain ⟨hx,hy⟩:=MI hp
  obtain ⟨s,l,h1,h2⟩:=rJ (BA hx) (BA hy)
  exact ⟨[AF (AG x),AF (AG y)],_,⟨(D8 hx).1,(D8 hy).1,trivial⟩,t52 _ _ _ _ h1,by rw [h2];exact .refl _⟩
def envN8:Env:=((envN7.add 50 (.pure O0 AC)).add 69 (.pure (Mf 400) LE)).add 52 (.pure (Me 400) Hp)
theorem Lb:Az Tryz.prog envN8:=(Env.add_ok (Env.add_ok (Env.add_ok OE okWhole.sp) okMinus.sp) okPlus.sp)
end
end Go.Proofs.YtonmnfkibnflnaaGreat.R
