/-
 The own walk and what it shows,part 3 of 10.
-/
import Derived.KernelRfl
import Derived.Lib.Bytealg
import Derived.ChangeSlices
import Derived.Carry
import Derived.OpenShut
import Derived.WideShapes
import Derived.Test.YtlefbocihikaoaaGreatProg
import Derived.Lib.Mul64
import Derived.Laws.Bits64
import Derived.Laws.Externs
import Derived.Test.YtlefbocihikaoaaGreatJ1
import Derived.Test.YtlefbocihikaoaaGreatJ2
set_option linter.unusedVariables false
set_option linter.unusedSimpArgs false
set_option maxRecDepth 100000
set_option exponentiation.threshold 30000
namespace Go.Proofs.YtlefbocihikaoaaGreat.R
open Go
section
variable {P:Program} {w:World} {Z:Nat→Prop} {m:Nat→Nat} {H:List HO} {ty:TypeId→Option TI} {C:Env} {ρ:Type} {r:ρ} {st:St} {a:Act}
theorem GM {k:Nat}:∀ (us:List U),Hi k us=true→∀ (j:Nat) (u:U),us[j]?=some u→Is k u=true
 | [],_,j,u,h=>by simp at h
 | x :: us,hb,j,u,h=>by
  simp only [Hi,Bool.and_eq_true] at hb
  cases j with
  | zero=>simp at h;exact h ▸ hb.1
  | succ j=>simp at h;exact GM us hb.2 j u h
theorem Eg {k o:Nat} (h:o<k):(H.take k)[o]?=H[o]?:=by
 rw [List.getElem?_take,if_pos h]
theorem RepU.take {k:Nat} {u:U} {v:Value} (h:RepU w Z m H u v):Is k u=true→RepU w Z m (H.take k) u v:=by
 induction h with
 | f x v h=>intro _;exact .f x v h
 | agg cs vs hl hr ih=>intro hb;exact .agg cs vs hl fun j u v hu hv=>ih j u v hu hv (GM cs (by simpa [Is] using hb) j u hu)
 | tup cs vs hl hr ih=>intro hb;exact .tup cs vs hl fun j u v hu hv=>ih j u v hu hv (GM cs (by simpa [Is] using hb) j u hu)
 | fn f us vs hl hr ih=>intro hb;exact .fn f us vs hl fun j u v hu hv=>ih j u v hu hv (GM us (by simpa [Is] using hb) j u hu)
 | hs o gen off len v h1 ho hg hv =>
  intro hb
  simp only [Is,decide_eq_true_eq] at hb
  obtain ⟨ob,hob,hnf⟩:=ho
  refine .hs o gen off len v h1 ⟨ob,by rw [Eg hb];exact hob,hnf⟩ (fun sz n g e=>?_) (fun sz n g e eg=>?_)
  ·rw [Eg hb] at e;exact hg _ _ _ e
  ·rw [Eg hb] at e;exact hv _ _ _ e eg
 | hp o off v h1 ho hv =>
  intro hb
  simp only [Is,decide_eq_true_eq] at hb
  obtain ⟨ob,hob,hnf⟩:=ho
  refine .hp o off v h1 ⟨ob,by rw [Eg hb];exact hob,hnf⟩ (fun cs e=>?_)
  rw [Eg hb] at e;exact hv _ e
 | ep o gen i off v h1 ho hg hv =>
  intro hb
  simp only [Is,decide_eq_true_eq] at hb
  obtain ⟨ob,hob,hnf⟩:=ho
  refine .ep o gen i off v h1 ⟨ob,by rw [Eg hb];exact hob,hnf⟩ (fun sz n g e=>?_) (fun sz n g e eg=>?_)
  ·rw [Eg hb] at e;exact hg _ _ _ e
  ·rw [Eg hb] at e;exact hv _ _ _ e eg
 | va cs ad hZ V hV hr=>intro _;exact .va cs ad hZ V hV hr
 | nilp=>intro _;exact .nilp
 | nils A=>intro _;exact .nils A
 | nilfn=>intro _;exact .nilfn
 | undef=>intro _;exact .undef
 | bad v=>intro _;exact .bad v
theorem Kz {k o:Nat} (h:Aw (H.take k) o):Aw H o:=by
 obtain ⟨ob,h,hl⟩:=h
 rw [List.getElem?_take] at h
 split at h
 ·exact ⟨ob,h,hl⟩
 ·cases h
theorem HOK.take {k:Nat} (hH:HOK w Z m H) (hb:(H.take k).all (TV k)=true):HOK w Z m (H.take k):=by
 refine ⟨hH.zlt,fun o ho=>hH.apart o (Kz ho),fun o o' h h'=>hH.inj o o' (Kz h) (Kz h'),fun o ob ho=>?_⟩
 have hbb:=List.all_eq_true.1 hb ob (List.mem_of_getElem? ho)
 rw [List.getElem?_take] at ho
 split at ho
 ·have:=hH.ob o ob ho
  cases ob with
  | dead=>trivial
  | free=>trivial
  | arr sz n g=>exact this
  | box cs =>
   obtain ⟨c,el,fr,h1,h2,h3,h4⟩:=this
   refine ⟨c,el,fr,h1,h2,h3,fun j u hu=>?_⟩
   obtain ⟨v,hv,hr⟩:=h4 j u hu
   exact ⟨v,hv,hr.take (GM cs (by simpa [TV] using hbb) j u hu)⟩
 ·cases ho
theorem Ext.take {w0:World} {Z0:Nat→Prop} {m0:Nat→Nat} {H0:List HO} {k:Nat} (hE:Ext w0 Z0 m0 H0 w Z m H) (hk:H0.length≤k):Ext w0 Z0 m0 H0 w Z m (H.take k):=by
 refine ⟨hE.os,hE.tape,hE.output,hE.size,hE.sub,hE.back,hE.kept,hE.rest,?_,fun o ob ob' h h'=>?_,fun o ho=>hE.new o (Kz ho),hE.drawn⟩
 ·have:=hE.len
  rw [List.length_take];omega
 ·have hlt:=(List.getElem?_eq_some_iff.1 h).1
  rw [Eg (by omega)] at h'
  exact hE.evol o ob ob' h h'
theorem SZ (lv:List Nat):∀ (us:List U) (i j:Nat) (u:U),(DO lv i us)[j]?=some u→u=.bad ∨ us[j]?=some u
 | [],i,j,u,h=>by simp [DO] at h
 | x :: us,i,j,u,h=>by
  simp only [DO] at h
  cases j with
  | zero =>
   simp only [List.getElem?_cons_zero,Option.some.injEq] at h
   split at h
   ·right;simp [h]
   ·left;exact h.symm
  | succ j=>simp at h;simpa using SZ lv us (i+1) j u h
theorem Nt (lv:List Nat):∀ (us:List U) (i:Nat),(DO lv i us).length=us.length
 | [],_=>rfl
 | _ :: us,i=>by simp [DO,Nt lv us]
/-! Objects numbered anew. -/
theorem QF:∀ (ks:List Nat) (o:Nat),Ji ks o=true→ks[idx ks o]?=some o
 | [],o,h=>by simp [Ji] at h
 | x :: xs,o,h=>by
  unfold Ji at h
  unfold idx
  by_cases e:Nat.beq x o=true
  ·rw [if_pos e];simp [Nat.eq_of_beq_eq_true e]
  ·rw [if_neg e]
   have e':Nat.beq x o=false:=Bool.eq_false_iff.2 e
   rw [e',Bool.false_or] at h
   simpa using QF xs o h
theorem Hl {ks:List Nat}:∀ (us:List U),(Dw us).all (Ji ks)=true→∀ (j:Nat) (u:U),us[j]?=some u→(Q8 u).all (Ji ks)=true
 | [],_,j,u,h=>by simp at h
 | x :: us,hb,j,u,h=>by
  simp only [Dw,List.all_append,Bool.and_eq_true] at hb
  cases j with
  | zero=>simp at h;exact h ▸ hb.1
  | succ j=>simp at h;exact Hl us hb.2 j u h
theorem Ku {ks:List Nat}:∀ (us:List U) (j:Nat) (u:U),(D7 ks us)[j]?=some u→∃ x,us[j]?=some x∧u=renU ks x
 | [],j,u,h=>by simp [D7] at h
 | x :: us,j,u,h=>by
  cases j with
  | zero=>simp [D7] at h;exact ⟨x,rfl,h.symm⟩
  | succ j=>simp [D7] at h;simpa using Ku us j u h
theorem E9 (ks:List Nat):∀ us:List U,(D7 ks us).length=us.length
 | []=>rfl
 | _ :: us=>by simp [D7,E9 ks us]
section
variable {ks:List Nat} {H':List HO} {m':Nat→Nat}
theorem TE (hH':H'=ks.map fun o=>E3 ks (H.getD o .dead)) {o:Nat} {ob:HO} (hk:Ji ks o=true) (ho:H[o]?=some ob):H'[idx ks o]?=some (E3 ks ob):=by
 subst hH'
 simp [QF ks o hk,ho]
theorem Kv {ob:HO} {sz n:Nat} {g:Nat→F} (h:E3 ks ob=.arr sz n g):ob=.arr sz n g:=by cases ob <;> simp_all [E3]
theorem fG {ob:HO} {cs:List U} (h:E3 ks ob=.box cs):∃ us,ob=.box us∧cs=D7 ks us:=by cases ob <;> simp_all [E3]
theorem LZ {ob:HO} (h:ob ≠ .free):E3 ks ob ≠ .free:=by cases ob <;> simp_all [E3]
theorem Yo {ob:HO}:(E3 ks ob).live=ob.live:=by cases ob <;> rfl
theorem RepU.ren (hH':H'=ks.map fun o=>E3 ks (H.getD o .dead)) (hm:∀ o,Ji ks o=true→m' (idx ks o)=m o) {u:U} {v:Value} (h:RepU w Z m H u v):(Q8 u).all (Ji ks)=true→RepU w Z m' H' (renU ks u) v:=by
 have map:∀ (cs:List U) (vs:List Value),(∀ (j:Nat) (u:U) (v:Value),cs[j]?=some u→vs[j]?=some v→(Q8 u).all (Ji ks)=true→RepU w Z m' H' (renU ks u) v)→(Dw cs).all (Ji ks)=true→∀ (j:Nat) (u:U) (v:Value),(D7 ks cs)[j]?=some u→vs[j]?=some v→RepU w Z m' H' u v:=by
  intro cs vs ih hb j u v hu hv
  obtain ⟨x,hx,rfl⟩:=Ku cs j u hu
  exact ih j x v hx hv (Hl cs hb j x hx)
 induction h with
 | f x v h=>intro _;exact .f x v h
 | agg cs vs hl hr ih=>intro hb;exact .agg _ vs (by rw [E9];exact hl) (map cs vs ih (by simpa [Q8] using hb))
 | tup cs vs hl hr ih=>intro hb;exact .tup _ vs (by rw [E9];exact hl) (map cs vs ih (by simpa [Q8] using hb))
 | fn f us vs hl hr ih=>intro hb;exact .fn f _ vs (by rw [E9];exact hl) (map us vs ih (by simpa [Q8] using hb))
 | hs o gen off len v h1 ho hg hv =>
  intro hb
  have hb:Ji ks o=true:=by simpa [Q8] using hb
  obtain ⟨ob,hob,hnf⟩:=ho
  have hget:=TE hH' hb hob
  refine .hs _ gen off len v h1 ⟨_,hget,LZ hnf⟩ (fun sz n g e=>?_) (fun sz n g e eg=>?_)
  ·rw [hget] at e;exact hg sz n g (by rw [hob,Kv (Option.some.inj e)])
  ·rw [hget] at e;rw [hm o hb];exact hv sz n g (by rw [hob,Kv (Option.some.inj e)]) eg
 | hp o off v h1 ho hv =>
  intro hb
  have hb:Ji ks o=true:=by simpa [Q8] using hb
  obtain ⟨ob,hob,hnf⟩:=ho
  have hget:=TE hH' hb hob
  refine .hp _ off v h1 ⟨_,hget,LZ hnf⟩ (fun cs e=>?_)
  rw [hget] at e
  obtain ⟨us,rfl,_⟩:=fG (Option.some.inj e)
  rw [hm o hb];exact hv _ hob
 | ep o gen i off v h1 ho hg hv =>
  intro hb
  have hb:Ji ks o=true:=by simpa [Q8] using hb
  obtain ⟨ob,hob,hnf⟩:=ho
  have hget:=TE hH' hb hob
  refine .ep _ gen i off v h1 ⟨_,hget,LZ hnf⟩ (fun sz n g e=>?_) (fun sz n g e eg=>?_)
  ·rw [hget] at e;exact hg sz n g (by rw [hob,Kv (Option.some.inj e)])
  ·rw [hget] at e;rw [hm o hb];exact hv sz n g (by rw [hob,Kv (Option.some.inj e)]) eg
 | va cs ad hZ V hV hr=>intro _;exact .va cs ad hZ V hV hr
 | nilp=>intro _;exact .nilp
 | nils A=>intro _;exact .nils A
 | nilfn=>intro _;exact .nilfn
 | undef=>intro _;exact .undef
 | bad v=>intro _;exact .bad v
end
theorem ZO (hn:Nat) (q:Nat→Bool) (n:Nat):(List.range hn++(List.range n).filter fun o=>(!Nat.blt o hn)&&q o).Nodup:=by
 rw [List.nodup_append]
 refine ⟨List.nodup_range,List.nodup_range.filter _,?_⟩
 intro a ha b hb e
 subst e
 rw [List.mem_range] at ha
 simp only [List.mem_filter,Bool.and_eq_true,Bool.not_eq_true'] at hb
 have:=hb.2.1
 unfold Nat.blt at this
 have h2:Nat.ble (a+1) hn=true:=Nat.ble_eq_true_of_le ha
 rw [Nat.succ_eq_add_one,h2] at this
 cases this
theorem Mm:∀ (ks:List Nat),ks.Nodup→∀ (j o:Nat),ks[j]?=some o→idx ks o=j
 | [],_,j,o,h=>by simp at h
 | x :: xs,hn,j,o,h=>by
  rw [List.nodup_cons] at hn
  unfold idx
  cases j with
  | zero =>
   simp at h;subst h
   rw [if_pos (Nat.beq_refl x)]
  | succ j =>
   simp at h
   have hne:¬ Nat.beq x o=true:=fun e=>hn.1 (Nat.eq_of_beq_eq_true e ▸ List.mem_of_getElem? h)
   rw [if_neg hne,Mm xs hn.2 j o h]
theorem nR {hn:Nat} {us:List U} {K:St→Option ρ} {w0:World} {Z0:Nat→Prop} {m0:Nat→Nat} {H0:List HO} (hl:us.length=a.tmps.size) (hus:∀ (i:Nat) (u:U) (v:Value),us[i]?=some u→a.tmps[i]?=some v→RepU w Z m H u v) (hok:HOK w Z m H)
  (hE:Ext w0 Z0 m0 H0 w Z m H) (hhn:hn=H0.length) {vs:List U} (h:evGc hn us H (Lh hn H vs) K=some r):∃ st' m',K st'=some r∧AOK w Z m' st' a∧Ext w0 Z0 m0 H0 w Z m' st'.heap:=by
 unfold evGc at h
 replace h:=AI h;obtain ⟨h1,h⟩:=h
 simp only [Bool.and_eq_true,decide_eq_true_eq] at h1
 obtain ⟨⟨h1,h2⟩,h3⟩:=h1
 have hnd:(Lh hn H vs).Nodup:=ZO hn _ _
 have hpre:∀ o,o<hn→(Lh hn H vs)[o]?=some o:=fun o ho=>by
  unfold Lh
  rw [List.getElem?_append_left (by simpa using ho),List.getElem?_range ho]
 generalize hks:Lh hn H vs=ks at *
 have hidx:∀ o,o<hn→idx ks o=o:=fun o ho=>Mm ks hnd o o (hpre o ho)
 let m':Nat→Nat:=fun j=>m (ks.getD j 0)
 have hm:∀ o,Ji ks o=true→m' (idx ks o)=m o:=fun o ho=>by
  have:=QF ks o ho
  simp only [m',List.getD,this,Option.getD_some]
 have hget:∀ (j:Nat) (ob:HO),(ks.map fun o=>E3 ks (H.getD o .dead))[j]?=some ob→∃ o,ks[j]?=some o∧m' j=m o∧ob=E3 ks (H.getD o .dead):=fun j ob hj=>by
  rw [List.getElem?_map] at hj
  cases hk:ks[j]? with
  | none=>rw [hk] at hj;cases hj
  | some o=>rw [hk] at hj;cases hj;exact ⟨o,rfl,by simp [m',List.getD,hk],rfl⟩
 have hlive:∀ j,Aw (ks.map fun o=>E3 ks (H.getD o .dead)) j→∃ o,ks[j]?=some o∧m' j=m o∧Aw H o:=fun j ⟨ob,hj,hl⟩=>by
  obtain ⟨o,h1,h2,rfl⟩:=hget j ob hj
  rw [Yo] at hl
  refine ⟨o,h1,h2,?_⟩
  cases ho:H[o]? with
  | none=>simp [List.getD,ho,HO.live] at hl
  | some ob=>exact ⟨ob,ho,by simpa [List.getD,ho] using hl⟩
 have hH':(ks.map fun o=>E3 ks (H.getD o .dead))=ks.map fun o=>E3 ks (H.getD o .dead):=rfl
 refine ⟨_,m',h,⟨by simp [E9,hl],fun i u v hu hv=>?_,⟨hok.zlt,?_,?_,?_⟩⟩,?_⟩
 ·obtain ⟨x,hx,rfl⟩:=Ku us i u hu
  exact (hus i x v hx hv).ren rfl hm (Hl us h2 i x hx)
 ·intro j hj
  obtain ⟨o,_,e,ho⟩:=hlive j hj
  rw [e];exact hok.apart o ho
 ·intro j j' hj hj' e
  obtain ⟨o,h1,e1,ho⟩:=hlive j hj
  obtain ⟨o',h1',e1',ho'⟩:=hlive j' hj'
  rw [e1,e1'] at e
  have:=hok.inj o o' ho ho' e
  subst this
  rw [← Mm ks hnd j o h1,← Mm ks hnd j' o h1']
 ·intro j ob hj
  obtain ⟨o,h1,e,rfl⟩:=hget j ob hj
  cases ho:H[o]? with
  | none=>simp [List.getD,ho,E3,Hg]
  | some ob0 =>
   have hob:=hok.ob o ob0 ho
   simp only [List.getD,ho,Option.getD_some,e]
   cases ob0 with
   | dead=>trivial
   | free=>trivial
   | arr sz n g=>exact hob
   | box cs =>
    obtain ⟨c,el,fr,q1,q2,q3,q4⟩:=hob
    refine ⟨c,el,fr,q1,q2,by rw [E9];exact q3,fun j u hu=>?_⟩
    obtain ⟨x,hx,rfl⟩:=Ku cs j u hu
    obtain ⟨v,hv,hr⟩:=q4 j x hx
    refine ⟨v,hv,hr.ren rfl hm ?_⟩
    have hmem:=List.mem_of_getElem? h1
    have:=List.all_eq_true.1 h3 o hmem
    simp only [List.getD,ho,Option.getD_some,Y6] at this
    exact Hl cs this j x hx
 ·refine ⟨hE.os,hE.tape,hE.output,hE.size,hE.sub,hE.back,hE.kept,hE.rest,?_,?_,?_,hE.drawn⟩
  ·rw [← hhn]
   simp only [List.length_map]
   rw [← hks]
   unfold Lh
   rw [List.length_append,List.length_range]
   omega
  ·intro o ob ob' ho ho'
   have hlt:o<hn:=by rw [hhn];exact (List.getElem?_eq_some_iff.1 ho).1
   obtain ⟨o1,k1,e,rfl⟩:=hget o ob' ho'
   rw [hpre o hlt] at k1;cases k1
   have hlt2:o<H.length:=Nat.lt_of_lt_of_le hlt h1
   have:=hE.evol o ob H[o] ho (List.getElem?_eq_getElem hlt2)
   simp only [List.getD,List.getElem?_eq_getElem hlt2,Option.getD_some,e]
   generalize H[o]=ob1 at this
   cases ob <;> cases ob1 <;> simp_all [Bu,E3,E9]
  ·intro j hj
   obtain ⟨o,h1,e,ho⟩:=hlive j hj
   rcases hE.new o ho with ⟨h2,h3⟩ | h2
   ·obtain ⟨ob,hob,_⟩:=id h2
    have hlt:o<hn:=by rw [hhn];exact (List.getElem?_eq_some_iff.1 hob).1
    have:j=o:=by rw [← Mm ks hnd j o h1,hidx o hlt]
    subst this
    exact .inl ⟨h2,by rw [e,h3]⟩
   ·exact .inr (by rw [e];exact h2)
theorem Y8 {hn k:Nat} {lv:List Nat} {K:St→Option ρ} {w0:World} {Z0:Nat→Prop} {m0:Nat→Nat} {H0:List HO} (hA:AOK w Z m st a) (hE:Ext w0 Z0 m0 H0 w Z m st.heap) (hhn:hn=H0.length)
  (h:ZX hn lv k st K=some r):∃ st' m',K st'=some r∧AOK w Z m' st' a∧Ext w0 Z0 m0 H0 w Z m' st'.heap:=by
 have hclear:∀ (i:Nat) (u:U) (v:Value),(DO lv 0 st.tmps)[i]?=some u→a.tmps[i]?=some v→RepU w Z m st.heap u v:=fun i u v hu hv=>by
  rcases SZ lv _ _ _ _ hu with rfl | hu'
  ·exact .bad v
  ·exact hA.rep i u v hu' hv
 unfold ZX at h
 cases hc:Nat.ble 1000 k with
 | true =>
  rw [hc,AF] at h
  exact nR (by simp [Nt,hA.len]) hclear hA.hok hE hhn h
 | false =>
  rw [hc,AJ] at h
  replace h:=AI h;obtain ⟨h1,h⟩:=h
  simp only [Bool.and_eq_true,decide_eq_true_eq] at h1
  obtain ⟨⟨h1,h2⟩,h3⟩:=h1
  exact ⟨_,m,h,⟨by simp [Nt,hA.len],fun i u v hu hv=>(hclear i u v hu hv).take (GM _ h2 i u hu),hA.hok.take h3⟩,hE.take (hhn ▸ h1)⟩
def OZ (P:Program) (hn:Nat) (rs:List ResultVar) (w0:World) (Z0:Nat→Prop) (m0:Nat→Nat) (H0:List HO) (ds:List Deferred) (b:Frame) (cs:List Frame) (M:Machine):End→Prop
 | .ret x=>∃ st' a' w' todo,Q5 P hn rs st'=some x∧OA w0 Z0 m0 H0 ds st' a' w'∧Steps P M (lone { b.at a' todo with mode:=.returning } cs w')
 | .cut items st'=>∃ a' w',OA w0 Z0 m0 H0 ds st' a' w'∧Steps P M (lone (b.at a' items) cs w')
theorem OZ.head {hn:Nat} {rs:List ResultVar} {w0:World} {Z0:Nat→Prop} {m0:Nat→Nat} {H0:List HO} {ds:List Deferred} {b:Frame} {cs:List Frame} {M M':Machine} {e:End} (hs:Steps P M M') (h:OZ P hn rs w0 Z0 m0 H0 ds b cs M' e):OZ P hn rs w0 Z0 m0 H0 ds b cs M e:=by
 cases e with
 | ret x=>obtain ⟨st',a',w',todo,h1,h2,h3⟩:=h;exact ⟨st',a',w',todo,h1,h2,hs.trans h3⟩
 | cut items st'=>obtain ⟨a',w',h1,h2⟩:=h;exact ⟨a',w',h1,hs.trans h2⟩
theorem Rt (hty:Gl P ty) (hC:Ax P C) {w0:World} {Z0:Nat→Prop} {m0:Nat→Nat} {H0:List HO} {ds:List Deferred} {id:Nat} {ops:Array Oper} {draw:Bool} {K:St→Option ρ}
  (hA:AOK w Z m st a) (hd:a.defers=ds) (hE:Ext w0 Z0 m0 H0 w Z m st.heap) (h:XO P ty C ops draw st K=some r) :
  (Code.region id ops draw).wp P (fun e a' w'=>e=.normal∧∃ st',K st'=some r∧OA w0 Z0 m0 H0 ds st' a' w') a w:=by
 cases draw with
 | true=>exact Zi hty hC hA hd hE h
 | false =>
  have hw:=HA hty hC (List.range ops.size) st a w Z m hA hd hE h
  intro b k cs
  obtain ⟨e,a1,w1,hq,harr⟩:=wp_ops _ a w hw b k cs
  exact ⟨e,a1,w1,hq,.of_steps (.one step_region) harr⟩
theorem Rf (hty:Gl P ty) (hC:Ax P C) {T:Tab} {hn:Nat} {rs:List ResultVar} {K:End→Option ρ} {w0:World} {Z0:Nat→Prop} {m0:Nat→Nat} {H0:List HO} {ds:List Deferred} (hhn:hn=H0.length) :
  ∀ (n:Nat) (items:List Item) (st:St) (a:Act) (w:World) (Z:Nat→Prop) (m:Nat→Nat),AOK w Z m st a→a.defers=ds→Ext w0 Z0 m0 H0 w Z m st.heap→run P ty C T hn rs K n items st=some r →
   ∀ (b:Frame) (cs:List Frame),∃ e,K e=some r∧OZ P hn rs w0 Z0 m0 H0 ds b cs (lone (b.at a items) cs w) e:=by
 intro n
 induction n with
 | zero=>intro items st a w Z m hA hd hE h;cases h
 | succ n ih =>
  intro items st a w Z m hA hd hE h b cs
  have one:∀ {items':List Item},step P (lone (b.at a items) cs w)=.next (lone (b.at a items') cs w)→run P ty C T hn rs K n items' st=some r →
    ∃ e,K e=some r∧OZ P hn rs w0 Z0 m0 H0 ds b cs (lone (b.at a items) cs w) e:=by
   intro items' hs hr
   obtain ⟨e,h1,h2⟩:=ih items' st a w Z m hA hd hE hr b cs
   exact ⟨e,h1,h2.head (.one hs)⟩
  have back:∀ {todo:List Item},step P (lone (b.at a items) cs w)=.next (lone { b.at a todo with mode:=.returning } cs w)→kQ P hn rs K st=some r →
    ∃ e,K e=some r∧OZ P hn rs w0 Z0 m0 H0 ds b cs (lone (b.at a items) cs w) e:=by
   intro todo hs hr
   obtain ⟨x,hx,hr⟩:=fF hr
   exact ⟨_,hr,st,a,w,todo,hx,⟨hd,Z,m,hA,hE⟩,.one hs⟩
  cases items with
  | nil=>exact back step_end (by simpa only [run] using h)
  | cons it k =>
   cases it with
   | code c =>
    cases c with
    | skip=>exact one step_skip (by simpa only [run] using h)
    | label l=>exact one step_label (by simpa only [run] using h)
    | region id ops draw =>
     simp only [run] at h
     split at h
     ·obtain ⟨e,a1,w1,⟨rfl,st1,hk,hd1,Z1,m1,hA1,hE1⟩,harr⟩:=Rt (id:=id) hty hC hA hd hE h b k cs
      obtain ⟨e,h1,h2⟩:=ih k st1 a1 w1 Z1 m1 hA1 hd1 hE1 hk b cs
      exact ⟨e,h1,h2.head harr⟩
     ·rename_i lv hh _
      obtain ⟨st1,m1,hk,hA1,hE1⟩:=Y8 hA hE hhn h
      exact ⟨_,hk,a,w,⟨hd,Z,m1,hA1,hE1⟩,.refl _ _⟩
    | seq x y=>exact one step_seq (by simpa only [run] using h)
    | cond c x y =>
     simp only [run] at h
     split at h
     ·rename_i bb hb
      have hc:=By hA c
      rw [hb] at hc
      have hc:=Hb hc
      cases bb with
      | true=>exact one (step_cond hc) h
      | false=>exact one (step_cond hc) h
     ·cases h
    | block id c=>exact one step_block (by simpa only [run] using h)
    | loop c=>exact one step_loop (by simpa only [run] using h)
    | exit id =>
     simp only [run] at h
     split at h
     ·rename_i k' hk
      exact one (step_exit hk) h
     ·cases h
    | goto l =>
     simp only [run] at h
     split at h
     ·rename_i k' hk
      exact one (step_goto hk) h
     ·cases h
    | ret=>exact back step_ret (by simpa only [run] using h)
    | _=>simp only [run] at h;cases h
   | inBlock id=>exact one step_inBlock (by simpa only [run] using h)
   | inLoop c=>exact one step_inLoop (by simpa only [run] using h)
   | _=>simp only [run] at h;cases h
theorem S9 (hty:Gl P ty) (hC:Ax P C) {T:Tab} {hn:Nat} {rs:List ResultVar} {K:End→Option ρ} {w0:World} {Z0:Nat→Prop} {m0:Nat→Nat} {H0:List HO} {ds:List Deferred} (hhn:hn=H0.length)
  (n:Nat) (items:List Item) (st:St) (a:Act) (w:World) (Z:Nat→Prop) (m:Nat→Nat) (hA:AOK w Z m st a) (hd:a.defers=ds) (hE:Ext w0 Z0 m0 H0 w Z m st.heap) (h:Yi P ty C T hn rs K n items st=some r)
  (b:Frame) (cs:List Frame):∃ e,K e=some r∧OZ P hn rs w0 Z0 m0 H0 ds b cs (lone (b.at a items) cs w) e:=by
 unfold Yi at h
 split at h
 ·rename_i id ops draw k
  obtain ⟨e,a1,w1,⟨rfl,st1,hk,hd1,Z1,m1,hA1,hE1⟩,harr⟩:=Rt (id:=id) hty hC hA hd hE h b k cs
  obtain ⟨e,h1,h2⟩:=Rf hty hC hhn n k st1 a1 w1 Z1 m1 hA1 hd1 hE1 hk b cs
  exact ⟨e,h1,h2.head harr⟩
 ·cases h
end
def CU (ntmps:Nat) (us:List U) (H:List HO):St:=⟨us++List.replicate (ntmps-us.length) .undef,H⟩
def start (ntmps:Nat) (us:List U):St:=⟨us++List.replicate (ntmps-us.length) .undef,[]⟩
section
variable {P:Program} {w:World} {Z:Nat→Prop} {m:Nat→Nat} {H:List HO} {ty:TypeId→Option TI} {C:Env} {ρ:Type} {r:ρ} {st:St} {a:Act}
theorem IL (hA:AOK w Z m st a):∀ (rs:List ResultVar) (us:List U),NJ P st rs=some us →
  ∃ vs,(rs.mapM (m:=Sem) fun | .tmp t=>pure (a.tmps.getD t undef) | .cell x t=>do loadVar t (← asAddr (a.tmps.getD x undef))).run P w=.ok vs w∧CP w Z m st.heap us vs
 | [],us,h=>by
  simp only [NJ,Option.some.injEq] at h
  subst h
  exact ⟨[],by simp,rfl,fun j u v hu=>by simp at hu⟩
 | .cell x t :: rs,us,h=>by
  simp only [NJ] at h
  split at h
  ·rename_i o ti us' hx hti h'
   split at h
   case isFalse=>cases h
   have hr:=By hA (.tmp x)
   simp only [St.ev,Act.eval] at hr
   rw [hx] at hr
   obtain ⟨u,hk,v,hv,hu⟩:=P0 (P:=P) hti hA.hok hr h
   cases hk
   obtain ⟨vs,h1,h2⟩:=IL hA rs us' h'
   obtain ⟨ad,had⟩:∃ ad,a.tmps.getD x undef=.pointer (some ad):=by
    simp only [HT] at h
    split at h
    ·rename_i cs ho
     cases hr with | hp _ _ _ _ _ hvv=>exact ⟨_,hvv _ ho⟩
    ·cases h
   refine ⟨v :: vs,?_,by simp [h2.1],fun j u' v' hu' hv'=>?_⟩
   ·rw [List.mapM_cons]
    rw [had] at hv
    simp only []
    rw [had]
    have hv:(loadVar t ad).run P w=.ok v w:=by simpa [Instr.loadAt,Instr.sureAddr,pure_bind] using hv
    have ha:(asAddr (.pointer (some ad))).run P w=.ok ad w:=rfl
    simp only [Sem.run_bind,ha,Sem.run_pure,Result.andThen,h1,hv]
   ·cases j with
    | zero=>simp at hu' hv';subst hu';subst hv';exact hu
    | succ j=>simp at hu' hv';exact h2.2 j u' v' hu' hv'
  ·cases h
 | .tmp t :: rs,us,h=>by
  simp only [NJ] at h
  split at h
  ·rename_i us' h'
   cases h
   obtain ⟨vs,h1,h2⟩:=IL hA rs us' h'
   refine ⟨a.tmps.getD t undef :: vs,?_,by simp [h2.1],fun j u v hu hv=>?_⟩
   ·rw [List.mapM_cons]
    simp only [Sem.run_bind,Sem.run_pure,Result.andThen,h1]
   ·cases j with
    | zero =>
     simp only [List.getElem?_cons_zero,Option.some.injEq] at hu hv
     subst hu;subst hv
     exact By hA (.tmp t)
    | succ j=>simp only [List.getElem?_cons_succ] at hu hv;exact h2.2 j u v hu hv
  ·cases h
def CL (P:Program) (hn:Nat) (rs:List ResultVar) (items:List Item) (st:St) (x:F):Prop :=
 ∀ (w0:World) (Z0:Nat→Prop) (m0:Nat→Nat) (H0:List HO) (ds:List Deferred) (a:Act) (w:World) (Z:Nat→Prop) (m:Nat→Nat),hn=H0.length→AOK w Z m st a→a.defers=ds→Ext w0 Z0 m0 H0 w Z m st.heap →
  ∀ (b:Frame) (cs:List Frame),OZ P hn rs w0 Z0 m0 H0 ds b cs (lone (b.at a items) cs w) (.ret x)
abbrev AY (P:Program) (rs:List ResultVar) (items:List Item) (st:St) (x:F):Prop:=CL P 0 rs items st x
def EndsE (P:Program) (hn:Nat) (rs:List ResultVar) (x:F):End→Prop
 | .ret y=>y=x
 | .cut items st=>CL P hn rs items st x
def RM (P:Program) (hn:Nat) (rs:List ResultVar) (x:F) (o:Option End):Prop:=∃ e,o=some e∧EndsE P hn rs x e
theorem AY.of_run (hty:Gl P ty) (hC:Ax P C) {T:Tab} {hn:Nat} {rs:List ResultVar} {n:Nat} {items:List Item} {x:F} (h:RM P hn rs x (run P ty C T hn rs some n items st)):CL P hn rs items st x:=by
 obtain ⟨e,he,hs⟩:=h
 intro w0 Z0 m0 H0 ds a w Z m hhn hA hd hE b cs
 obtain ⟨e',h1,h2⟩:=Rf hty hC hhn n items st a w Z m hA hd hE he b cs
 cases h1
 cases e with
 | ret y=>cases hs;exact h2
 | cut items' st' =>
  obtain ⟨a',w',⟨hd',Z',m',hA',hE'⟩,hst⟩:=h2
  exact (hs w0 Z0 m0 H0 ds a' w' Z' m' hhn hA' hd' hE' b cs).head hst
theorem AY.of_cut (hty:Gl P ty) (hC:Ax P C) {T:Tab} {hn:Nat} {rs:List ResultVar} {n:Nat} {items:List Item} {x:F} (h:RM P hn rs x (Yi P ty C T hn rs some n items st)):CL P hn rs items st x:=by
 obtain ⟨e,he,hs⟩:=h
 intro w0 Z0 m0 H0 ds a w Z m hhn hA hd hE b cs
 obtain ⟨e',h1,h2⟩:=S9 hty hC hhn n items st a w Z m hA hd hE he b cs
 cases h1
 cases e with
 | ret y=>cases hs;exact h2
 | cut items' st' =>
  obtain ⟨a',w',⟨hd',Z',m',hA',hE'⟩,hst⟩:=h2
  exact (hs w0 Z0 m0 H0 ds a' w' Z' m' hhn hA' hd' hE' b cs).head hst
theorem Bm {f:FuncId} {fn:Func} {c:Code} (hf:P.funcs[f]?=some fn) (hb:fn.body=some c) (hodd:LI fn=false) {pre:List F→Bool} {res:List F→F}
  (h:∀ xs,pre xs=true→AY P fn.results.toList [.code c] (start fn.ntmps (xs.map .f)) (res xs)):Ai P f pre res:=by
 have hname:=Pu hodd
 have hmark:=Pv hodd
 intro xs hp w Z args hZ hL
 refine .inl ⟨by
  have hp:(program).run P w=.ok P w:=rfl
  unfold callFunc
  simp only [Sem.run_bind,hp,Result.andThen,hf,hname,hb,Option.isNone_some,Bool.false_eq_true,if_false,Sem.run_pure],fun cs=>?_⟩
 have hlen:xs.length=args.size:=by simpa using hL.1
 have hA:AOK w Z (fun _=>0) (start fn.ntmps (xs.map .f)) { tmps:=args++Array.replicate (fn.ntmps-args.size) undef,defers:=[] }:=by
  refine ⟨by simp [start,hlen],fun i u v hu hv=>?_,?_⟩
  ·simp only [start,List.length_map] at hu
   rw [List.getElem?_append] at hu
   rw [Array.getElem?_append] at hv
   simp only [List.length_map] at hu
   split at hu
   ·rename_i hi
    rw [if_pos (by omega)] at hv
    rw [List.getElem?_map] at hu
    cases hx:xs[i]? with
    | none=>rw [hx] at hu;cases hu
    | some x =>
     rw [hx] at hu;cases hu
     exact .f _ _ (hL.2 i x v hx (by simpa using hv))
   ·rename_i hi
    rw [if_neg (by omega)] at hv
    rw [List.getElem?_replicate] at hu
    rw [Array.getElem?_replicate] at hv
    split at hu
    ·split at hv
     ·cases hu;cases hv;exact .undef
     ·cases hv
    ·cases hu
  ·exact ⟨hZ,fun o ⟨ob,ho,_⟩=>by simp [start] at ho,fun o o' ⟨ob,ho,_⟩=>by simp [start] at ho,fun o ob ho=>by simp [start] at ho⟩
 let b:Frame:={ (default:Frame) with fn:=f,kind:=.normal }
 have henter:Frame.enter P f args .normal=b.at { tmps:=args++Array.replicate (fn.ntmps-args.size) undef,defers:=[] } [.code c]:=by
  simp [Frame.enter,Frame.at,hf,hb,b]
 obtain ⟨st',a',w',todo,hk,⟨hd,Z',m',hA',hE'⟩,hs⟩:=h xs hp w Z (fun _=>0) [] [] _ w Z (fun _=>0) rfl hA rfl (Ext.refl _ _ _ _) b cs
 unfold Q5 at hk
 rw [hmark,P3 hmark] at hk
 simp only [Bool.false_and,Bool.false_eq_true,if_false] at hk
 split at hk
 ·rename_i us hus
  split at hk
  ·rename_i ys hys
   obtain ⟨vs,hvs,hR⟩:=IL (P:=P) hA' _ _ hus
   have hlive0:∀ o,¬ Aw ([]:List HO) o:=fun o ⟨ob,ho,_⟩=>by simp at ho
   let Z2:Nat→Prop:=fun b=>Z' b ∨ ∃ o,Aw st'.heap o∧m' o=b
   have hL2:Jk w' Z2 ys vs:=by
    obtain ⟨hl,hg⟩:=Bf us ys hys
    refine ⟨by rw [← hl];exact hR.1,fun j x v hx' hv=>?_⟩
    have hj:=(List.getElem?_eq_some_iff.1 hx').1
    have hu':us[j]?=some us[j]:=List.getElem?_eq_getElem (by omega)
    refine (Hj hA'.hok (fun _ _ h=>h) (hR.2 j _ v hu' hv) (hg j _ x hu' hx')).mono ?_ (fun _ _=>rfl)
    rintro b (hb | ⟨o,ho,hlv,rfl⟩)
    ·exact .inl hb
    ·exact .inr ⟨o,hlv,rfl⟩
   have hres:(results fn a'.tmps).run P w'=.ok (if h:vs.toArray.size=1 then vs.toArray[0] else .tuple vs.toArray) w':=by
    unfold results
    rw [← Array.toArray_toList (xs:=fn.results),List.mapM_toArray]
    simp only [Sem.run_bind,Sem.run_map]
    refine (congrArg (fun q=>Result.andThen (Result.andThen q fun x w=>Result.ok x.toArray w) fun vs w=>(pure (if h:vs.size=1 then vs[0] else .tuple vs):Sem Value).run P w) hvs).trans ?_
    simp [Result.andThen]
   refine ⟨.returned _,w',{ b.at a' todo with mode:=.returning },?_,?_,rfl,rfl,hd,rfl,fn,hf,hres⟩
   ·refine ⟨⟨hE'.os,hE'.tape,hE'.output,hE'.size,fun b hb=>hE'.rest b hb fun o ho=>absurd ho (hlive0 o),hE'.drawn⟩,Z2,?_,?_⟩
    ·rintro b (hb | ⟨o,hlv,rfl⟩)
     ·have hlt:=hA'.hok.zlt b hb
      rcases hE'.back b hb with h | h | ⟨o,ho,_⟩
      ·exact .inl h
      ·exact .inr ⟨h,hlt⟩
      ·exact absurd ho (hlive0 o)
     ·rcases hE'.new o hlv with ⟨h,_⟩ | h
      ·exact absurd h (hlive0 o)
      ·exact .inr ⟨h,hA'.hok.blk_lt hlv⟩
    ·have hrs:res xs=VX ys:=(Option.some.inj hk).symm
     rw [hrs]
     match ys,vs,hL2 with
     | [y],[v],hL2=>exact hL2.2 0 y v rfl rfl
     | [],[],hL2=>exact .tup [] [] rfl hL2.2
     | y1 :: y2 :: ys,v1 :: v2 :: vs,hL2 =>
      have:RepF w' Z2 (.tup (y1 :: y2 :: ys)) (.tuple (v1 :: v2 :: vs).toArray):=.tup _ _ hL2.1 hL2.2
      simpa [VX] using this
     | [_],[],hL2=>have:=hL2.1;simp at this
     | [_],_ :: _ :: _,hL2=>have:=hL2.1;simp at this
     | [],_ :: _,hL2=>have:=hL2.1;simp at this
     | _ :: _ :: _,[],hL2=>have:=hL2.1;simp at this
     | _ :: _ :: _,[_],hL2=>have:=hL2.1;simp at this
   ·rw [henter];exact hs
  ·cases hk
 ·cases hk
end
end Go.Proofs.YtlefbocihikaoaaGreat.R
namespace Go.Proofs.YtlefbocihikaoaaGreat.R
open Go Go.RowKit
section
variable {P:Program} {w:World} {Z:Nat→Prop} {m:Nat→Nat} {H H':List HO} {hn:Nat} {rs:List ResultVar} {x:F}
theorem gS {R:Type} {c:Bool} {X Y:Option End} {A B:Option R} {r:R} (h:AC c A B=some r) (h1:c=true→A=some r→RM P hn rs x X) (h2:c=false→B=some r→RM P hn rs x Y):RM P hn rs x (AC c X Y):=by
 cases c with
 | true=>exact h1 rfl h
 | false=>exact h2 rfl h
theorem gR {y:F} (h:y=x):RM P hn rs x (some (.ret y)):=⟨_,rfl,h⟩
theorem gC {items:List Item} {st:St} (h:CL P hn rs items st x):RM P hn rs x (some (.cut items st)):=⟨_,rfl,h⟩
theorem gE {X Y:Option End} (e:X=Y) (h:RM P hn rs x Y):RM P hn rs x X:=e ▸ h
theorem gN {R:Type} {r:R} {c:Prop} {Y:Option End} (_:c) (h:(none:Option R)=some r):RM P hn rs x Y:=nomatch h
def Ag:Nat→List U→List U
 | 0,l=>l
 | n+1,l=>.bad :: Ag n l
def G2 (ob ob':HO):Prop:=ob'=ob ∨ ∃ sz n g g',ob=.arr sz n g∧ob'=.arr sz n g'∧∀ j,j<n→g j=g' j
def HLe (H H':List HO):Prop:=H.length=H'.length∧∀ (o:Nat) (ob ob':HO),H[o]?=some ob→H'[o]?=some ob'→G2 ob ob'
theorem HLe.get (h:HLe H H') {o:Nat} {ob':HO} (ho:H'[o]?=some ob'):∃ ob,H[o]?=some ob∧G2 ob ob':=by
 have hlt:=(List.getElem?_eq_some_iff.1 ho).1
 have:o<H.length:=by rw [h.1];exact hlt
 exact ⟨_,List.getElem?_eq_getElem this,h.2 _ _ _ (List.getElem?_eq_getElem this) ho⟩
theorem RepU.hle (h:HLe H H') {u:U} {v:Value} (hu:RepU w Z m H u v):RepU w Z m H' u v:=by
 have hk:∀ {o:Nat},known H o→known H' o:=by
  rintro o ⟨ob,ho,hn⟩
  have hlt:=(List.getElem?_eq_some_iff.1 ho).1
  have hlt':o<H'.length:=by rw [← h.1];exact hlt
  have ho':H'[o]?=some H'[o]:=List.getElem?_eq_getElem hlt'
  refine ⟨_,ho',?_⟩
  rcases h.2 o _ _ ho ho' with e | ⟨sz,n,g,g',e1,e2,_⟩
  ·rw [e];exact hn
  ·rw [e2];simp
 have harr:∀ {o sz n:Nat} {g':Nat→F},H'[o]?=some (.arr sz n g')→∃ g,H[o]?=some (.arr sz n g):=by
  intro o sz n g' ho
  obtain ⟨ob,hob,e | ⟨sz',n',g1,g2,e1,e2,_⟩⟩:=h.get ho
  ·exact ⟨_,by rw [hob,← e]⟩
  ·cases e2;exact ⟨_,by rw [hob,e1]⟩
 have hbox:∀ {o:Nat} {cs:List U},H'[o]?=some (.box cs)→H[o]?=some (.box cs):=by
  intro o cs ho
  obtain ⟨ob,hob,e | ⟨sz',n',g1,g2,e1,e2,_⟩⟩:=h.get ho
  ·rw [hob,← e]
  ·cases e2
 induction hu with
 | f x v h=>exact .f x v h
 | agg cs vs hl hr ih=>exact .agg cs vs hl ih
 | tup cs vs hl hr ih=>exact .tup cs vs hl ih
 | hs o gen off len v h1 ho hg hv =>
  exact .hs o gen off len v h1 (hk ho) (fun sz n g e=>by obtain ⟨g0,e0⟩:=harr e;exact hg _ _ _ e0) (fun sz n g e eg=>by obtain ⟨g0,e0⟩:=harr e;exact hv _ _ _ e0 eg)
 | hp o off v h1 ho hv=>exact .hp o off v h1 (hk ho) (fun cs e=>hv _ (hbox e))
 | ep o gen i off v h1 ho hg hv =>
  exact .ep o gen i off v h1 (hk ho) (fun sz n g e=>by obtain ⟨g0,e0⟩:=harr e;exact hg _ _ _ e0) (fun sz n g e eg=>by obtain ⟨g0,e0⟩:=harr e;exact hv _ _ _ e0 eg)
 | va cs a hZ V hV hr=>exact .va cs a hZ V hV hr
 | nilp=>exact .nilp
 | nils A=>exact .nils A
 | fn f us vs hl hr ih=>exact .fn f us vs hl ih
 | nilfn=>exact .nilfn
 | undef=>exact .undef
 | bad v=>exact .bad v
def FLe (x y:F):Prop:=∀ (w:World) (Z:Nat→Prop) (v:Value),RepF w Z x v→RepF w Z y v
theorem FLe.refl (x:F):FLe x x:=fun _ _ _ h=>h
theorem FLe.sl {n:Nat} {g g':Nat→F} (h:∀ j,j<n→g j=g' j):FLe (.sl n g) (.sl n g'):=by
 intro w Z v hv
 cases hv with
 | sl _ _ A c sz a V hc hs hk hA hV hr =>
  exact .sl n g' A c sz a V hc (fun i hi=>by rw [← h i hi];exact hs i hi) (fun i j u hi hu=>hk i j u hi (by rw [h i hi];exact hu)) hA (fun i j u hi hu=>hV i j u hi (by rw [h i hi];exact hu))
   (fun i j u hi hu=>hr i j u hi (by rw [h i hi];exact hu))
def ULe (u u':U):Prop:=u'=.bad ∨ ∀ (w:World) (Z:Nat→Prop) (m:Nat→Nat) (H:List HO) (v:Value),RepU w Z m H u v→RepU w Z m H u' v
theorem ULe.refl (u:U):ULe u u:=.inr fun _ _ _ _ _ h=>h
theorem ULe.f {x y:F} (h:FLe x y):ULe (.f x) (.f y):=.inr fun w Z m H v hv=>by cases hv with | f _ _ hv=>exact .f _ _ (h _ _ _ hv)
def Nx:List U→List U→Prop
 | [],[]=>True
 | u :: us,u' :: us'=>ULe u u'∧Nx us us'
 | _,_=>False
theorem Nx.refl:∀ us:List U,Nx us us
 | []=>trivial
 | u :: us=>⟨.refl u,.refl us⟩
theorem Nx.get:∀ {us us':List U},Nx us us'→us.length=us'.length∧∀ (i:Nat) (u':U),us'[i]?=some u'→∃ u,us[i]?=some u∧ULe u u'
 | [],[],_=>⟨rfl,fun i u' h=>by simp at h⟩
 | u :: us,u1 :: us',h=>by
  obtain ⟨h1,h2⟩:=Nx.get h.2
  refine ⟨by simp [h1],fun i u' hi=>?_⟩
  cases i with
  | zero=>simp at hi;subst hi;exact ⟨u,rfl,h.1⟩
  | succ i=>simp at hi;obtain ⟨u2,h3,h4⟩:=h2 i u' hi;exact ⟨u2,by simpa using h3,h4⟩
 | [],_ :: _,h=>h.elim
 | _ :: _,[],h=>h.elim
theorem AY.weak {items:List Item} {st st':St} (ht:Nx st.tmps st'.tmps) (hh:HLe st.heap st'.heap) (h:CL P hn rs items st' x):CL P hn rs items st x:=by
 intro w0 Z0 m0 H0 ds a w Z m hhn hA hd hE b cs
 have hlive:∀ o,Aw st'.heap o→Aw st.heap o:=by
  rintro o ⟨ob',ho',hl⟩
  obtain ⟨ob,hob,e | ⟨sz,n,g,g',e1,e2,_⟩⟩:=hh.get ho'
  ·exact ⟨ob,hob,by rw [← e];exact hl⟩
  ·exact ⟨ob,hob,by rw [e1];rfl⟩
 obtain ⟨hl,hg⟩:=ht.get
 refine h w0 Z0 m0 H0 ds a w Z m hhn ⟨by rw [← hl];exact hA.len,fun i u v hu hv=>?_,?_⟩ hd ?_ b cs
 ·obtain ⟨u0,h0,e | hle⟩:=hg i u hu
  ·rw [e];exact .bad v
  ·exact hle _ _ _ _ _ ((hA.rep i u0 v h0 hv).hle hh)
 ·refine ⟨hA.hok.zlt,fun o ho=>hA.hok.apart o (hlive o ho),fun o o' h h'=>hA.hok.inj o o' (hlive o h) (hlive o' h'),fun o ob' ho'=>?_⟩
  obtain ⟨ob,hob,e | ⟨sz,n,g,g',rfl,rfl,hgg⟩⟩:=hh.get ho'
  ·subst e
   have:=hA.hok.ob o _ hob
   cases ob' with
   | dead=>trivial
   | free=>trivial
   | arr sz n g=>exact this
   | box cs =>
    obtain ⟨c,el,fr,h1,h2,h3,h4⟩:=this
    exact ⟨c,el,fr,h1,h2,h3,fun j u hu=>by obtain ⟨v,hv,hr⟩:=h4 j u hu;exact ⟨v,hv,hr.hle hh⟩⟩
  ·obtain ⟨h0,c,el,fr,h1,h2,h3,h4,h5⟩:=hA.hok.ob o _ hob
   exact ⟨h0,c,el,fr,h1,h2,h3,fun i hi=>by rw [← hgg i hi];exact h4 i hi,fun i j u hi hu=>h5 i j u hi (by rw [hgg i hi];exact hu)⟩
 ·refine ⟨hE.os,hE.tape,hE.output,hE.size,hE.sub,hE.back,hE.kept,hE.rest,by rw [← hh.1];exact hE.len,fun o ob ob' h h'=>?_,fun o ho=>hE.new o (hlive o ho),hE.drawn⟩
  obtain ⟨ob1,h1,e | ⟨sz,n,g,g',rfl,rfl,_⟩⟩:=hh.get h'
  ·subst e;exact hE.evol o _ _ h h1
  ·have:=hE.evol o _ _ h h1
   cases ob <;> simp_all [Bu]
theorem AY.same {items:List Item} {st st':St} (e:st=st') (h:CL P hn rs items st' x):CL P hn rs items st x:=e ▸ h
theorem Ai.sub {f:FuncId} {pre pre':List F→Bool} {res res':List F→F} (h:Ai P f pre res) (hp:∀ xs,pre' xs=true→pre xs=true∧res xs=res' xs):Ai P f pre' res':=by
 intro xs hx w Z args hZ hL
 obtain ⟨h1,h2⟩:=hp xs hx
 rw [← h2]
 exact h xs h1 w Z args hZ hL
theorem Ai.le {f:FuncId} {pre pre':List F→Bool} {res res':List F→F} (h:Ai P f pre res) (hp:∀ xs,pre' xs=true→pre xs=true∧FLe (res xs) (res' xs)):Ai P f pre' res':=by
 intro xs hx w Z args hZ hL
 obtain ⟨h1,h2⟩:=hp xs hx
 exact (h xs h1 w Z args hZ hL).mono fun v w' ⟨hg,Z',hz,hr⟩=>⟨hg,Z',hz,h2 _ _ _ hr⟩
theorem Qj {w w':World} (h:Grows w w'):Below w.heap.size w w':=⟨h.os,h.tape,h.output,h.size,h.old⟩
theorem gF {f : FuncId} {fn : Func} {c : Code} (hf : P.funcs[f]? = some fn) (hb : fn.body = some c) (hname : (fn.name == "runtime.NumGoroutine") = false) {pre : List F → Bool} {res : List F → F} (h : Ai P f pre res)
  {xs:List F} {args:Array Value} {b:Bool} (hp:pre xs=true) (hr:res xs=.bool b) (w:World) (Z:Nat→Prop) (hZ:∀ b,Z b→b<w.heap.size) (hL:Jk w Z xs args.toList) :
  Calls P f args w fun e w'=>e=.returned (.bool b)∧Below w.heap.size w w':=by
 rcases h xs hp w Z args hZ hL with ⟨_,h2⟩ | ⟨v,w',h1,_⟩
 ·refine h2.mono fun e w' he=>?_
  cases e with
  | returned v =>
   obtain ⟨g,Z',_,hr'⟩:=he
   rw [hr] at hr'
   cases hr'
   exact ⟨rfl,Qj g⟩
  | _=>exact he.elim
 ·have hp':(program).run P w=.ok P w:=rfl
  unfold callFunc at h1
  simp only [Sem.run_bind,hp',Result.andThen,hf,hname,hb,Option.isNone_some,Bool.false_eq_true,if_false,Sem.run_pure] at h1
  cases h1
end
section
variable {P:Program} {w:World} {Z:Nat→Prop} {m:Nat→Nat} {H:List HO}
mutual
theorem S3:∀ (u:U) (x:F),toF H u=some x→∀ o,o ∈ Cp u→∃ sz n g,H[o]?=some (.arr sz n g)
 | .f x,_,_,o,ho=>by simp [Cp] at ho
 | .agg us,x,h,o,ho=>by
  simp only [toF] at h
  cases hx:Bb H us with
  | none=>rw [hx] at h;cases h
  | some xs=>exact PM us xs hx o (by simpa [Cp] using ho)
 | .tup us,x,h,o,ho=>by
  simp only [toF] at h
  cases hx:Bb H us with
  | none=>rw [hx] at h;cases h
  | some xs=>exact PM us xs hx o (by simpa [Cp] using ho)
 | .nils,_,_,o,ho=>by simp [Cp] at ho
 | .hs o1 gen off len,x,h,o,ho=>by
  simp only [Cp,List.mem_singleton] at ho
  subst ho
  simp only [toF] at h
  split at h
  ·exact ⟨_,_,_,by assumption⟩
  ·cases h
 | .hp _ _,_,h,_,_=>by simp [toF] at h
 | .ep _ _ _ _,_,h,_,_=>by simp [toF] at h
 | .va _,_,h,_,_=>by simp [toF] at h
 | .nilp,_,h,_,_=>by simp [toF] at h
 | .fn _ _,_,h,_,_=>by simp [toF] at h
 | .nilfn,_,h,_,_=>by simp [toF] at h
 | .undef,_,h,_,_=>by simp [toF] at h
 | .bad,_,h,_,_=>by simp [toF] at h
theorem PM:∀ (us:List U) (xs:List F),Bb H us=some xs→∀ o,o ∈ As us→∃ sz n g,H[o]?=some (.arr sz n g)
 | [],_,_,o,ho=>by simp [As] at ho
 | u :: us,xs,h,o,ho=>by
  simp only [Bb] at h
  cases h1:toF H u with
  | none=>rw [h1] at h;simp at h
  | some x =>
   cases h2:Bb H us with
   | none=>rw [h1,h2] at h;simp at h
   | some ys =>
    simp only [As,List.mem_append] at ho
    rcases ho with ho | ho
    ·exact S3 u x h1 o ho
    ·exact PM us ys h2 o ho
end
def rB (P:Program) (f:FuncId) (us:List U) (H:List HO) (x:F) (os:List (List F)):Prop :=
 ∀ (w:World) (Z:Nat→Prop) (m:Nat→Nat) (args:Array Value),HOK w Z m H→CP w Z m H us args.toList →
  Dg P f args w fun v w'=>∃ Z' m',Ext w Z m H w' Z' m' (os.map BE)∧HOK w' Z' m' (os.map BE)∧RepF w' Z' x v
theorem Wf {H:List HO}:∀ (obs:List HO) (os:List (List F)),Om H obs=some (os.map .agg)→obs.length=os.length∧∀ (o:Nat) (ob:HO) (xs:List F),obs[o]?=some ob→os[o]?=some xs→∃ us,ob=.box us∧Bb H us=some xs
 | [],os,h=>by
  simp only [Om,Option.some.injEq] at h
  have:os=[]:=by cases os <;> simp_all
  subst this
  exact ⟨rfl,fun o ob xs ho=>by simp at ho⟩
 | .box us :: obs,os,h=>by
  simp only [Om] at h
  split at h
  ·rename_i xs ys h1 h2
   cases os with
   | nil=>simp at h
   | cons y os =>
    simp only [List.map_cons,Option.some.injEq,List.cons.injEq,F.agg.injEq] at h
    obtain ⟨rfl,rfl⟩:=h
    obtain ⟨hl,hg⟩:=Wf obs os h2
    refine ⟨by simp [hl],fun o ob zs ho hz=>?_⟩
    cases o with
    | zero=>simp at ho hz;subst ho;subst hz;exact ⟨us,rfl,h1⟩
    | succ o=>simp at ho hz;exact hg o ob zs ho hz
  ·cases h
 | .dead :: _,os,h=>by simp [Om] at h
 | .free :: _,os,h=>by simp [Om] at h
 | .arr _ _ _ :: _,os,h=>by
  simp only [Om] at h
  split at h
  ·cases os <;> simp at h
  ·cases h
theorem nT {f:FuncId} {fn:Func} {c:Code} (hf:P.funcs[f]?=some fn) (hb:fn.body=some c) (hodd:LI fn=false) {us:List U} {x:F} {os:List (List F)} (hn:H.length=os.length) (h0:os ≠ [])
  (h:CL P H.length fn.results.toList [.code c] (CU fn.ntmps us H) (.tup (x :: os.map .agg))):rB P f us H x os:=by
 have hname:=Pu hodd
 intro w Z m args hH hL
 refine .inl ⟨by
  have hp:(program).run P w=.ok P w:=rfl
  unfold callFunc
  simp only [Sem.run_bind,hp,Result.andThen,hf,hname,hb,Option.isNone_some,Bool.false_eq_true,if_false,Sem.run_pure],fun cs=>?_⟩
 have hlen:us.length=args.size:=by simpa using hL.1
 have hA:AOK w Z m (CU fn.ntmps us H) { tmps:=args++Array.replicate (fn.ntmps-args.size) undef,defers:=[] }:=by
  refine ⟨by simp [CU,hlen],fun i u v hu hv=>?_,hH⟩
  simp only [CU] at hu
  rw [List.getElem?_append] at hu
  rw [Array.getElem?_append] at hv
  split at hu
  ·rename_i hi
   rw [if_pos (by omega)] at hv
   exact hL.2 i u v hu (by simpa using hv)
  ·rename_i hi
   rw [if_neg (by omega)] at hv
   rw [List.getElem?_replicate] at hu
   rw [Array.getElem?_replicate] at hv
   split at hu
   ·split at hv
    ·cases hu;cases hv;exact .undef
    ·cases hv
   ·cases hu
 let b:Frame:={ (default:Frame) with fn:=f,kind:=.normal }
 have henter:Frame.enter P f args .normal=b.at { tmps:=args++Array.replicate (fn.ntmps-args.size) undef,defers:=[] } [.code c]:=by
  simp [Frame.enter,Frame.at,hf,hb,b]
 obtain ⟨st',a',w',todo,hk,⟨hd,Z',m',hA',hE'⟩,hs⟩:=h w Z m H [] _ w Z m rfl hA rfl (Ext.refl _ _ _ _) b cs
 obtain ⟨n,hn1⟩:∃ n,H.length=n+1:=by
  cases os with
  | nil=>exact absurd rfl h0
  | cons _ l=>exact ⟨l.length,by rw [hn];rfl⟩
 unfold Q5 at hk
 rw [hn1] at hk
 rw [if_neg (by rw [show Nat.beq (n+1) 0=false from rfl,Bool.and_false];exact Bool.false_ne_true),if_neg (by rw [P3 (Pv hodd)];exact Bool.false_ne_true)] at hk
 split at hk
 ·rename_i us' hus
  split at hk
  ·rename_i ys hys
   simp only at hk
   obtain ⟨_,hk⟩:=nG hk
   split at hk
   ·rename_i os' hos
    simp only [Option.some.injEq,F.tup.injEq,List.cons.injEq] at hk
    obtain ⟨hx,rfl⟩:=hk
    obtain ⟨hol,hog⟩:=Wf _ _ hos
    obtain ⟨vs,hvs,hR⟩:=IL (P:=P) hA' _ _ hus
    let Z2:Nat→Prop:=fun b=>Z' b ∨ ∃ o,n+1≤o∧Aw st'.heap o∧m' o=b
    have hlen':n+1≤st'.heap.length:=by have:=hE'.len;omega
        -- a box that was lent, at the end
    have box:∀ o,o<n+1→∃ us xs,st'.heap[o]?=some (.box us)∧os[o]?=some xs∧Bb st'.heap us=some xs:=by
     intro o ho
     have h1:(st'.heap.take (n+1))[o]?=some st'.heap[o]:=by rw [List.getElem?_take,if_pos ho];exact List.getElem?_eq_getElem (by omega)
     have h2:o<os.length:=by omega
     obtain ⟨us,e,ht⟩:=hog o _ _ h1 (List.getElem?_eq_getElem h2)
     exact ⟨us,os[o],by rw [List.getElem?_eq_getElem (by omega),e],List.getElem?_eq_getElem h2,ht⟩
    have data:∀ (u:U) (v:Value) (y:F),RepU w' Z' m' st'.heap u v→toF st'.heap u=some y→RepF w' Z2 y v:=by
     intro u v y hr hy
     refine (Hj hA'.hok (fun _ _ h=>h) hr hy).mono ?_ (fun _ _=>rfl)
     rintro b (hb | ⟨o,ho,hlv,rfl⟩)
     ·exact .inl hb
     ·refine .inr ⟨o,?_,hlv,rfl⟩
      rcases Nat.lt_or_ge o (n+1) with hlt | hge
      ·obtain ⟨us,xs,h1,_,_⟩:=box o hlt
       obtain ⟨sz,k,g,h2⟩:=S3 u y hy o ho
       rw [h1] at h2;cases h2
      ·exact hge
    have getB:∀ (o:Nat) (ob:HO),(os.map BE)[o]?=some ob→o<n+1∧∃ xs,os[o]?=some xs∧ob=BE xs:=by
     intro o ob ho
     rw [List.getElem?_map] at ho
     cases hx:os[o]? with
     | none=>rw [hx] at ho;cases ho
     | some xs =>
      rw [hx] at ho;cases ho
      have:=(List.getElem?_eq_some_iff.1 hx).1
      exact ⟨by omega,xs,rfl,rfl⟩
    have liveB:∀ o,Aw (os.map BE) o→o<n+1∧Aw st'.heap o:=by
     rintro o ⟨ob,ho,hl⟩
     obtain ⟨h1,xs,h2,h3⟩:=getB o ob ho
     obtain ⟨us,_,h4,_,_⟩:=box o h1
     exact ⟨h1,_,h4,rfl⟩
    have hres:(results fn a'.tmps).run P w'=.ok (if h:vs.toArray.size=1 then vs.toArray[0] else .tuple vs.toArray) w':=by
     unfold results
     rw [← Array.toArray_toList (xs:=fn.results),List.mapM_toArray]
     simp only [Sem.run_bind,Sem.run_map]
     refine (congrArg (fun q=>Result.andThen (Result.andThen q fun x w=>Result.ok x.toArray w) fun vs w=>(pure (if h:vs.size=1 then vs[0] else .tuple vs):Sem Value).run P w) hvs).trans ?_
     simp [Result.andThen]
    have hL2:Jk w' Z2 ys vs:=by
     obtain ⟨hl,hg⟩:=Bf us' ys hys
     refine ⟨by rw [← hl];exact hR.1,fun j y v hy' hv=>?_⟩
     have hj:=(List.getElem?_eq_some_iff.1 hy').1
     have hu':us'[j]?=some us'[j]:=List.getElem?_eq_getElem (by omega)
     exact data _ _ _ (hR.2 j _ v hu' hv) (hg j _ y hu' hy')
    refine ⟨.returned _,w',{ b.at a' todo with mode:=.returning },?_,?_,rfl,rfl,hd,rfl,fn,hf,hres⟩
    ·refine ⟨Z2,m',?_,?_,?_⟩
     ·refine ⟨hE'.os,hE'.tape,hE'.output,hE'.size,fun b hb=>.inl (hE'.sub b hb),?_,hE'.kept,hE'.rest,by rw [List.length_map];omega,?_,?_,hE'.drawn⟩
      ·rintro b (hb | ⟨o,ho,hlv,rfl⟩)
       ·exact hE'.back b hb
       ·rcases hE'.new o hlv with ⟨⟨ob,h1,_⟩,_⟩ | h1
        ·have:=(List.getElem?_eq_some_iff.1 h1).1;omega
        ·exact .inr (.inl h1)
      ·intro o ob ob' ho ho'
       obtain ⟨h1,xs,h2,rfl⟩:=getB o ob' ho'
       obtain ⟨us1,xs1,h4,h5,h6⟩:=box o h1
       rw [h2] at h5;cases h5
       have hev:=hE'.evol o ob _ ho h4
       have hl:=Js h6
       cases ob <;> simp_all [Bu,BE]
      ·intro o ho
       exact hE'.new o (liveB o ho).2
     ·refine ⟨?_,?_,fun o o' h h' e=>hA'.hok.inj o o' (liveB o h).2 (liveB o' h').2 e,?_⟩
      ·rintro b (hb | ⟨o,ho,hlv,rfl⟩)
       ·exact hA'.hok.zlt b hb
       ·exact hA'.hok.blk_lt hlv
      ·rintro o ho (hb | ⟨o',ho',hlv,e⟩)
       ·exact hA'.hok.apart o (liveB o ho).2 hb
       ·have:=hA'.hok.inj o' o hlv (liveB o ho).2 e
        have:=(liveB o ho).1
        omega
      ·intro o ob ho
       obtain ⟨h1,xs,h2,rfl⟩:=getB o ob ho
       obtain ⟨us1,xs1,h4,h5,h6⟩:=box o h1
       rw [h2] at h5;cases h5
       obtain ⟨c,el,fr,q1,q2,q3,q4⟩:=hA'.hok.ob o _ h4
       obtain ⟨hl,hg⟩:=Bf us1 xs h6
       refine ⟨c,el,fr,q1,q2,by rw [List.length_map,← hl];exact q3,fun j u hu=>?_⟩
       rw [List.getElem?_map] at hu
       cases hxj:xs[j]? with
       | none=>rw [hxj] at hu;cases hu
       | some y =>
        rw [hxj] at hu;cases hu
        have hj:=(List.getElem?_eq_some_iff.1 hxj).1
        have huj:us1[j]?=some us1[j]:=List.getElem?_eq_getElem (by omega)
        obtain ⟨v,hv,hr⟩:=q4 j _ huj
        exact ⟨v,hv,.f _ _ (data _ _ _ hr (hg j _ y huj hxj))⟩
     ·rw [← hx]
      match ys,vs,hL2 with
      | [y],[v],hL2=>exact hL2.2 0 y v rfl rfl
      | [],[],hL2=>exact .tup [] [] rfl hL2.2
      | y1 :: y2 :: ys,v1 :: v2 :: vs,hL2 =>
       have:RepF w' Z2 (.tup (y1 :: y2 :: ys)) (.tuple (v1 :: v2 :: vs).toArray):=.tup _ _ hL2.1 hL2.2
       simpa [VX] using this
      | [_],[],hL2=>have:=hL2.1;simp at this
      | [_],_ :: _ :: _,hL2=>have:=hL2.1;simp at this
      | [],_ :: _,hL2=>have:=hL2.1;simp at this
      | _ :: _ :: _,[],hL2=>have:=hL2.1;simp at this
      | _ :: _ :: _,[_],hL2=>have:=hL2.1;simp at this
    ·rw [henter];exact hs
   ·cases hk
  ·cases hk
 ·cases hk
abbrev MT (pre:List F→List F→Bool) (res:List F→List F→F × List F):Sp:=.ptr pre res
theorem Yt {f:FuncId} {pre:List F→List F→Bool} {res:List F→List F→F × List F}
  (h:∀ cs xs,pre cs xs=true→rB P f (.hp 0 0 :: xs.map .f) [BE cs] (res cs xs).1 [(res cs xs).2]):EJ P f (MT pre res):=by
 intro us H hp w Z m args hH hL
 unfold NN at hp
 split at hp
 ·rename_i o us'
  split at hp
  ·rename_i cu ho
   split at hp
   ·rename_i cs xs hcs hxs
    have hres:Pi res (.hp o 0 :: us') H=(.f (res cs xs).1,H.set o (BE (res cs xs).2)):=by simp only [Pi,ho,hcs,hxs]
    rw [hres]
    obtain ⟨hl1,hg1⟩:=Bf cu cs hcs
    obtain ⟨hl2,hg2⟩:=Bf us' xs hxs
    have hlo:Aw H o:=⟨_,ho,rfl⟩
    have hobk:=hH.ob o _ ho
    have hHsub:HOK w Z (fun _=>m o) [BE cs]:=by
     refine ⟨hH.zlt,fun _ _=>hH.apart o hlo,fun a b ha hb _=>?_,fun k ob hk=>?_⟩
     ·obtain ⟨_,ha,_⟩:=ha
      obtain ⟨_,hb,_⟩:=hb
      have:=(List.getElem?_eq_some_iff.1 ha).1
      have:=(List.getElem?_eq_some_iff.1 hb).1
      simp at *
      omega
     ·have hk0:=(List.getElem?_eq_some_iff.1 hk).1
      obtain rfl:k=0:=by simp at hk0;exact hk0
      simp at hk;subst hk
      obtain ⟨c,el,fr,q1,q2,q3,q4⟩:=hobk
      refine ⟨c,el,fr,q1,q2,by rw [List.length_map,← hl1];exact q3,fun j u hu=>?_⟩
      rw [List.getElem?_map] at hu
      cases hxj:cs[j]? with
      | none=>rw [hxj] at hu;cases hu
      | some y =>
       rw [hxj] at hu;cases hu
       have hj:=(List.getElem?_eq_some_iff.1 hxj).1
       have huj:cu[j]?=some cu[j]:=List.getElem?_eq_getElem (by omega)
       obtain ⟨v,hv,hr⟩:=q4 j _ huj
       exact ⟨v,hv,.f _ _ (Cf hH hr (hg1 j _ y huj hxj))⟩
    have hLsub:CP w Z (fun _=>m o) [BE cs] (.hp 0 0 :: xs.map .f) args.toList:=by
     refine ⟨by rw [← hL.1];simp [hl2],fun j u v hu hv=>?_⟩
     cases j with
     | zero =>
      simp at hu;subst hu
      have:=hL.2 0 _ v rfl hv
      cases this with
      | hp _ _ _ h1 hk hvv=>exact .hp 0 0 v h1 ⟨_,rfl,by simp [BE]⟩ fun cs' _=>hvv _ ho
     | succ j =>
      simp only [List.getElem?_cons_succ,List.getElem?_map] at hu
      cases hxj:xs[j]? with
      | none=>rw [hxj] at hu;cases hu
      | some y =>
       rw [hxj] at hu;cases hu
       have hj:=(List.getElem?_eq_some_iff.1 hxj).1
       have huj:us'[j]?=some us'[j]:=List.getElem?_eq_getElem (by omega)
       exact .f _ _ (Cf hH (hL.2 (j+1) _ v (by rw [List.getElem?_cons_succ];exact huj) hv) (hg2 j _ y huj hxj))
    refine (h cs xs hp w Z (fun _=>m o) args hHsub hLsub).mono fun v w' ⟨Z',m',hE,hH',hr⟩=>?_
    have hm0:m' 0=m o:=by
     have:=hE.evol 0 (BE cs) (BE (res cs xs).2) rfl rfl
     simp only [BE,Bu] at this
     exact this.2
    have hlen:(res cs xs).2.length=cs.length:=by
     have:=hE.evol 0 (BE cs) (BE (res cs xs).2) rfl rfl
     simp only [BE,Bu,List.length_map] at this
     exact this.1
    have hlt:o<H.length:=(List.getElem?_eq_some_iff.1 ho).1
    have hlive:∀ k,Aw (H.set o (BE (res cs xs).2)) k→Aw H k:=by
     intro k ⟨ob1,h1,hd⟩
     by_cases hk:o=k
     ·subst hk;exact hlo
     ·rw [List.getElem?_set_ne hk] at h1;exact ⟨ob1,h1,hd⟩
    have hkeep:∀ k,Aw H k→k ≠ o→w'.heap[m k]?=w.heap[m k]?:=by
     intro k hk hne
     refine hE.rest _ (hH.blk_lt hk) fun o' ho' e=>hne (hH.inj k o hk hlo e.symm)
    have hEE:Ext w Z m H w' Z' m (H.set o (BE (res cs xs).2)):=by
     refine ⟨hE.os,hE.tape,hE.output,hE.size,hE.sub,?_,hE.kept,?_,by simp,?_,fun k hk=>.inl ⟨hlive k hk,rfl⟩,hE.drawn⟩
     ·intro b hb
      rcases hE.back b hb with h1 | h1 | ⟨o',ho',e⟩
      ·exact .inl h1
      ·exact .inr (.inl h1)
      ·exact .inr (.inr ⟨o,hlo,e⟩)
     ·intro b hb hn
      exact hE.rest b hb fun o' ho' e=>hn o hlo e
     ·intro k ob ob' hk hk'
      by_cases hko:o=k
      ·subst hko
       rw [List.getElem?_set_self hlt] at hk'
       rw [ho] at hk
       cases hk;cases hk'
       simp only [BE,Bu,List.length_map]
       exact ⟨by rw [hlen,hl1],trivial⟩
      ·rw [List.getElem?_set_ne hko,hk] at hk'
       cases hk'
       cases ob with
       | arr sz n g =>
        refine ⟨rfl,Nat.le_refl _,fun _=>⟨rfl,?_⟩⟩
        simp only [Az,hkeep k ⟨_,hk,rfl⟩ (fun e=>hko e.symm)]
       | _=>simp [Bu]
    refine ⟨Z',m,hEE,⟨hH'.zlt,?_,fun a b ha hb e=>hH.inj a b (hlive a ha) (hlive b hb) e,?_⟩,.f _ _ hr⟩
    ·intro k hk hz
     have hk':=hlive k hk
     by_cases hko:k=o
     ·subst hko
      exact hH'.apart 0 ⟨_,rfl,rfl⟩ (by rw [hm0];exact hz)
     ·rcases hE.back _ hz with h1 | h1 | ⟨o',ho',e⟩
      ·exact hH.apart k hk' h1
      ·have:=hH.blk_lt hk';omega
      ·exact hko (hH.inj k o hk' hlo e.symm)
    ·intro k ob hk
     by_cases hko:o=k
     ·subst hko
      rw [List.getElem?_set_self hlt] at hk
      cases hk
      obtain ⟨c,el,fr,q1,q2,q3,q4⟩:=hH'.ob 0 _ rfl
      rw [hm0] at q1 q2
      refine ⟨c,el,fr,q1,q2,q3,fun j u hu=>?_⟩
      obtain ⟨v,hv,hr⟩:=q4 j u hu
      refine ⟨v,hv,?_⟩
      rw [List.getElem?_map] at hu
      cases hxj:(res cs xs).2[j]? with
      | none=>rw [hxj] at hu;cases hu
      | some y=>rw [hxj] at hu;cases hu;cases hr with | f _ _ hr=>exact .f _ _ hr
     ·rw [List.getElem?_set_ne hko] at hk
      by_cases hd:ob.live=true
      ·exact (hH.ob k ob hk).mono hEE (hkeep k ⟨_,hk,hd⟩ (fun e=>hko e.symm))
      ·cases ob <;> simp_all [Hg,HO.live]
   ·cases hp
  ·cases hp
 ·cases hp
abbrev mL (pre:List F→Bool) (res:List F→List F):Sp:=.new pre res
end
section
variable {P:Program} {w:World} {Z:Nat→Prop} {m:Nat→Nat} {H:List HO}
def Ee:List F→List F→Prop
 | [],[]=>True
 | x :: xs,y :: ys=>FLe x y∧Ee xs ys
 | _,_=>False
theorem Ee.refl:∀ xs:List F,Ee xs xs
 | []=>trivial
 | x :: xs=>⟨.refl x,.refl xs⟩
theorem Ee.get:∀ {xs ys:List F},Ee xs ys→xs.length=ys.length∧∀ (i:Nat) (y:F),ys[i]?=some y→∃ x,xs[i]?=some x∧FLe x y
 | [],[],_=>⟨rfl,fun i y h=>by simp at h⟩
 | x :: xs,y :: ys,h=>by
  obtain ⟨h1,h2⟩:=Ee.get h.2
  refine ⟨by simp [h1],fun i z hi=>?_⟩
  cases i with
  | zero=>simp at hi;subst hi;exact ⟨x,rfl,h.1⟩
  | succ i=>simp at hi;obtain ⟨u2,h3,h4⟩:=h2 i z hi;exact ⟨u2,by simpa using h3,h4⟩
 | [],_ :: _,h=>h.elim
 | _ :: _,[],h=>h.elim
theorem Jk.le {xs ys:List F} {vs:List Value} (h:Ee xs ys) (hL:Jk w Z xs vs):Jk w Z ys vs:=by
 obtain ⟨h1,h2⟩:=h.get
 refine ⟨by rw [← h1];exact hL.1,fun j y v hy hv=>?_⟩
 obtain ⟨x,hx,hle⟩:=h2 j y hy
 exact hle _ _ _ (hL.2 j x v hx hv)
theorem Ae {f:FuncId} {fn:Func} {c:Code} (hf:P.funcs[f]?=some fn) (hb:fn.body=some c) (hname:LI fn=false) {pre:List F→Bool} {res:List F→F}
  (h:∀ xs,pre xs=true→∃ ys y,Ee xs ys∧AY P fn.results.toList [.code c] (start fn.ntmps (ys.map .f)) y∧FLe y (res xs)):Ai P f pre res:=by
 intro xs hp w Z args hZ hL
 obtain ⟨ys,y,h1,h2,h3⟩:=h xs hp
 have:=Bm hf hb hname (pre:=fun _=>true) (res:=fun zs=>y) (P:=P) (f:=f)
 have key:Ai P f (fun zs=>@decide (zs=ys) (Classical.propDecidable _)) (fun _=>y):=Bm hf hb hname fun zs hz=>by
  obtain rfl:=@of_decide_eq_true _ (Classical.propDecidable _) hz
  exact h2
 exact (key ys (@decide_eq_true _ (Classical.propDecidable _) rfl) w Z args hZ (hL.le h1)).mono fun v w' ⟨hg,Z',hz,hr⟩=>⟨hg,Z',hz,h3 _ _ _ hr⟩
theorem HOK.box_le {xs ys:List F} (h:Ee xs ys) (hH:HOK w Z m [BE xs]):HOK w Z m [BE ys]:=by
 have hl:∀ k,Aw [BE ys] k→Aw [BE xs] k:=by
  rintro k ⟨ob,hk,_⟩
  have hk0:=(List.getElem?_eq_some_iff.1 hk).1
  obtain rfl:k=0:=by simp at hk0;exact hk0
  exact ⟨_,rfl,rfl⟩
 refine ⟨hH.zlt,fun o ho=>hH.apart o (hl o ho),fun o o' h h'=>hH.inj o o' (hl o h) (hl o' h'),fun k ob hk=>?_⟩
 have hk0:=(List.getElem?_eq_some_iff.1 hk).1
 obtain rfl:k=0:=by simp at hk0;exact hk0
 simp at hk;subst hk
 obtain ⟨c,el,fr,q1,q2,q3,q4⟩:=hH.ob 0 _ rfl
 obtain ⟨h1,h2⟩:=h.get
 refine ⟨c,el,fr,q1,q2,by rw [List.length_map,← h1];simpa using q3,fun j u hu=>?_⟩
 rw [List.getElem?_map] at hu
 cases hy:ys[j]? with
 | none=>rw [hy] at hu;cases hu
 | some y =>
  rw [hy] at hu;cases hu
  obtain ⟨x,hx,hle⟩:=h2 j y hy
  obtain ⟨v,hv,hr⟩:=q4 j (.f x) (by rw [List.getElem?_map,hx];rfl)
  exact ⟨v,hv,by cases hr with | f _ _ hr=>exact .f _ _ (hle _ _ _ hr)⟩
theorem Ext.box_le {w':World} {Z':Nat→Prop} {m':Nat→Nat} {xs ys os ps:List F} (h:Ee xs ys) (h':Ee ps os) (hE:Ext w Z m [BE ys] w' Z' m' [BE ps]):Ext w Z m [BE xs] w' Z' m' [BE os]:=by
 have hl:∀ (al bs:List F) k,Aw [BE al] k→Aw [BE bs] k:=by
  rintro al bs k ⟨ob,hk,_⟩
  have hk0:=(List.getElem?_eq_some_iff.1 hk).1
  obtain rfl:k=0:=by simp at hk0;exact hk0
  exact ⟨_,rfl,rfl⟩
 refine ⟨hE.os,hE.tape,hE.output,hE.size,hE.sub,fun b hb=>?_,hE.kept,fun b hb hn=>hE.rest b hb fun o ho=>hn o (hl _ _ o ho),by simp,fun o ob ob' ho ho'=>?_,fun o ho=>?_,hE.drawn⟩
 ·rcases hE.back b hb with h1 | h1 | ⟨o,ho,e⟩
  ·exact .inl h1
  ·exact .inr (.inl h1)
  ·exact .inr (.inr ⟨o,hl _ _ o ho,e⟩)
 ·have hk0:=(List.getElem?_eq_some_iff.1 ho).1
  obtain rfl:o=0:=by simp at hk0;exact hk0
  simp at ho ho';subst ho;subst ho'
  have:=hE.evol 0 _ _ rfl rfl
  simp only [BE,Bu,List.length_map] at this ⊢
  exact ⟨by rw [← h'.get.1,h.get.1];exact this.1,this.2⟩
 ·rcases hE.new o (hl _ _ o ho) with ⟨h1,h2⟩ | h1
  ·exact .inl ⟨hl _ _ o h1,h2⟩
  ·exact .inr h1
theorem K1 {f:FuncId} {fn:Func} {c:Code} (hf:P.funcs[f]?=some fn) (hb:fn.body=some c) (hodd:LI fn=false) {pre:List F→List F→Bool} {res:List F→List F→F × List F}
  (h:∀ cs xs,pre cs xs=true→∃ ds ys r os,Ee cs ds∧Ee xs ys∧CL P 1 fn.results.toList [.code c] (CU fn.ntmps (.hp 0 0 :: ys.map .f) [.box (ds.map .f)]) (.tup [r,.agg os])∧FLe r (res cs xs).1∧Ee os (res cs xs).2):EJ P f (MT pre res) :=
 Yt fun cs xs hp w Z m args hH hL=>by
  obtain ⟨ds,ys,r,os,h1,h2,h3,h4,h5⟩:=h cs xs hp
  refine (nT hf hb hodd (H:=[BE ds]) (os:=[os]) rfl (by simp) h3 w Z m args (hH.box_le h1) ?_).mono fun v w' ⟨Z',m',hE,hH',hr⟩=>⟨Z',m',hE.box_le h1 h5,hH'.box_le h5,h4 _ _ _ hr⟩
  obtain ⟨hl,hg⟩:=h2.get
  refine ⟨by rw [← hL.1];simp [hl],fun j u v hu hv=>?_⟩
  cases j with
  | zero =>
   simp at hu;subst hu
   have:=hL.2 0 _ v rfl hv
   cases this with
   | hp _ _ _ h1 hk hvv=>exact .hp 0 0 v h1 ⟨_,rfl,by simp [BE]⟩ fun cs' _=>hvv _ rfl
  | succ j =>
   simp only [List.getElem?_cons_succ,List.getElem?_map] at hu
   cases hy:ys[j]? with
   | none=>rw [hy] at hu;cases hu
   | some y =>
    rw [hy] at hu;cases hu
    obtain ⟨x,hx,hle⟩:=hg j y hy
    have hr:=hL.2 (j+1) (.f x) v (by simp [hx]) hv
    cases hr with | f _ _ hr=>exact .f _ _ (hle _ _ _ hr)
theorem fn_new {f : FuncId} {fn : Func} {c : Code} {t : Tmp} {ty : TypeId} (hf : P.funcs[f]? = some fn) (hb : fn.body = some c) (hname : (fn.name == "runtime.NumGoroutine") = false) (hrs : fn.results = #[.tmp t]) (hag : ∀ ti, It P ty = some ti → ti.isAgg = true)
  {pre:List F→Bool} {res:List F→List F}
  (h:∀ xs,pre xs=true→∃ ys os,Ee xs ys∧AY P [.cell t ty] [.code c] (start fn.ntmps (ys.map .f)) (.agg os)∧Ee os (res xs)):EJ P f (mL pre res):=by
 intro us H hp w Z m args hH hL
 simp only [TX,TW] at hp ⊢
 cases hxs:Bb [] us with
 | none=>rw [hxs] at hp;cases hp
 | some xs =>
 rw [hxs] at hp
 simp only at hp
 simp only []
 obtain ⟨hl2,hg2⟩:=Bf us xs hxs
 obtain ⟨ys,os,hle,h,hlo2⟩:=h xs hp
 obtain ⟨hyl,hyg⟩:=hle.get
 obtain ⟨hol,hog⟩:=hlo2.get
 refine .inl ⟨by
  have hp:(program).run P w=.ok P w:=rfl
  unfold callFunc
  simp only [Sem.run_bind,hp,Result.andThen,hf,hname,hb,Option.isNone_some,Bool.false_eq_true,if_false,Sem.run_pure],fun cs=>?_⟩
 have hlenx:xs.length=args.size:=by rw [← hl2];simpa using hL.1
 have hlen:ys.length=args.size:=by rw [← hyl];exact hlenx
 have hA:AOK w Z m (start fn.ntmps (ys.map .f)) { tmps:=args++Array.replicate (fn.ntmps-args.size) undef,defers:=[] }:=by
  refine ⟨by simp [start,hlen],fun i u v hu hv=>?_,?_⟩
  ·simp only [start,List.length_map] at hu
   rw [List.getElem?_append] at hu
   rw [Array.getElem?_append] at hv
   simp only [List.length_map] at hu
   split at hu
   ·rename_i hi
    rw [if_pos (by omega)] at hv
    rw [List.getElem?_map] at hu
    cases hy:ys[i]? with
    | none=>rw [hy] at hu;cases hu
    | some y =>
     rw [hy] at hu;cases hu
     obtain ⟨x,hx,hxy⟩:=hyg i y hy
     have huj:us[i]?=some us[i]:=List.getElem?_eq_getElem (by omega)
     exact .f _ _ (hxy _ _ _ (Cf hH (hL.2 i _ v huj (by simpa using hv)) (hg2 i _ x huj hx)))
   ·rename_i hi
    rw [if_neg (by omega)] at hv
    rw [List.getElem?_replicate] at hu
    rw [Array.getElem?_replicate] at hv
    split at hu
    ·split at hv
     ·cases hu;cases hv;exact .undef
     ·cases hv
    ·cases hu
  ·exact ⟨hH.zlt,fun o ⟨ob,ho,_⟩=>by simp [start] at ho,fun o o' ⟨ob,ho,_⟩=>by simp [start] at ho,fun o ob ho=>by simp [start] at ho⟩
 let b:Frame:={ (default:Frame) with fn:=f,kind:=.normal }
 have henter:Frame.enter P f args .normal=b.at { tmps:=args++Array.replicate (fn.ntmps-args.size) undef,defers:=[] } [.code c]:=by
  simp [Frame.enter,Frame.at,hf,hb,b]
 obtain ⟨st',a',w',todo,hk,⟨hd,Z',m',hA',hE'⟩,hs⟩:=h w Z m [] [] _ w Z m rfl hA rfl (Ext.refl _ _ _ _) b cs
 unfold Q5 at hk
 have hmk:(([ResultVar.cell t ty]).head?.elim false Gw&&Nat.beq ([]:List HO).length 0)=false:=rfl
 simp only [List.head?_cons,Option.elim_some,Gw,KD,Bool.false_and,Bool.false_eq_true,if_false] at hk
 split at hk
 case h_2=>cases hk
 rename_i us' hus
 split at hk
 case h_2=>cases hk
 rename_i ys hys
 simp only [Option.some.injEq] at hk
 simp only [NJ] at hus
 split at hus
 case h_2=>cases hus
 rename_i o ti us2 htx hti hus2
 cases hus2
 split at hus
 case isFalse=>cases hus
 rename_i hwb
 unfold VS at hwb
 split at hwb
 case h_2=>cases hwb
 rename_i cu ho
 simp only [beq_iff_eq] at hwb
 have hag:=hag ti hti
 simp only [HT,ho,hag,Nat.zero_add,hwb,Nat.le_refl,decide_true,AF,Bool.true_or,List.drop_zero,Option.some.injEq] at hus
 subst hus
 rw [List.take_of_length_le (by omega)] at hys
 simp only [mkU,if_true,Bb,toF] at hys
 cases hcu:Bb st'.heap cu with
 | none=>rw [hcu] at hys;simp at hys
 | some zs =>
 rw [hcu] at hys
 simp only [Option.map_some,Option.some.injEq] at hys
 subst hys
 simp only [VX,F.agg.injEq] at hk
 subst hk
 have hlive0:∀ o,¬ Aw ([]:List HO) o:=fun o ⟨ob,ho,_⟩=>by simp at ho
 have hlo:Aw st'.heap o:=⟨_,ho,rfl⟩
 let Z2:Nat→Prop:=fun b=>Z' b ∨ ∃ o',o' ≠ o∧Aw st'.heap o'∧m' o'=b
 let m2:Nat→Nat:=fun k=>if k=H.length then m' o else m k
 have hfresh:w.heap.size≤m' o:=by
  rcases hE'.new o hlo with ⟨h,_⟩ | h
  ·exact absurd h (hlive0 o)
  ·exact h
 have data:∀ (u:U) (v:Value) (y:F),RepU w' Z' m' st'.heap u v→toF st'.heap u=some y→RepF w' Z2 y v:=by
  intro u v y hr hy
  refine (Hj hA'.hok (fun _ _ h=>h) hr hy).mono ?_ (fun _ _=>rfl)
  rintro b (hb | ⟨o',ho',hlv,rfl⟩)
  ·exact .inl hb
  ·refine .inr ⟨o',?_,hlv,rfl⟩
   rintro rfl
   obtain ⟨sz,k,g,h2⟩:=S3 u y hy o' ho'
   rw [ho] at h2;cases h2
 have hZ2:∀ b,Z2 b→Z b ∨ (w.heap.size≤b∧b<w'.heap.size):=by
  rintro b (hb | ⟨o',ho',hlv,rfl⟩)
  ·have hlt:=hA'.hok.zlt b hb
   rcases hE'.back b hb with h | h | ⟨o,ho,_⟩
   ·exact .inl h
   ·exact .inr ⟨h,hlt⟩
   ·exact absurd ho (hlive0 o)
  ·rcases hE'.new o' hlv with ⟨h,_⟩ | h
   ·exact absurd h (hlive0 o')
   ·exact .inr ⟨h,hA'.hok.blk_lt hlv⟩
 have hold:∀ b,b<w.heap.size→w'.heap[b]?=w.heap[b]?:=fun b hb=>hE'.rest b hb fun o ho=>absurd ho (hlive0 o)
 have hmk:∀ k,Aw H k→m2 k=m k:=by
  rintro k ⟨ob,hk,_⟩
  have:=(List.getElem?_eq_some_iff.1 hk).1
  simp only [m2]
  rw [if_neg (by omega)]
 have hmn:m2 H.length=m' o:=by simp [m2]
 have hsplit:∀ k,Aw (H++[BE (res xs)]) k→Aw H k ∨ k=H.length:=by
  rintro k ⟨ob,hk,hl⟩
  rcases Nat.lt_trichotomy k H.length with h1 | h1 | h1
  ·rw [List.getElem?_append_left h1] at hk;exact .inl ⟨ob,hk,hl⟩
  ·exact .inr h1
  ·rw [List.getElem?_append_right (by omega),List.getElem?_eq_none (by simp;omega)] at hk;cases hk
 have hEE:Ext w Z m H w' Z2 m2 (H++[BE (res xs)]):=by
  refine ⟨hE'.os,hE'.tape,hE'.output,hE'.size,fun b hb=>.inl (hE'.sub b hb),?_,hE'.kept,fun b hb _=>hold b hb,by simp,?_,?_,hE'.drawn⟩
  ·intro b hb
   rcases hZ2 b hb with h | h
   ·exact .inl h
   ·exact .inr (.inl h.1)
  ·intro k ob ob' hk hk'
   have hlt:=(List.getElem?_eq_some_iff.1 hk).1
   rw [List.getElem?_append_left hlt,hk] at hk'
   cases hk'
   have:m2 k=m k:=by simp only [m2];rw [if_neg (by omega)]
   rw [this]
   cases ob with
   | arr sz n g=>exact ⟨rfl,Nat.le_refl _,fun _=>⟨rfl,by simp only [Az,hold _ (hH.blk_lt ⟨_,hk,rfl⟩)]⟩⟩
   | _=>simp [Bu]
  ·intro k hk
   rcases hsplit k hk with h1 | h1
   ·exact .inl ⟨h1,hmk k h1⟩
   ·subst h1;right;rw [hmn];exact hfresh
 have hHH:HOK w' Z2 m2 (H++[BE (res xs)]):=by
  refine ⟨?_,?_,?_,?_⟩
  ·intro b hb
   rcases hZ2 b hb with h | h
   ·exact Nat.lt_of_lt_of_le (hH.zlt b h) hE'.size
   ·exact h.2
  ·intro k hk hz
   rcases hsplit k hk with h1 | h1
   ·rw [hmk k h1] at hz
    have:=hH.blk_lt h1
    rcases hZ2 _ hz with h | h
    ·exact hH.apart k h1 h
    ·omega
   ·subst h1
    rw [hmn] at hz
    rcases hz with hz | ⟨o',hne,hlv,e⟩
    ·exact hA'.hok.apart o hlo hz
    ·exact hne (hA'.hok.inj o' o hlv hlo e)
  ·intro k k' hk hk' e
   rcases hsplit k hk with h1 | h1 <;> rcases hsplit k' hk' with h2 | h2
   ·rw [hmk k h1,hmk k' h2] at e;exact hH.inj k k' h1 h2 e
   ·subst h2;rw [hmk k h1,hmn] at e;have:=hH.blk_lt h1;omega
   ·subst h1;rw [hmk k' h2,hmn] at e;have:=hH.blk_lt h2;omega
   ·rw [h1,h2]
  ·intro k ob hk
   by_cases hlt:k<H.length
   ·rw [List.getElem?_append_left hlt] at hk
    by_cases hd:ob.live=true
    ·rw [hmk k ⟨_,hk,hd⟩]
     have:=(hH.ob k ob hk).mono hEE (hold _ (hH.blk_lt ⟨_,hk,hd⟩))
     exact this
    ·cases ob <;> simp_all [Hg,HO.live]
   ·rw [List.getElem?_append_right (by omega)] at hk
    have hk0:=(List.getElem?_eq_some_iff.1 hk).1
    obtain rfl:k=H.length:=by simp at hk0;omega
    simp at hk;subst hk
    rw [hmn]
    obtain ⟨c1,el,fr,q1,q2,q3,q4⟩:=hA'.hok.ob o _ ho
    obtain ⟨hl,hg⟩:=Bf cu _ hcu
    refine ⟨c1,el,fr,q1,q2,by rw [List.length_map,← hol,← hl];exact q3,fun j u hu=>?_⟩
    rw [List.getElem?_map] at hu
    cases hzj:(res xs)[j]? with
    | none=>rw [hzj] at hu;cases hu
    | some z =>
     rw [hzj] at hu;cases hu
     obtain ⟨y,hxj,hyz⟩:=hog j z hzj
     have hj:=(List.getElem?_eq_some_iff.1 hxj).1
     have huj:cu[j]?=some cu[j]:=List.getElem?_eq_getElem (by omega)
     obtain ⟨v,hv,hr⟩:=q4 j _ huj
     exact ⟨v,hv,.f _ _ (hyz _ _ _ (data _ _ _ hr (hg j _ y huj hxj)))⟩
 have hval:a'.tmps.getD t undef=.pointer (some ⟨m' o,0,none⟩):=by
  have hr:=By hA' (.tmp t)
  simp only [St.ev,Act.eval] at hr
  rw [htx] at hr
  cases hr with | hp _ _ _ _ _ hvv=>exact hvv _ ho
 have hres:(results fn a'.tmps).run P w'=.ok (.pointer (some ⟨m' o,0,none⟩)) w':=by
  unfold results
  rw [hrs]
  simp [Result.andThen,← hval]
 refine ⟨.returned _,w',{ b.at a' todo with mode:=.returning },⟨Z2,m2,hEE,hHH,?_⟩,?_,rfl,rfl,hd,rfl,fn,hf,hres⟩
 ·refine .hp _ _ _ rfl ⟨BE (res xs),by simp,by simp [BE]⟩ fun cs' _=>by rw [hmn]
 ·rw [henter];exact hs
def slF {α:Type} (enc:α→F) (d:α) (l:List α):F:=.sl l.length fun i=>enc (l.getD i d)
def Ci (is:F→Bool):F→Bool
 | .sl n g=>(List.range n).all fun i=>is (g i)
 | _=>false
def D8 {α:Type} (un:F→α):F→List α
 | .sl n g=>(List.range n).map fun i=>un (g i)
 | _=>[]
theorem Jp {α:Type} {enc:α→F} {un:F→α} {d:α} (h:∀ a,un (enc a)=a) (l:List α):D8 un (slF enc d l)=l:=by
 simp only [D8,slF,h]
 apply List.ext_getElem
 ·simp
 ·intro i h1 h2
  simp [List.getD,List.getElem?_eq_getElem h2]
theorem KG {α:Type} {enc:α→F} {is:F→Bool} {d:α} (l:List α) (h:∀ a ∈ l,is (enc a)=true):Ci is (slF enc d l)=true:=by
 simp only [Ci,slF,List.all_eq_true,List.mem_range]
 intro i hi
 rw [show l.getD i d=l[i] by simp [List.getD,List.getElem?_eq_getElem hi]]
 exact h _ (List.getElem_mem hi)
theorem MB {α:Type} (un:F→α) (n:Nat) (g:Nat→F):(D8 un (.sl n g)).length=n:=by simp [D8]
theorem MH {α:Type} {enc:α→F} {un:F→α} {is:F→Bool} {d:α} (h:∀ x,is x=true→enc (un x)=x) {x:F} (hx:Ci is x=true):FLe x (slF enc d (D8 un x))∧FLe (slF enc d (D8 un x)) x:=by
 cases x with
 | sl n g =>
  simp only [Ci,List.all_eq_true,List.mem_range] at hx
  have e:∀ j,j<n→enc ((D8 un (.sl n g)).getD j d)=g j:=fun j hj=>by
   have:(D8 un (.sl n g)).getD j d=un (g j):=by simp [D8,List.getD,hj]
   rw [this,h _ (hx j hj)]
  have hl:=MB un n g
  unfold slF
  rw [hl]
  exact ⟨FLe.sl fun j hj=>(e j hj).symm,FLe.sl fun j hj=>e j hj⟩
 | _=>simp [Ci] at hx
theorem sl_at {α:Type} {enc:α→F} {un:F→α} {is:F→Bool} (d:α) (h:∀ x,is x=true→enc (un x)=x) {n:Nat} {g:Nat→F} (hx:Ci is (.sl n g)=true) {j:Nat} (hj:j<n):g j=enc ((D8 un (.sl n g)).getD j d):=by
 simp only [Ci,List.all_eq_true,List.mem_range] at hx
 have:(D8 un (.sl n g)).getD j d=un (g j):=by simp [D8,List.getD,hj]
 rw [this,h _ (hx j hj)]
theorem HLe.nil:HLe [] []:=⟨rfl,fun o ob ob' h=>by simp at h⟩
theorem HLe.cons {a b:HO} {H H':List HO} (h:G2 a b) (t:HLe H H'):HLe (a :: H) (b :: H'):=by
 refine ⟨by simp [t.1],fun o ob ob' ho ho'=>?_⟩
 cases o with
 | zero=>simp at ho ho';subst ho;subst ho';exact h
 | succ o=>exact t.2 o ob ob' (by simpa using ho) (by simpa using ho')
theorem G2.refl (a:HO):G2 a a:=.inl rfl
theorem G2.arr {sz n:Nat} {g g':Nat→F} (h:∀ j,j<n→g j=g' j):G2 (.arr sz n g) (.arr sz n g'):=.inr ⟨sz,n,g,g',rfl,rfl,h⟩
def AB (s:ByteArray):F:=.sl s.size fun i=>.int .u8 (B5 s i)
def QA:F→Bool
 | .int .u8 b=>decide (0≤b)&&decide (b<256)
 | _=>false
def Af (x:F):Bool:=Ci QA x
def AA:F→ByteArray
 | .sl n g=>Gg n g
 | _=>⟨#[]⟩
theorem Qg (s:ByteArray) (i:Int):0≤B5 s i∧B5 s i<256:=by
 unfold B5
 have:=UInt8.toNat_lt (s.data.toList.getD i.toNat 0)
 omega
theorem A8 (s:ByteArray):Af (AB s)=true:=by
 simp only [Af,Ci,AB,List.all_eq_true,List.mem_range]
 intro i _
 obtain ⟨h1,h2⟩:=Qg s i
 simp [QA,h1,h2]
theorem IA (n:Nat) (g:Nat→F):(Gg n g).data.toList=(List.range n).map fun i=>match g i with | .int .u8 b=>UInt8.ofNat b.toNat | _=>0:=rfl
theorem RG (n:Nat) (g:Nat→F):(Gg n g).size=n:=by
 have:=congrArg List.length (IA n g)
 rw [List.length_map,List.length_range] at this
 exact this
theorem A3 (s:ByteArray):AA (AB s)=s:=by
 have:(Gg s.size fun i=>.int .u8 (B5 s i)).data=s.data:=by
  apply Array.toList_inj.1
  rw [IA]
  apply List.ext_getElem
  ·rw [List.length_map,List.length_range];rfl
  ·intro i h1 h2
   simp only [List.getElem_map,List.getElem_range,B5]
   have:s.data.toList.getD (i:Int).toNat 0=s.data.toList[i]:=by simp [List.getD,List.getElem?_eq_getElem h2]
   rw [this]
   simp
 exact congrArg ByteArray.mk this
theorem CC {x:F} (hx:Af x=true):FLe x (AB (AA x))∧FLe (AB (AA x)) x:=by
 cases x with
 | sl n g =>
  simp only [Af,Ci,List.all_eq_true,List.mem_range] at hx
  have e:∀ j:Nat,j<n→F.int .u8 (B5 (Gg n g) j)=g j:=fun j hj=>by
   have h1:=hx j hj
   unfold B5
   have hlen:j<((List.range n).map fun i=>match g i with | .int .u8 b=>UInt8.ofNat b.toNat | _=>0).length:=by simpa using hj
   rw [IA]
   simp only [Int.toNat_natCast,List.getD,List.getElem?_eq_getElem hlen,List.getElem_map,List.getElem_range,Option.getD_some]
   cases hg:g j with
   | int k b =>
    rw [hg] at h1
    cases k <;> simp [QA] at h1
    simp only [F.int.injEq,true_and]
    obtain ⟨h2,h3⟩:=h1
    rw [UInt8.toNat_ofNat']
    omega
   | _=>rw [hg] at h1;simp [QA] at h1
  unfold AB AA
  rw [RG]
  exact ⟨FLe.sl fun j hj=>(e j hj).symm,FLe.sl fun j hj=>e j hj⟩
 | _=>simp [Af,Ci] at hx
end
end Go.Proofs.YtlefbocihikaoaaGreat.R
namespace Go.Proofs.YtlefbocihikaoaaGreat.R
open Go Go.ChangeShapes Go.WideShapes Go.RowKit
section
variable {H:Type} {enc:TypeId × Value→H} {P:Program} {W:World} {base:Nat} {t e:TypeId} {v:Value} {d:DataW H} {ps:List MemPlace}
theorem cell_lt {a:Addr} {x:Value} (h:W.cell? a=some x):a.block<W.heap.size:=by
 unfold World.cell? at h
 cases hb:W.heap[a.block]? with
 | none=>rw [hb] at h;simp at h
 | some o=>exact (Array.getElem?_eq_some_iff.1 hb).1
theorem Yz {k:IntKind} (ht:P.underlying t=some (.slice e)) (he:P.underlying e=some (.int k)) (hc:P.cellsOf e=1) (hval:Value.okWide P W .any base t v) (h:DataW.Trod enc P W 0 (fun _=>true) true t v d ps) :
  ∃ zs:List Int,(∀ n ∈ zs,(Lit.int k n).wf=true)∧zs.length≤maxLen∧RepF W (fun b=>b<W.heap.size) (.sl zs.length fun i=>.int k (zs.getD i 0)) v:=by
 obtain ⟨a1,len,cap,rfl⟩:=okWide_slice ht hval
 obtain ⟨fuel,hf⟩:=h
 rcases open_ints ht he hc hf with ⟨hcs,hx⟩ | ⟨a,len',cap',zs,hcs,_,hl,hm,hz,hx,hcell,hwz⟩
 ·simp [Value.cells] at hcs
  obtain ⟨rfl,rfl,rfl⟩:=hcs
  exact ⟨[],by simp,Nat.zero_le _,.sl 0 _ none 0 1 ⟨0,0,none⟩ (fun _=>undef) (Nat.le_refl _) (fun i hi=>by omega) (fun i j u hi=>by omega) (fun h=>absurd rfl h) (fun i j u hi=>by omega) (fun i j u hi=>by omega)⟩
 ·simp [Value.cells] at hcs
  obtain ⟨rfl,rfl,rfl⟩:=hcs
  simp only [if_true] at hz
  have hlen:(zs.take len).length=len:=by simp;omega
  refine ⟨zs.take len,fun n hn=>hwz n (List.mem_of_mem_take hn),by rw [hlen];omega,?_⟩
  rw [hlen]
  refine .sl len _ (some a) cap 1 a (fun j=>.int k (zs.getD j 0)) hl (fun i hi=>rfl) (fun i j u hi hu=>?_) (fun h0=>?_) (fun i j u hi hu=>?_) (fun i j u hi hu=>?_)
  ·cases j with
   | zero=>simp [F.cells] at hu;subst hu;rfl
   | succ j=>simp [F.cells] at hu
  ·have h1:=hcell 0 (by omega)
   have hsp:a.spot=none:=by
    have:=World.cell?_spot h1
    simpa [Addr.add] using this
   refine ⟨rfl,?_,hsp⟩
   have:=cell_lt h1
   simpa [Addr.add] using this
  ·cases j with
   | zero =>
    have h1:=hcell i (by omega)
    have hsp:a.spot=none:=by
     have:=World.cell?_spot (hcell 0 (by omega))
     simpa [Addr.add] using this
    have e1:a.add i=⟨a.block,a.off+(i*1+0),none⟩:=by
     rw [Ch a hsp];simp
    rw [← e1,h1]
    simp
   | succ j=>simp [F.cells] at hu
  ·cases j with
   | zero =>
    simp [F.cells] at hu;subst hu
    have e2:(zs.take len).getD i 0=zs.getD (i*1+0) 0:=by
     simp only [Nat.mul_one,Nat.add_zero,List.getD]
     rw [List.getElem?_take,if_pos hi]
    rw [← List.getD_eq_getElem?_getD,e2]
    exact .int k _
   | succ j=>simp [F.cells] at hu
theorem Wg (ht:P.underlying t=some (.slice e)) (he:P.underlying e=some (.int .u8)) (hc:P.cellsOf e=1) (hval:Value.okWide P W .any base t v) (h:DataW.Trod enc P W 0 (fun _=>true) true t v d ps) :
  ∃ x,Af x=true∧RepF W (fun b=>b<W.heap.size) x v:=by
 obtain ⟨zs,h1,_,h2⟩:=Yz ht he hc hval h
 refine ⟨_,?_,h2⟩
 simp only [Af,Ci,List.all_eq_true,List.mem_range]
 intro i hi
 have hmem:zs.getD i 0 ∈ zs:=by
  rw [show zs.getD i 0=zs[i] by simp [List.getD,List.getElem?_eq_getElem hi]]
  exact List.getElem_mem hi
 have hb:=h1 _ hmem
 have:0≤zs.getD i 0∧zs.getD i 0<256:=by
  have:=range_u8 h1 i
  rw [← List.getD_eq_getElem?_getD] at this
  omega
 simp only [QA,Bool.and_eq_true,decide_eq_true_eq]
 exact this
end
def AR (fn:Func):Code:=match fn.body with | some c=>c | none=>.skip
def at_ (fn:Func) (id:Nat):List Item:=(I6 id (AR fn) []).getD []
theorem Ap:Gl Tryz.prog (It Tryz.prog):=⟨by kernel_rfl,fun _ _ h=>h⟩
def env0:Env:=fun _=>.none
theorem D3:Ax Tryz.prog env0:=fun _=>trivial
def EK {α:Type} (enc:α→F) (d:α) (n:Nat) (g:Nat→F) (o:List α):Prop:=n=o.length∧∀ j,j<n→g j=enc (o.getD j d)
theorem EK.nil {α:Type} {enc:α→F} {d:α} {g:Nat→F}:EK enc d 0 g []:=⟨rfl,fun j h=>by omega⟩
theorem EK.push {α:Type} {enc:α→F} {d:α} {n:Nat} {g:Nat→F} {o:List α} (h:EK enc d n g o) (x:α):EK enc d (n+1) (fun j=>if j<n then g j else enc x) (o++[x]):=by
 obtain ⟨h1,h2⟩:=h
 refine ⟨by simp [h1],fun j hj=>?_⟩
 by_cases hjn:j<n
 ·simp only [if_pos hjn,h2 j hjn,List.getD]
  rw [List.getElem?_append_left (by omega)]
 ·obtain rfl:j=n:=by omega
  simp only [if_neg hjn,List.getD]
  rw [List.getElem?_append_right (by omega),h1]
  simp
theorem EK.le {α:Type} {enc:α→F} {d:α} {n:Nat} {g:Nat→F} {o:List α} (h:EK enc d n g o):FLe (.sl n g) (slF enc d o):=by
 obtain ⟨rfl,h2⟩:=h
 exact FLe.sl h2
theorem FLe.tup {xs ys:List F} (h:Ee xs ys):FLe (.tup xs) (.tup ys):=by
 intro w Z v hv
 cases hv with
 | tup _ vs hl hr =>
  obtain ⟨h1,h2⟩:=h.get
  refine .tup ys vs (by rw [← h1];exact hl) fun j y v hy hv=>?_
  obtain ⟨x,hx,hle⟩:=h2 j y hy
  exact hle _ _ _ (hr j x v hx hv)
def i64F (n:Int):F:=.int .i64 n
def W4 (l:List Int):F:=slF i64F 0 l
theorem Ai.sp {P:Program} {f:FuncId} {pre:List F→Bool} {res:List F→F} (h:Ai P f pre res):EJ P f (.pure pre res):=h
def Env.add (C:Env) (f:FuncId) (s:Sp):Env:=fun g=>match Nat.beq g f with
 | true=>s
 | false=>C g
theorem Env.add_ok {C:Env} (hC:Ax Tryz.prog C) {f:FuncId} {s:Sp} (h:EJ Tryz.prog f s):Ax Tryz.prog (C.add f s):=by
 intro g
 unfold Env.add
 split
 ·rename_i e
  have:=Nat.eq_of_beq_eq_true e
  subst this
  exact h
 ·exact hC g
def val (B:Nat):List Nat→Nat
 | []=>0
 | w :: ws=>w+B*val B ws
def okD (B:Nat) (l:List Nat):Prop:=∀ w ∈ l,w<B
def DH (l:List Nat):Prop:=l.getLast? ≠ some 0
theorem Ir (B:Nat):∀ a b:List Nat,val B (a++b)=val B a+B ^ a.length*val B b
 | [],b=>by simp [val]
 | x :: a,b=>by
  simp only [List.cons_append,val,List.length_cons,Ir B a b,Nat.pow_succ,Nat.mul_add]
  rw [Nat.mul_comm (B ^ a.length) B,Nat.mul_assoc]
  omega
theorem Jo {B:Nat}:∀ (l:List Nat),okD B l→val B l<B ^ l.length
 | [],_=>by simp [val]
 | x :: l,h=>by
  have h1:=h x (by simp)
  have h2:=Jo l fun w hw=>h w (by simp [hw])
  simp only [val,List.length_cons,Nat.pow_succ]
  have h3:B*(val B l+1)≤B*B ^ l.length:=Nat.mul_le_mul_left B h2
  rw [Nat.mul_comm (B ^ l.length) B]
  rw [Nat.mul_add] at h3
  omega
theorem Kj {B:Nat} (hB:0<B):∀ (l:List Nat),DH l→l ≠ []→0<val B l
 | [],_,h=>absurd rfl h
 | [x],ht,_=>by
  simp only [DH,List.getLast?_singleton,ne_eq,Option.some.injEq] at ht
  simp only [val];omega
 | x :: y :: l,ht,_=>by
  have h1:DH (y :: l):=by
   simp only [DH,List.getLast?_cons_cons] at ht ⊢
   exact ht
  have:=Kj hB (y :: l) h1 (by simp)
  simp only [val] at this ⊢
  have h2:0<B*(y+B*val B l):=Nat.mul_pos hB this
  omega
theorem NC {x:Nat} {l:List Nat} (h:DH (x :: l)):DH l:=by
 cases l with
 | nil=>simp [DH]
 | cons y l=>simpa [DH,List.getLast?_cons_cons] using h
theorem aF {B:Nat} (hB:1<B):∀ (a b:List Nat),okD B a→okD B b→DH a→DH b→val B a=val B b→a=b
 | [],[],_,_,_,_,_=>rfl
 | [],y :: b,_,_,_,hb,h=>by
  have:=Kj (B:=B) (by omega) (y :: b) hb (by simp)
  rw [← h] at this;simp [val] at this
 | x :: a,[],_,_,ha,_,h=>by
  have:=Kj (B:=B) (by omega) (x :: a) ha (by simp)
  rw [h] at this;simp [val] at this
 | x :: a,y :: b,oa,ob,ha,hb,h=>by
  have hx:=oa x (by simp)
  have hy:=ob y (by simp)
  simp only [val] at h
  have e1:x=y:=by
   have:=congrArg (· % B) h
   simp only [Nat.add_mul_mod_self_left,Nat.mod_eq_of_lt hx,Nat.mod_eq_of_lt hy] at this
   exact this
  subst e1
  have e2:val B a=val B b:=by
   have h3:B*val B a=B*val B b:=by omega
   exact Nat.eq_of_mul_eq_mul_left (by omega) h3
  rw [aF hB a b (fun w hw=>oa w (by simp [hw])) (fun w hw=>ob w (by simp [hw])) (NC ha) (NC hb) e2]
def AM (B n:Nat):List Nat:=if h:1<B∧n ≠ 0 then (n % B) :: AM B (n / B) else []
termination_by n
decreasing_by exact Nat.div_lt_self (by omega) h.1
theorem BU (B:Nat):AM B 0=[]:=by rw [AM];simp
theorem KU {B n:Nat} (hB:1<B) (hn:n ≠ 0):AM B n=(n % B) :: AM B (n / B):=by rw [AM,dif_pos ⟨hB,hn⟩]
theorem DE {B:Nat} (hB:1<B) (n:Nat):val B (AM B n)=n:=by
 induction n using Nat.strongRecOn with
 | _ n ih =>
  by_cases hn:n=0
  ·subst hn;rw [BU];rfl
  ·rw [KU hB hn,val,ih _ (Nat.div_lt_self (by omega) hB)]
   exact Nat.mod_add_div n B
theorem BH {B:Nat} (hB:1<B) (n:Nat):okD B (AM B n):=by
 induction n using Nat.strongRecOn with
 | _ n ih =>
  by_cases hn:n=0
  ·subst hn;rw [BU];intro w hw;cases hw
  ·rw [KU hB hn]
   intro w hw
   rcases List.mem_cons.1 hw with rfl | hw
   ·exact Nat.mod_lt _ (by omega)
   ·exact ih _ (Nat.div_lt_self (by omega) hB) w hw
theorem B8 {B:Nat} (hB:1<B) (n:Nat):DH (AM B n):=by
 induction n using Nat.strongRecOn with
 | _ n ih =>
  by_cases hn:n=0
  ·subst hn;rw [BU];simp [DH]
  ·rw [KU hB hn]
   have h1:=ih _ (Nat.div_lt_self (by omega) hB)
   by_cases h0:n / B=0
   ·rw [h0,BU]
    have:n<B:=by
     rcases Nat.lt_or_ge n B with h | h
     ·exact h
     ·have:=Nat.div_pos h (by omega);omega
    simp only [DH,List.getLast?_singleton,ne_eq,Option.some.injEq,Nat.mod_eq_of_lt this]
    exact hn
   ·rw [KU hB h0] at h1 ⊢
    simp only [DH,List.getLast?_cons_cons] at h1 ⊢
    exact h1
theorem Mx {B:Nat} (hB:1<B) {l:List Nat} (h1:okD B l) (h2:DH l):AM B (val B l)=l :=
 aF hB _ _ (BH hB _) h1 (B8 hB _) h2 (DE hB _)
def CT:List Nat→List Nat
 | []=>[]
 | x :: l=>match CT l with
  | []=>if x=0 then [] else [x]
  | y :: m=>x :: y :: m
theorem RS (B:Nat):∀ l:List Nat,val B (CT l)=val B l
 | []=>rfl
 | x :: l=>by
  have ih:=RS B l
  simp only [CT]
  cases h:CT l with
  | nil =>
   rw [h] at ih
   have h0:val B l=0:=ih.symm
   by_cases hx:x=0
   ·simp [hx,val,h0]
   ·simp [hx,val,h0]
  | cons y m=>rw [h] at ih;simp only [val] at ih ⊢;rw [ih]
theorem Rx {B:Nat}:∀ l:List Nat,okD B l→okD B (CT l)
 | [],h=>h
 | x :: l,h=>by
  have ih:=Rx l fun w hw=>h w (by simp [hw])
  simp only [CT]
  cases h2:CT l with
  | nil =>
   by_cases hx:x=0
   ·simp [hx,okD]
   ·simp only [if_neg hx];intro w hw;simp at hw;subst hw;exact h w (by simp)
  | cons y m =>
   rw [h2] at ih
   intro w hw
   rcases List.mem_cons.1 hw with rfl | hw
   ·exact h w (by simp)
   ·exact ih w hw
theorem OE:∀ l:List Nat,DH (CT l)
 | []=>by simp [CT,DH]
 | x :: l=>by
  have ih:=OE l
  simp only [CT]
  cases h2:CT l with
  | nil =>
   by_cases hx:x=0
   ·simp [hx,DH]
   ·simp [hx,DH]
  | cons y m =>
   rw [h2] at ih
   simp only [DH,List.getLast?_cons_cons] at ih ⊢
   exact ih
theorem HY {B:Nat} (hB:1<B) {l:List Nat} (h:okD B l):CT l=AM B (val B l):=by
 rw [← RS B l,Mx hB (Rx l h) (OE l)]
def RI (B:Nat):List Nat→List Nat→Nat→List Nat
 | [],_,c=>[c]
 | x :: a,b,c=>((x+b.headD 0+c) % B) :: RI B a b.tail ((x+b.headD 0+c) / B)
theorem PF (B:Nat) (b:List Nat):b.headD 0+B*val B b.tail=val B b:=by cases b <;> simp [val]
theorem VV (B:Nat):∀ (a b:List Nat) (c:Nat),b.length≤a.length→val B (RI B a b c)=val B a+val B b+c
 | [],b,c,h=>by
  have:b=[]:=List.eq_nil_of_length_eq_zero (by simpa using h)
  subst this
  simp [RI,val]
 | x :: a,b,c,h=>by
  have ih:=VV B a b.tail ((x+b.headD 0+c) / B) (by simp at h ⊢;omega)
  simp only [RI,val,ih]
  have h1:=Nat.mod_add_div (x+b.headD 0+c) B
  have h2:=PF B b
  simp only [Nat.mul_add]
  omega
theorem Wo {B:Nat} (hB:1<B):∀ (a b:List Nat) (c:Nat),okD B a→okD B b→c≤1→okD B (RI B a b c)
 | [],b,c,_,_,hc=>by intro w hw;simp [RI] at hw;omega
 | x :: a,b,c,ha,hb,hc=>by
  have hx:=ha x (by simp)
  have hy:b.headD 0<B:=by
   cases b with
   | nil=>simp;omega
   | cons y b=>exact hb y (by simp)
  have ih:=Wo hB a b.tail ((x+b.headD 0+c) / B) (fun w hw=>ha w (by simp [hw])) (fun w hw=>hb w (List.mem_of_mem_tail hw)) (by
   have:x+b.headD 0+c<B*2:=by omega
   have:=Nat.div_lt_of_lt_mul this
   omega)
  intro w hw
  simp only [RI,List.mem_cons] at hw
  rcases hw with rfl | hw
  ·exact Nat.mod_lt _ (by omega)
  ·exact ih w hw
def Gh (B:Nat):List Nat→List Nat→Nat→List Nat
 | [],_,_=>[]
 | x :: a,b,c=>((x+B-b.headD 0-c) % B) :: Gh B a b.tail (if x<b.headD 0+c then 1 else 0)
theorem Jn {B:Nat} (hB:1<B):∀ (a b:List Nat) (c:Nat),okD B a→okD B b→c≤1→b.length≤a.length→val B b+c≤val B a→val B (Gh B a b c)+val B b+c=val B a
 | [],b,c,_,_,_,h,hl=>by
  have:b=[]:=List.eq_nil_of_length_eq_zero (by simpa using h)
  subst this
  simp [Gh,val] at hl ⊢
  exact hl
 | x :: a,b,c,ha,hb,hc,h,hl=>by
  have hx:=ha x (by simp)
  have hy:b.headD 0<B:=by
   cases b with
   | nil=>simp;omega
   | cons y b=>exact hb y (by simp)
  have h2:=PF B b
  simp only [val] at hl ⊢
  have oa:okD B a:=fun w hw=>ha w (by simp [hw])
  have ob:okD B b.tail:=fun w hw=>hb w (List.mem_of_mem_tail hw)
  have hlen:b.tail.length≤a.length:=by simp at h ⊢;omega
  simp only [Gh,val]
  by_cases hlt:x<b.headD 0+c
  ·rw [if_pos hlt]
   have hle:val B b.tail+1≤val B a:=by
    rcases Nat.lt_or_ge (val B b.tail) (val B a) with h3 | h3
    ·omega
    ·exfalso
     have:=Nat.mul_le_mul_left B h3
     omega
   have ih:=Jn hB a b.tail 1 oa ob (by omega) hlen hle
   have e:(x+B-b.headD 0-c) % B=x+B-b.headD 0-c:=Nat.mod_eq_of_lt (by omega)
   rw [e,← ih]
   simp only [Nat.mul_add]
   omega
  ·rw [if_neg hlt]
   have hle:val B b.tail+0≤val B a:=by
    rcases Nat.lt_or_ge (val B a) (val B b.tail) with h3 | h3
    ·exfalso
     have:=Nat.mul_le_mul_left B (show val B a+1≤val B b.tail by omega)
     rw [Nat.mul_add] at this
     omega
    ·omega
   have ih:=Jn hB a b.tail 0 oa ob (by omega) hlen hle
   have e:(x+B-b.headD 0-c) % B=x-b.headD 0-c:=by
    have:x+B-b.headD 0-c=(x-b.headD 0-c)+B:=by omega
    rw [this,Nat.add_mod_right,Nat.mod_eq_of_lt (by omega)]
   rw [e,← ih]
   simp only [Nat.mul_add]
   omega
theorem J8 {B:Nat} (hB:1<B):∀ (a b:List Nat) (c:Nat),okD B (Gh B a b c)
 | [],b,c=>by intro w hw;simp [Gh] at hw
 | x :: a,b,c=>by
  intro w hw
  simp only [Gh,List.mem_cons] at hw
  rcases hw with rfl | hw
  ·exact Nat.mod_lt _ (by omega)
  ·exact J8 hB _ _ _ w hw
theorem MA {B:Nat} (hB:1<B):∀ (k:Nat) (a b:List Nat),okD B a→okD B b→a.length=b.length→k<a.length→(∀ j,k<j→j<a.length→a.getD j 0=b.getD j 0)→a.getD k 0<b.getD k 0→val B a<val B b
 | 0,x :: a,y :: b,oa,ob,hl,hk,he,h=>by
  have e:a=b:=by
   apply List.ext_getElem (by simpa using hl)
   intro i h1 h2
   have:=he (i+1) (by omega) (by simp;omega)
   simpa [List.getD,List.getElem?_eq_getElem h1,List.getElem?_eq_getElem h2] using this
  subst e
  simp only [List.getD_cons_zero] at h
  simp only [val]
  omega
 | k+1,x :: a,y :: b,oa,ob,hl,hk,he,h=>by
  have ih:=MA hB k a b (fun w hw=>oa w (by simp [hw])) (fun w hw=>ob w (by simp [hw])) (by simpa using hl) (by simpa using hk) (fun j h1 h2=>by
   have:=he (j+1) (by omega) (by simp;omega)
   simpa using this) (by simpa using h)
  have hx:=oa x (by simp)
  simp only [val]
  have:=Nat.mul_le_mul_left B (show val B a+1≤val B b from ih)
  rw [Nat.mul_add] at this
  omega
 | 0,[],b,_,_,_,hk,_,_=>by simp at hk
 | k+1,[],b,_,_,_,hk,_,_=>by simp at hk
 | 0,_ :: _,[],_,_,hl,_,_,_=>by simp at hl
 | k+1,_ :: _,[],_,_,hl,_,_,_=>by simp at hl
theorem DW {B:Nat} (hB:1<B) {a b:List Nat} (oa:okD B a) (hb:DH b) (h:a.length<b.length):val B a<val B b:=by
 have h1:=Jo a oa
 have hne:b ≠ []:=by rintro rfl;simp at h
 have h2:B ^ (b.length-1)≤val B b:=by
  clear h h1 oa
  induction b with
  | nil=>exact absurd rfl hne
  | cons y b ih =>
   cases b with
   | nil =>
    have:=Kj (B:=B) (by omega) [y] hb (by simp)
    show B ^ 0≤_
    rw [Nat.pow_zero]
    exact this
   | cons z b =>
    have:=ih (NC hb) (by simp)
    simp only [List.length_cons,Nat.add_sub_cancel] at this ⊢
    rw [Nat.pow_succ,val]
    have:=Nat.mul_le_mul_left B this
    rw [Nat.mul_comm (B ^ b.length) B]
    omega
 have h3:B ^ a.length≤B ^ (b.length-1):=Nat.pow_le_pow_right (by omega) (by omega)
 omega
theorem L9 (B:Nat):∀ (l:List Nat) (i v:Nat),i<l.length→val B (l.set i v)+B ^ i*l.getD i 0=val B l+B ^ i*v
 | [],i,v,h=>by simp at h
 | x :: l,0,v,h=>by simp [val];omega
 | x :: l,i+1,v,h=>by
  have ih:=L9 B l i v (by simpa using h)
  simp only [List.set_cons_succ,val,List.getD_cons_succ,Nat.pow_succ]
  have h2:=congrArg (B * ·) ih
  simp only [Nat.mul_add] at h2
  rw [Nat.mul_comm (B ^ i) B,Nat.mul_assoc,Nat.mul_assoc]
  omega
theorem MZ {B:Nat} {l:List Nat} {i v:Nat} (h:okD B l) (hv:v<B):okD B (l.set i v):=by
 intro w hw
 rcases List.mem_or_eq_of_mem_set hw with h1 | rfl
 ·exact h w h1
 ·exact hv
theorem Ki (B n:Nat):val B (List.replicate n 0)=0:=by
 induction n with
 | zero=>rfl
 | succ n ih=>simp [List.replicate_succ,val,ih]
theorem Wp {B x y o c:Nat} (hB:1<B) (hx:x<B) (hy:y<B) (ho:o<B) (hc:c<B):(x*y+o+c) / B<B:=by
 have h1:x*y≤(B-1)*(B-1):=Nat.mul_le_mul (by omega) (by omega)
 have h2:(B-1)*(B-1)+(B-1)+(B-1)<B*B:=by
  obtain ⟨k,rfl⟩:∃ k,B=k+1:=⟨B-1,by omega⟩
  simp only [Nat.add_sub_cancel]
  rw [Nat.add_mul,Nat.mul_add]
  omega
 exact Nat.div_lt_of_lt_mul (by omega)
def D5 (B b:Nat):List Nat→List Nat × Nat
 | []=>([],0)
 | x :: a=>(((D5 B b a).2*B+x) / b :: (D5 B b a).1,((D5 B b a).2*B+x) % b)
theorem KT (B:Nat) {b:Nat} (hb:0<b):∀ a:List Nat,val B (D5 B b a).1*b+(D5 B b a).2=val B a∧(D5 B b a).2<b
 | []=>by simp [D5,val,hb]
 | x :: a=>by
  obtain ⟨h1,h2⟩:=KT B hb a
  refine ⟨?_,Nat.mod_lt _ hb⟩
  simp only [D5,val]
  have h3:=Nat.div_add_mod ((D5 B b a).2*B+x) b
  rw [← h1]
  generalize (D5 B b a).2=r at *
  generalize val B (D5 B b a).1=q at *
  rw [Nat.add_mul,Nat.mul_add,Nat.mul_comm ((r*B+x) / b) b,Nat.mul_assoc,Nat.mul_comm B r]
  omega
theorem Tp {B b:Nat} (hb:0<b):∀ a:List Nat,okD B a→okD B (D5 B b a).1
 | [],_=>by intro w hw;simp [D5] at hw
 | x :: a,h=>by
  obtain ⟨_,h2⟩:=KT B hb a
  have hx:=h x (by simp)
  intro w hw
  simp only [D5,List.mem_cons] at hw
  rcases hw with rfl | hw
  ·refine Nat.div_lt_of_lt_mul ?_
   have:=Nat.mul_le_mul_right B (show (D5 B b a).2+1≤b from h2)
   rw [Nat.add_mul] at this
   omega
  ·exact Tp hb a (fun w hw=>h w (by simp [hw])) w hw
theorem QZ (B b:Nat):∀ a:List Nat,(D5 B b a).1.length=a.length
 | []=>rfl
 | x :: a=>by simp [D5,QZ B b a]
theorem QY {a b q r:Nat} (h:q*b+r=a) (hr:r<b):q=a / b∧r=a % b:=by
 have e:a=r+q*b:=by omega
 refine ⟨?_,?_⟩
 ·rw [e,Nat.add_mul_div_right _ _ (by omega),Nat.div_eq_of_lt hr];omega
 ·rw [e,Nat.add_mul_mod_self_right,Nat.mod_eq_of_lt hr]
theorem qF {a b rest q i:Nat} (h:a=rest+b*q) (hr:rest<b*2 ^ (i+1)) (hs:b*2 ^ i≤rest):a=(rest-b*2 ^ i)+b*(q+2 ^ i)∧rest-b*2 ^ i<b*2 ^ i:=by
 rw [Nat.pow_succ,← Nat.mul_assoc] at hr
 rw [Nat.mul_add]
 omega
theorem XF (x y:Nat):Nat.gcd x y=Nat.gcd y (x % y):=by rw [Nat.gcd_comm x y,Nat.gcd_rec y x,Nat.gcd_comm]
theorem VP (n:Nat):IntKind.u64.wrap (n:Int)=((n % 18446744073709551616:Nat):Int):=by rw [IntKind.wrap_u64];omega
theorem CJ {n:Nat} (h:n<18446744073709551616):IntKind.u64.wrap (n:Int)=(n:Int):=by rw [VP,Nat.mod_eq_of_lt h]
theorem IV (n:Nat):BitVec.ofInt 64 (n:Int)=BitVec.ofNat 64 n:=by
 apply BitVec.eq_of_toNat_eq
 rw [BitVec.toNat_ofInt,BitVec.toNat_ofNat]
 omega
theorem bOr (a b:Int):Bz .or .u64 a b=IntKind.u64.wrap ((BitVec.ofInt 64 a ||| BitVec.ofInt 64 b).toNat:Int):=rfl
theorem bAnd (a b:Int):Bz .and .u64 a b=IntKind.u64.wrap ((BitVec.ofInt 64 a &&& BitVec.ofInt 64 b).toNat:Int):=rfl
theorem bXor (a b:Int):Bz .xor .u64 a b=IntKind.u64.wrap ((BitVec.ofInt 64 a ^^^ BitVec.ofInt 64 b).toNat:Int):=rfl
def YM (x y:F):Prop:=FLe x y∧FLe y x
theorem YM.refl (x:F):YM x x:=⟨.refl x,.refl x⟩
theorem YM.symm {x y:F} (h:YM x y):YM y x:=⟨h.2,h.1⟩
theorem FLe.trans {x y z:F} (h:FLe x y) (k:FLe y z):FLe x z:=fun w Z v hv=>k w Z v (h w Z v hv)
structure ElLe (x y:F):Prop where
 cells:Ee x.cells y.cells
 cell:(∀ u ∈ x.cells,Be u=true)→∀ u ∈ y.cells,Be u=true
theorem ElLe.refl (x:F):ElLe x x:=⟨.refl _,fun h=>h⟩
theorem FLe.slEl {n:Nat} {g g':Nat→F} (h:∀ j,j<n→ElLe (g j) (g' j)):FLe (.sl n g) (.sl n g'):=by
 intro w Z v hv
 cases hv with
 | sl _ _ A c sz a V hc hs hk hA hV hr =>
  have hget:∀ (i j:Nat) (u:F),i<n→(g' i).cells[j]?=some u→∃ x,(g i).cells[j]?=some x∧FLe x u:=fun i j u hi hu=>(h i hi).cells.get.2 j u hu
  refine .sl n g' A c sz a V hc (fun i hi=>by rw [← (h i hi).cells.get.1];exact hs i hi) (fun i j u hi hu=>?_) hA (fun i j u hi hu=>?_) (fun i j u hi hu=>?_)
  ·refine (h i hi).cell (fun u hu=>?_) u (List.mem_of_getElem? hu)
   obtain ⟨k,hk'⟩:=List.getElem?_of_mem hu
   exact hk i k u hi hk'
  ·obtain ⟨x,hx,_⟩:=hget i j u hi hu
   exact hV i j x hi hx
  ·obtain ⟨x,hx,hle⟩:=hget i j u hi hu
   exact hle _ _ _ (hr i j x hi hx)
theorem Vj {α:Type} {enc:α→F} {un:F→α} {is:F→Bool} {d:α} (h:∀ x,is x=true→ElLe x (enc (un x))∧ElLe (enc (un x)) x) {x:F} (hx:Ci is x=true):FLe x (slF enc d (D8 un x))∧FLe (slF enc d (D8 un x)) x:=by
 cases x with
 | sl n g =>
  simp only [Ci,List.all_eq_true,List.mem_range] at hx
  have e:∀ j,j<n→(D8 un (.sl n g)).getD j d=un (g j):=fun j hj=>by simp [D8,List.getD,hj]
  have hl:=MB un n g
  unfold slF
  rw [hl]
  exact ⟨FLe.slEl fun j hj=>by rw [e j hj];exact (h _ (hx j hj)).1,FLe.slEl fun j hj=>by rw [e j hj];exact (h _ (hx j hj)).2⟩
 | _=>simp [Ci] at hx
theorem FLe.agg {xs ys:List F} (h:Ee xs ys):FLe (.agg xs) (.agg ys):=by
 intro w Z v hv
 cases hv with
 | agg _ vs hl hr =>
  obtain ⟨h1,h2⟩:=h.get
  refine .agg ys vs (by rw [← h1];exact hl) fun j y v hy hv=>?_
  obtain ⟨x,hx,hle⟩:=h2 j y hy
  exact hle _ _ _ (hr j x v hx hv)
theorem ElLe.agg {xs ys:List F} (h:Ee xs ys) (hc:(∀ u ∈ xs,Be u=true)→∀ u ∈ ys,Be u=true):ElLe (.agg xs) (.agg ys):=⟨h,hc⟩
def BP (n:Nat):F:=.int .u64 (n:Int)
def R9:F→Bool | .int .u64 n=>decide (0≤n)&&decide (n<18446744073709551616) | _=>false
def PH:F→Nat | .int .u64 n=>n.toNat | _=>0
theorem jC {x:F} (h:R9 x=true):BP (PH x)=x:=by
 unfold R9 at h
 split at h
 ·simp only [Bool.and_eq_true,decide_eq_true_eq] at h
  simp only [BP,PH]
  rw [Int.toNat_of_nonneg h.1]
 ·cases h
def AO (l:List Nat):F:=slF BP 0 l
def Ay (x:F):Bool:=Ci R9 x
def AP (x:F):List Nat:=D8 PH x
theorem CS (l:List Nat):AP (AO l)=l:=Jp (fun n=>by simp [PH,BP]) l
theorem HQ {l:List Nat} (h:okD 18446744073709551616 l):Ay (AO l)=true:=KG l fun n hn=>by
 have:=h n hn
 simp only [R9,BP,Bool.and_eq_true,decide_eq_true_eq]
 omega
theorem Bw {x:F} (hx:Ay x=true):FLe x (AO (AP x))∧FLe (AO (AP x)) x:=MH (fun _ h=>jC h) hx
theorem Cg {x:F} (hx:Ay x=true):okD 18446744073709551616 (AP x):=by
 cases x with
 | sl n g =>
  simp only [Ay,Ci,List.all_eq_true,List.mem_range] at hx
  intro w hw
  simp only [AP,D8,List.mem_map,List.mem_range] at hw
  obtain ⟨i,hi,rfl⟩:=hw
  have h:=hx i hi
  unfold R9 at h
  split at h
  ·rename_i n' he
   simp only [Bool.and_eq_true,decide_eq_true_eq] at h
   rw [he]
   simp only [PH]
   omega
  ·cases h
 | _=>simp [Ay,Ci] at hx
theorem Ok (l:List Nat):CT (l++[0])=CT l:=by
 induction l with
 | nil=>rfl
 | cons x l ih=>simp only [List.cons_append,CT,ih]
theorem Ya {x:Nat} (hx:x ≠ 0) (l:List Nat):CT (l++[x])=l++[x]:=by
 induction l with
 | nil=>simp [CT,hx]
 | cons y l ih =>
  simp only [List.cons_append,CT,ih]
  cases h:l++[x] with
  | nil=>simp at h
  | cons z m=>rfl
theorem Av {x:Int} (h0:-9223372036854775808≤x) (h1:x≤9223372036854775807):IntKind.i64.wrap x=x:=by
 unfold IntKind.wrap
 simp [IntKind.bits,IntKind.signed]
 omega
def AH (z:Int):F:=.agg [.bool (decide (z<0)),AO (AM 18446744073709551616 z.natAbs)]
def H7 (x:Int):Bool:=match x with | .ofNat n=>Nat.ble n 18446744073709551615 | .negSucc _=>false
def cJ (x:Int):Bool:=match x with | .ofNat n=>Nat.ble n 1 | .negSucc _=>false
def Dc (x y c:Int):Bool:=H7 x&&H7 y&&cJ c
def Gr (x y c:Int):Int:=(x+y+c) % 18446744073709551616
def Jg (x y c:Int):Int:=(x+y+c) / 18446744073709551616
def PP (x y c:Int):Int:=(x-y-c) % 18446744073709551616
def PQ (x y c:Int):Int:=if x<y+c then 1 else 0
theorem Ev {x:Int}:H7 x=true ↔ 0≤x∧x<18446744073709551616:=by
 cases x with
 | ofNat n=>simp only [H7,Nat.ble_eq];constructor <;> intro h <;> simp at * <;> omega
 | negSucc n=>simp only [H7,Bool.false_eq_true,false_iff];omega
theorem gJ {x:Int}:cJ x=true ↔ 0≤x∧x≤1:=by
 cases x with
 | ofNat n=>simp only [cJ,Nat.ble_eq];constructor <;> intro h <;> simp at * <;> omega
 | negSucc n=>simp only [cJ,Bool.false_eq_true,false_iff];omega
theorem Ga {x y c:Int}:Dc x y c=true ↔ (0≤x∧x<18446744073709551616)∧(0≤y∧y<18446744073709551616)∧0≤c∧c≤1:=by
 simp only [Dc,Bool.and_eq_true,Ev,gJ,and_assoc]
def bU:List F→Bool | [.int .u64 x,.int .u64 y,.int .u64 c]=>Dc x y c | _=>false
def WK:List F→F | [.int .u64 x,.int .u64 y,.int .u64 c]=>.tup [.int .u64 (Gr x y c),.int .u64 (Jg x y c)] | _=>.dflt
def V3:List F→F | [.int .u64 x,.int .u64 y,.int .u64 c]=>.tup [.int .u64 (PP x y c),.int .u64 (PQ x y c)] | _=>.dflt
theorem WL (w:World) (Z:Nat→Prop) (a b:Nat) {x y:Int} (ha:x=(a:Int)) (hb:y=(b:Int)):RepF w Z (.tup [.int .u64 x,.int .u64 y]) (Extern.MathBitsCarry.pair a b):=by
 subst ha hb
 exact .tup [.int .u64 (a:Int),.int .u64 (b:Int)] [.int .u64 (a:Int),.int .u64 (b:Int)] rfl fun j u v hu hv=>by
  match j with
  | 0=>cases hu;cases hv;exact .int _ _
  | 1=>cases hu;cases hv;exact .int _ _
  | j+2=>cases hu
theorem RV {P:Program} {w:World} {name:String} {x y c:Nat} (hc:c≤1) :
  (Extern.MathBitsCarry.three name #[.int .u64 (x:Int),.int .u64 (y:Int),.int .u64 (c:Int)]).run P w=.ok (x,y,c) w:=by
 match c,hc with
 | 0,_=>rfl
 | 1,_=>rfl
theorem IM {w:World} {Z:Nat→Prop} {k:IntKind} {n:Int} {v:Value} (h:RepF w Z (.int k n) v):v=.int k n:=by cases h;rfl
theorem okAdd64:Ai Tryz.prog 73 bU WK:=by
 intro xs hp w Z args hZ ha
 match xs,hp with
 | [.int .u64 x,.int .u64 y,.int .u64 c],hp =>
 obtain ⟨⟨hx0,hx⟩,⟨hy0,hy⟩,hc0,hc⟩:=Ga.1 hp
 obtain ⟨x,rfl⟩:=Int.eq_ofNat_of_zero_le hx0
 obtain ⟨y,rfl⟩:=Int.eq_ofNat_of_zero_le hy0
 obtain ⟨c,rfl⟩:=Int.eq_ofNat_of_zero_le hc0
 obtain ⟨hl,hr⟩:=ha
 obtain ⟨v1,v2,v3,he⟩:∃ v1 v2 v3,args.toList=[v1,v2,v3]:=by
  match h:args.toList,hl with
  | [v1,v2,v3],_=>exact ⟨v1,v2,v3,rfl⟩
 have e:args = #[v1,v2,v3]:=by rw [← Array.toArray_toList (xs:=args),he]
 have e1:=IM (hr 0 _ v1 rfl (by rw [he];rfl))
 have e2:=IM (hr 1 _ v2 rfl (by rw [he];rfl))
 have e3:=IM (hr 2 _ v3 rfl (by rw [he];rfl))
 subst e e1 e2 e3
 refine .inr ⟨_,w,?_,⟨rfl,rfl,rfl,Nat.le_refl _,fun _ _=>rfl,Nat.le_refl _⟩,Z,fun b h=>.inl h,WL w Z ((x+y+c) % 18446744073709551616) ((x+y+c) / 18446744073709551616) ?_ ?_⟩
 ·rw [run_callFunc_extern (e:=fun args=>do
   let (x, y, c) ← Extern.MathBitsCarry.three "Add64" args
   pure (Extern.MathBitsCarry.pair ((x+y+c) % Extern.MathBitsCarry.m64) ((x+y+c) / Extern.MathBitsCarry.m64))) Tryz.func73 (by kernel_rfl) (by kernel_rfl) (by kernel_rfl) (by kernel_rfl)]
  simp only [Sem.run_bind,RV (show c≤1 by omega),Result.andThen]
  rfl
 ·unfold Gr;omega
 ·unfold Jg;omega
theorem okSub64:Ai Tryz.prog 98 bU V3:=by
 intro xs hp w Z args hZ ha
 match xs,hp with
 | [.int .u64 x,.int .u64 y,.int .u64 c],hp =>
 obtain ⟨⟨hx0,hx⟩,⟨hy0,hy⟩,hc0,hc⟩:=Ga.1 hp
 obtain ⟨x,rfl⟩:=Int.eq_ofNat_of_zero_le hx0
 obtain ⟨y,rfl⟩:=Int.eq_ofNat_of_zero_le hy0
 obtain ⟨c,rfl⟩:=Int.eq_ofNat_of_zero_le hc0
 obtain ⟨hl,hr⟩:=ha
 obtain ⟨v1,v2,v3,he⟩:∃ v1 v2 v3,args.toList=[v1,v2,v3]:=by
  match h:args.toList,hl with
  | [v1,v2,v3],_=>exact ⟨v1,v2,v3,rfl⟩
 have e:args = #[v1,v2,v3]:=by rw [← Array.toArray_toList (xs:=args),he]
 have e1:=IM (hr 0 _ v1 rfl (by rw [he];rfl))
 have e2:=IM (hr 1 _ v2 rfl (by rw [he];rfl))
 have e3:=IM (hr 2 _ v3 rfl (by rw [he];rfl))
 subst e e1 e2 e3
 refine .inr ⟨_,w,?_,⟨rfl,rfl,rfl,Nat.le_refl _,fun _ _=>rfl,Nat.le_refl _⟩,Z,fun b h=>.inl h,WL w Z ((x+18446744073709551616-y-c) % 18446744073709551616) (if x<y+c then 1 else 0) ?_ ?_⟩
 ·rw [run_callFunc_extern (e:=fun args=>do
   let (x, y, c) ← Extern.MathBitsCarry.three "Sub64" args
   pure (Extern.MathBitsCarry.pair ((x+Extern.MathBitsCarry.m64-y-c) % Extern.MathBitsCarry.m64) (if x<y+c then 1 else 0))) Tryz.func98 (by kernel_rfl) (by kernel_rfl) (by kernel_rfl) (by kernel_rfl)]
  simp only [Sem.run_bind,RV (show c≤1 by omega),Result.andThen]
  rfl
 ·unfold PP;omega
 ·unfold PQ;by_cases h:x<y+c <;> simp [h] <;> omega
theorem YU (n:Nat):PH (BP n)=n:=by simp [PH,BP]
def envN3:Env:=(env0.add 73 (.pure bU WK)).add 98 (.pure bU V3)
theorem Xb:Ax Tryz.prog envN3:=(Env.add_ok (Env.add_ok D3 okAdd64.sp) okSub64.sp)
theorem X7 {n:Nat} (h:n<18446744073709551616):Bz .and .u64 (n:Int) 4294967295=((n % 4294967296:Nat):Int):=by
 rw [bAnd,IV,show BitVec.ofInt 64 4294967295=BitVec.ofNat 64 (2 ^ 32-1) from rfl,VP]
 rw [BitVec.toNat_and,BitVec.toNat_ofNat,BitVec.toNat_ofNat,Nat.mod_eq_of_lt h]
 have e:(2 ^ 32-1) % 2 ^ 64=2 ^ 32-1:=rfl
 rw [e,Nat.and_two_pow_sub_one_eq_mod]
 omega
theorem Jw (n:Nat):Int.fdiv (n:Int) (2 ^ min (Int.toNat 32) IntKind.u64.bits)=((n / 4294967296:Nat):Int):=by
 rw [show (2 ^ min (Int.toNat 32) IntKind.u64.bits:Int)=((4294967296:Nat):Int) from rfl,Int.fdiv_eq_ediv_of_nonneg _ (by omega)]
 omega
theorem ZA {x1 x0 y1 y0:Nat} (hx1:x1<4294967296) (hx0:x0<4294967296) (hy1:y1<4294967296) (hy0:y0<4294967296) :
  x1*y1≤18446744065119617025∧x1*y0≤18446744065119617025∧x0*y1≤18446744065119617025∧x0*y0≤18446744065119617025 ∧
  (x1*4294967296+x0)*(y1*4294967296+y0)=(x1*y1)*18446744073709551616+(x1*y0+x0*y1)*4294967296+x0*y0:=by
 have h:∀ {a b:Nat},a<4294967296→b<4294967296→a*b≤18446744065119617025:=fun {a b} ha hb =>
  Nat.le_trans (Nat.mul_le_mul (Nat.le_of_lt_succ ha) (Nat.le_of_lt_succ hb)) (by decide)
 refine ⟨h hx1 hy1,h hx1 hy0,h hx0 hy1,h hx0 hy0,?_⟩
 simp only [Nat.add_mul,Nat.mul_add]
 have e1:x1*4294967296*(y1*4294967296)=x1*y1*18446744073709551616:=by rw [Nat.mul_mul_mul_comm]
 have e2:x1*4294967296*y0=x1*y0*4294967296:=by rw [Nat.mul_right_comm]
 have e3:x0*(y1*4294967296)=x0*y1*4294967296:=by rw [Nat.mul_assoc]
 rw [e1,e2,e3]
 omega
/-! ### function 72 -/
def T72 {ρ:Type} (ret:(F)→Option ρ) (x:Nat) (y:Nat):Option ρ :=
 (ret (F.tup [F.int .u64 (IntKind.u64.wrap (IntKind.u64.wrap (IntKind.u64.wrap ((↑x:Int).fdiv (2 ^ min (Int.toNat 32) IntKind.u64.bits)*(↑y:Int).fdiv (2 ^ min (Int.toNat 32) IntKind.u64.bits))+(IntKind.u64.wrap (IntKind.u64.wrap ((↑x:Int).fdiv (2 ^ min (Int.toNat 32) IntKind.u64.bits)*Bz BinOp.and IntKind.u64 (↑y:Int) 4294967295)+(IntKind.u64.wrap (Bz BinOp.and IntKind.u64 (↑x:Int) 4294967295*Bz BinOp.and IntKind.u64 (↑y:Int) 4294967295)).fdiv (2 ^ min (Int.toNat 32) IntKind.u64.bits))).fdiv (2 ^ min (Int.toNat 32) IntKind.u64.bits))+(IntKind.u64.wrap (Bz BinOp.and IntKind.u64 (IntKind.u64.wrap (IntKind.u64.wrap ((↑x:Int).fdiv (2 ^ min (Int.toNat 32) IntKind.u64.bits)*Bz BinOp.and IntKind.u64 (↑y:Int) 4294967295)+(IntKind.u64.wrap (Bz BinOp.and IntKind.u64 (↑x:Int) 4294967295*Bz BinOp.and IntKind.u64 (↑y:Int) 4294967295)).fdiv (2 ^ min (Int.toNat 32) IntKind.u64.bits))) 4294967295+IntKind.u64.wrap (Bz BinOp.and IntKind.u64 (↑x:Int) 4294967295*(↑y:Int).fdiv (2 ^ min (Int.toNat 32) IntKind.u64.bits)))).fdiv (2 ^ min (Int.toNat 32) IntKind.u64.bits))),F.int .u64 (IntKind.u64.wrap ((↑x:Int)*(↑y:Int)))]))
def G72 (x:Nat) (y:Nat):Option (F):=T72 some x y
theorem t72 (x:Nat) (y:Nat) (r:F) (h:G72 x y=some r):AY Tryz.prog Tryz.f72.results.toList [.code (AR Tryz.f72)] (start Tryz.f72.ntmps ([BP x,BP y].map .f)) (r):=by
 refine AY.of_run Ap Xb (T:=[]) (n:=200) ?_
 refine gE (Y:=T72 (fun r=>some (.ret (r))) x y) (by kernel_rfl) ?_
 exact gR (by cases h;rfl)
def Gq (x y:Int):Int:=(x*y) % 18446744073709551616
def OO (x y:Int):Int:=(x*y) / 18446744073709551616
theorem fX {x y:Nat} (hx:x<18446744073709551616) (hy:y<18446744073709551616):G72 x y=some (.tup [.int .u64 (OO x y),.int .u64 (Gq x y)]):=by
 have h1:OO x y=((x*y / 18446744073709551616:Nat):Int):=by
  unfold OO
  rw [← Int.natCast_mul]
  omega
 have h2:Gq x y=((x*y % 18446744073709551616:Nat):Int):=by
  unfold Gq
  rw [← Int.natCast_mul]
  omega
 rw [h1,h2]
 unfold G72 T72
 rw [X7 hx,X7 hy,Jw,Jw]
 have hx1:x / 4294967296<4294967296:=by omega
 have hx0:x % 4294967296<4294967296:=by omega
 have hy1:y / 4294967296<4294967296:=by omega
 have hy0:y % 4294967296<4294967296:=by omega
 obtain ⟨b1,b2,b3,b4,e⟩:=ZA hx1 hx0 hy1 hy0
 rw [show x / 4294967296*4294967296+x % 4294967296=x by omega,show y / 4294967296*4294967296+y % 4294967296=y by omega] at e
 generalize x / 4294967296=x1 at *
 generalize x % 4294967296=x0 at *
 generalize y / 4294967296=y1 at *
 generalize y % 4294967296=y0 at *
 simp only [← Int.natCast_mul]
 generalize x1*y1=p at *
 generalize x1*y0=q at *
 generalize x0*y1=r at *
 generalize x0*y0=s at *
 generalize x*y=t at *
 subst e
 rw [CJ (n:=s) (by omega),Jw,CJ (n:=q) (by omega),CJ (n:=p) (by omega),CJ (n:=r) (by omega)]
 try simp only [← Int.natCast_add]
 rw [CJ (n:=q+s / 4294967296) (by omega),Jw,X7 (by omega)]
 try simp only [← Int.natCast_add]
 rw [CJ (n:=_+r) (by omega),Jw]
 try simp only [← Int.natCast_add]
 rw [CJ (n:=p+_) (by omega)]
 try simp only [← Int.natCast_add]
 rw [CJ (n:=p+_+_) (by omega),VP]
 congr 5
 all_goals omega
def W1 (x y:Int):Bool:=H7 x&&H7 y
def pre2w:List F→Bool | [.int .u64 x,.int .u64 y]=>W1 x y | _=>false
def WA:List F→F | [.int .u64 x,.int .u64 y]=>.tup [.int .u64 (OO x y),.int .u64 (Gq x y)] | _=>.dflt
theorem R8 {x y:Int}:W1 x y=true ↔ (0≤x∧x<18446744073709551616)∧(0≤y∧y<18446744073709551616):=by
 simp only [W1,Bool.and_eq_true,Ev]
theorem okMul64:Ai Tryz.prog 72 pre2w WA :=
 Bm (c:=AR Tryz.f72) Tryz.func72 (by kernel_rfl) (by kernel_rfl) fun xs hp=>match xs,hp with
 | [.int .u64 x,.int .u64 y],hp=>by
  obtain ⟨⟨hx0,hx⟩,hy0,hy⟩:=R8.1 hp
  obtain ⟨x,rfl⟩:=Int.eq_ofNat_of_zero_le hx0
  obtain ⟨y,rfl⟩:=Int.eq_ofNat_of_zero_le hy0
  exact t72 x y _ (fX (by omega) (by omega))
def envN4:Env:=envN3.add 72 (.pure pre2w WA)
theorem KO:Ax Tryz.prog envN4:=(Env.add_ok Xb okMul64.sp)
noncomputable section
/-! ### function 97 -/
def rC (n:Nat) (g:Nat→Nat):St:=⟨(U.f (F.sl n (fun j=>BP (g j)))) :: Ag 20 [],[]⟩
def qT {ρ:Type} (ret:(Nat)→(Nat→F)→Option ρ) (c1:(Nat)→(Nat→Nat)→Option ρ) (n:Nat) (g:Nat→Nat):Option ρ :=
 (AC (decide ((↑n:Int) > 0)==true)
 (AC (decide (0≤IntKind.i64.wrap ((↑n:Int)-1)))
 (AC (decide (IntKind.i64.wrap ((↑n:Int)-1)<(↑n:Int)))
 (AC ((↑(g (IntKind.i64.wrap ((↑n:Int)-1)).toNat):Int)==0)
 (AC (decide (0≤IntKind.i64.wrap ((↑n:Int)-1)))
 (AC (decide (IntKind.i64.wrap ((↑n:Int)-1)≤(↑n:Int)))
 (c1 ((IntKind.i64.wrap ((↑n:Int)-1)).toNat-0) (fun j ↦ g (Int.toNat 0+j)))
 none)
 none)
 (ret (n) (fun j ↦ F.int .u64 (↑(g j):Int))))
 none)
 none)
 (ret (n) (fun j ↦ F.int .u64 (↑(g j):Int))))
def YF:Nat→(Nat)→(Nat→Nat)→Option ((Nat) × (Nat→F))
 | 0,_,_=>none
 | k+1,n,g=>qT (fun rn rg=>some (rn,rg)) (YF k) n g
def T97 {ρ:Type} (ret:(Nat)→(Nat→F)→Option ρ) (c1:(Nat)→(Nat→Nat)→Option ρ) (n:Nat) (g:Nat→Nat):Option ρ :=
 (c1 (n) (g))
def G97 (k:Nat) (n:Nat) (g:Nat→Nat):Option ((Nat) × (Nat→F)):=T97 (fun rn rg=>some (rn,rg)) (YF k) n g
theorem t97_1:∀ (k:Nat) (n:Nat) (g:Nat→Nat) (rn:Nat) (rg:Nat→F),YF k n g=some (rn,rg)→AY Tryz.prog Tryz.f97.results.toList (at_ Tryz.f97 1) (rC n g) (F.sl rn rg)
 | 0,_,_,_,_,h=>nomatch h
 | k+1,n,g,rn,rg,h=>by
  refine AY.of_cut Ap KO (T:=[(1,[0],1000)]) (n:=200) ?_
  refine gE (Y:=qT (fun rn rg=>some (.ret (F.sl rn rg))) (fun n g=>some (.cut (at_ Tryz.f97 1) (rC n g))) n g) (by kernel_rfl) ?_
  exact (gS h (fun _ h=>(gS h (fun _ h=>(gS h (fun _ h=>(gS h (fun _ h=>(gS h (fun _ h=>(gS h (fun _ h=>gC (t97_1 k _ _ rn rg h)) gN)) gN)) (fun _ h=>gR (by cases h;rfl)))) gN)) gN)) (fun _ h=>gR (by cases h;rfl)))
theorem t97 (k:Nat) (n:Nat) (g:Nat→Nat) (rn:Nat) (rg:Nat→F) (h:G97 k n g=some (rn,rg)):AY Tryz.prog Tryz.f97.results.toList [.code (AR Tryz.f97)] (start Tryz.f97.ntmps ([F.sl n (fun j=>BP (g j))].map .f)) (F.sl rn rg):=by
 refine AY.of_run Ap KO (T:=[(1,[0],1000)]) (n:=200) ?_
 refine gE (Y:=T97 (fun rn rg=>some (.ret (F.sl rn rg))) (fun n g=>some (.cut (at_ Tryz.f97 1) (rC n g))) n g) (by kernel_rfl) ?_
 exact gC (t97_1 k _ _ rn rg h)
theorem wpred {n:Nat} (h:n≤100000):IntKind.i64.wrap (((n+1:Nat):Int)-1)=(n:Int):=by rw [Av (by omega) (by omega)];omega
theorem RT:∀ (n k:Nat) (g:Nat→Nat) (l:List Nat),n=l.length→(∀ j,j<n→g j=l.getD j 0)→n≤1000→n<k→∃ rn rg,YF k n g=some (rn,rg)∧EK BP 0 rn rg (CT l)
 | 0,0,_,_,_,_,_,hk=>by omega
 | 0,k+1,g,[],_,_,_,_=>⟨_,_,rfl,.nil⟩
 | 0,k+1,g,x :: l,h,_,_,_=>by simp at h
 | n+1,0,_,_,_,_,_,hk=>by omega
 | n+1,k+1,g,l,h,hg,hn,hk=>by
  obtain ⟨l',x,rfl⟩:∃ l' x,l=l'++[x]:=by
   rcases List.eq_nil_or_concat l with rfl | ⟨l',x,rfl⟩
   ·simp at h
   ·exact ⟨l',x,by simp⟩
  have hl:n=l'.length:=by simp at h;exact h
  have hx:g n=x:=by
   rw [hg n (by omega),hl]
   simp [List.getD]
  have e0:IntKind.i64.wrap (((n+1:Nat):Int)-1)=(n:Int):=wpred (by omega)
  simp only [YF]
  unfold qT
  rw [e0,decide_eq_true (show ((n+1:Nat):Int) > 0 by omega),decide_eq_true (show (0:Int)≤n by omega),decide_eq_true (show (n:Int)<(n+1:Nat) by omega),decide_eq_true (show (n:Int)≤(n+1:Nat) by omega),Int.toNat_natCast,hx]
  simp only [AF,beq_self_eq_true]
  by_cases h0:x=0
  ·subst h0
   simp only [Int.cast_ofNat_Int,beq_self_eq_true,AF,Nat.sub_zero]
   rw [Ok]
   refine RT n k _ l' hl (fun j hj=>?_) (by omega) (by omega)
   have:=hg j (by omega)
   simp only [List.getD] at this ⊢
   rw [List.getElem?_append_left (by omega)] at this
   rw [show Int.toNat 0+j=j by omega]
   exact this
  ·have hb:((x:Int)==0)=false:=by simpa using h0
   rw [hb,AJ,Ya h0]
   exact ⟨_,_,rfl,h.symm ▸ rfl,fun j hj=>by rw [← hg j hj];rfl⟩
def Yv:List F→Bool | [x]=>Ay x&&decide ((AP x).length≤1000) | _=>false
def aR:List F→F | [x]=>AO (CT (AP x)) | _=>.dflt
theorem okTrim:Ai Tryz.prog 97 Yv aR :=
 Ae (c:=AR Tryz.f97) Tryz.func97 (by kernel_rfl) (by kernel_rfl) fun xs hp=>match xs,hp with
 | [x],hp=>by
  simp only [Yv,Bool.and_eq_true,decide_eq_true_eq] at hp
  obtain ⟨h1,h2⟩:=hp
  obtain ⟨rn,rg,he,hl⟩:=RT _ 2000 (fun j=>(AP x).getD j 0) (AP x) rfl (fun j _=>rfl) h2 (by omega)
  exact ⟨[.sl (AP x).length fun j=>BP ((AP x).getD j 0)],_,⟨(Bw h1).1,trivial⟩,t97 2000 _ _ _ _ he,hl.le⟩
/-! ### function 75 -/
def rL (a:List Nat) (b:List Nat) (i:Int):St:=⟨(U.f (AO a)) :: (U.f (AO b)) :: Ag 3 ((U.f (F.int .i64 i)) :: Ag 35 []),[]⟩
def dM {ρ:Type} (ret:(Int)→Option ρ) (c4:(List Nat)→(List Nat)→(Int)→Option ρ) (a:List Nat) (b:List Nat) (i:Int):Option ρ :=
 (AC (decide (i ≥ 0))
 (AC (decide (0≤i))
 (AC (decide (i<(↑a.length:Int)))
 (AC (decide (0≤i))
 (AC (decide (i<(↑b.length:Int)))
 (AC ((↑(a.getD i.toNat 0):Int) != (↑(b.getD i.toNat 0):Int))
 (AC (decide (0≤i))
 (AC (decide (i<(↑a.length:Int)))
 (AC (decide (0≤i))
 (AC (decide (i<(↑b.length:Int)))
 (AC (decide ((↑(a.getD i.toNat 0):Int)<(↑(b.getD i.toNat 0):Int)))
 (ret (-1))
 (ret (1)))
 none)
 none)
 none)
 none)
 (c4 (a) (b) (IntKind.i64.wrap (i-1))))
 none)
 none)
 none)
 none)
 (ret (0)))
def Su:Nat→(List Nat)→(List Nat)→(Int)→Option (Int)
 | 0,_,_,_=>none
 | k+1,a,b,i=>dM some (Su k) a b i
def T75 {ρ:Type} (ret:(Int)→Option ρ) (c4:(List Nat)→(List Nat)→(Int)→Option ρ) (a:List Nat) (b:List Nat):Option ρ :=
 (AC ((↑a.length:Int) != (↑b.length:Int))
 (ret (IntKind.i64.wrap ((↑a.length:Int)-(↑b.length:Int))))
 (c4 (a) (b) (IntKind.i64.wrap ((↑a.length:Int)-1))))
def G75 (k:Nat) (a:List Nat) (b:List Nat):Option (Int):=T75 some (Su k) a b
theorem t75_4:∀ (k:Nat) (a:List Nat) (b:List Nat) (i:Int) (r:Int),Su k a b i=some r→AY Tryz.prog Tryz.f75.results.toList (at_ Tryz.f75 4) (rL a b i) (F.int .i64 r)
 | 0,_,_,_,_,h=>nomatch h
 | k+1,a,b,i,r,h=>by
  refine AY.of_cut Ap KO (T:=[(4,[0,1,5],1000)]) (n:=200) ?_
  refine gE (Y:=dM (fun r=>some (.ret (F.int .i64 r))) (fun a b i=>some (.cut (at_ Tryz.f75 4) (rL a b i))) a b i) (by kernel_rfl) ?_
  exact (gS h (fun _ h=>(gS h (fun _ h=>(gS h (fun _ h=>(gS h (fun _ h=>(gS h (fun _ h=>(gS h (fun _ h=>(gS h (fun _ h=>(gS h (fun _ h=>(gS h (fun _ h=>(gS h (fun _ h=>(gS h (fun _ h=>gR (by cases h;rfl)) (fun _ h=>gR (by cases h;rfl)))) gN)) gN)) gN)) gN)) (fun _ h=>gC (t75_4 k _ _ _ r h)))) gN)) gN)) gN)) gN)) (fun _ h=>gR (by cases h;rfl)))
theorem t75 (k:Nat) (a:List Nat) (b:List Nat) (r:Int) (h:G75 k a b=some r):AY Tryz.prog Tryz.f75.results.toList [.code (AR Tryz.f75)] (start Tryz.f75.ntmps ([AO a,AO b].map .f)) (F.int .i64 r):=by
 refine AY.of_run Ap KO (T:=[(4,[0,1,5],1000)]) (n:=200) ?_
 refine gE (Y:=T75 (fun r=>some (.ret (F.int .i64 r))) (fun a b i=>some (.cut (at_ Tryz.f75 4) (rL a b i))) a b) (by kernel_rfl) ?_
 exact (gS h (fun _ h=>gR (by cases h;rfl)) (fun _ h=>gC (t75_4 k _ _ _ r h)))
def Je (a b:List Nat):Int:=if a.length ≠ b.length then (a.length:Int)-b.length else if val 18446744073709551616 a<val 18446744073709551616 b then -1 else if val 18446744073709551616 b<val 18446744073709551616 a then 1 else 0
theorem DC {B:Nat} {l:List Nat} (h:okD B l) {j:Nat} (hj:j<l.length):l.getD j 0<B:=by
 simp only [List.getD,List.getElem?_eq_getElem hj,Option.getD_some]
 exact h _ (List.getElem_mem hj)
theorem Xu {a b:List Nat} (oa:okD 18446744073709551616 a) (ob:okD 18446744073709551616 b) (hl:a.length=b.length) (hn:a.length≤1000) :
  ∀ (n k:Nat) (i:Int),i=(n:Int)-1→n≤a.length→(∀ j,n≤j→j<a.length→a.getD j 0=b.getD j 0)→n<k→Su k a b i=some (Je a b)
 | 0,0,_,_,_,_,hk=>by omega
 | n+1,0,_,_,_,_,hk=>by omega
 | 0,k+1,i,hi,_,he,_=>by
  subst hi
  have hab:a=b:=List.ext_getElem hl fun j h1 h2=>by
   have:=he j (Nat.zero_le _) h1
   simpa [List.getD,List.getElem?_eq_getElem h1,List.getElem?_eq_getElem h2] using this
  subst hab
  simp only [Su]
  unfold dM Je
  simp [AJ]
 | n+1,k+1,i,hi,hna,he,hk=>by
  obtain rfl:i=(n:Int):=by omega
  simp only [Su]
  unfold dM
  rw [decide_eq_true (show (n:Int) ≥ 0 by omega),decide_eq_true (show (n:Int)<a.length by omega),decide_eq_true (show (n:Int)<b.length by omega)]
  rw [Int.toNat_natCast]
  simp only [AF]
  by_cases hx:a.getD n 0=b.getD n 0
  ·have hb:((a.getD n 0:Int) != (b.getD n 0:Int))=false:=by rw [hx,bne_self_eq_false]
   rw [hb,AJ]
   refine Xu oa ob hl hn n k _ (by rw [Av (by omega) (by omega)]) (by omega) (fun j h1 h2=>?_) (by omega)
   rcases Nat.eq_or_lt_of_le h1 with rfl | h
   ·exact hx
   ·exact he j h h2
  ·have hb:((a.getD n 0:Int) != (b.getD n 0:Int))=true:=by simp only [bne_iff_ne,ne_eq];omega
   rw [hb,AF]
   unfold Je
   rw [if_neg (by omega)]
   by_cases hlt:a.getD n 0<b.getD n 0
   ·rw [decide_eq_true (show (a.getD n 0:Int)<b.getD n 0 by omega),AF,if_pos (MA (by omega) n a b oa ob hl (by omega) (fun j h1 h2=>he j h1 h2) hlt)]
   ·have hgt:b.getD n 0<a.getD n 0:=by omega
    have hv:=MA (B:=18446744073709551616) (by omega) n b a ob oa hl.symm (by omega) (fun j h1 h2=>(he j h1 (by omega)).symm) hgt
    rw [decide_eq_false (show ¬ (a.getD n 0:Int)<b.getD n 0 by omega),AJ,if_neg (by omega),if_pos hv]
theorem Tr {a b:List Nat} (oa:okD 18446744073709551616 a) (ob:okD 18446744073709551616 b) (ha:a.length≤1000) (hb:b.length≤1000):G75 2000 a b=some (Je a b):=by
 unfold G75 T75
 by_cases hl:a.length=b.length
 ·have h:((a.length:Int) != (b.length:Int))=false:=by simp [hl]
  rw [h,AJ]
  exact Xu oa ob hl ha _ _ _ (by rw [Av (by omega) (by omega)]) (Nat.le_refl _) (fun j h1 h2=>by omega) (by omega)
 ·have h:((a.length:Int) != (b.length:Int))=true:=by simp only [bne_iff_ne,ne_eq];omega
  rw [h,AF,Av (by omega) (by omega)]
  unfold Je
  rw [if_pos hl]
def lD:List F→Bool | [x,y]=>Yv [x]&&Yv [y] | _=>false
def bJ:List F→F | [x,y]=>.int .i64 (Je (AP x) (AP y)) | _=>.dflt
theorem WS {x:F} (h:Yv [x]=true):Ay x=true∧(AP x).length≤1000:=by
 simpa [Yv] using h
theorem okCmpW:Ai Tryz.prog 75 lD bJ :=
 Ae (c:=AR Tryz.f75) Tryz.func75 (by kernel_rfl) (by kernel_rfl) fun xs hp=>match xs,hp with
 | [x,y],hp=>by
  simp only [lD,Bool.and_eq_true] at hp
  obtain ⟨hx,hxl⟩:=WS hp.1
  obtain ⟨hy,hyl⟩:=WS hp.2
  exact ⟨[AO (AP x),AO (AP y)],_,⟨(Bw hx).1,(Bw hy).1,trivial⟩,t75 2000 _ _ _ (Tr (Cg hx) (Cg hy) hxl hyl),.refl _⟩
theorem Lo (m n:Nat):(Je (AM 18446744073709551616 m) (AM 18446744073709551616 n) ≥ 0 ↔ n≤m)∧(Je (AM 18446744073709551616 m) (AM 18446744073709551616 n)<0 ↔ m<n):=by
 have hm:=DE (B:=18446744073709551616) (by omega) m
 have hn:=DE (B:=18446744073709551616) (by omega) n
 have key:Je (AM 18446744073709551616 m) (AM 18446744073709551616 n)<0 ↔ m<n:=by
  unfold Je
  rw [hm,hn]
  split
  ·rename_i h
   rcases Nat.lt_or_gt_of_ne h with h | h
   ·have:=DW (by omega) (BH (B:=18446744073709551616) (by omega) m) (B8 (B:=18446744073709551616) (by omega) n) h
    omega
   ·have:=DW (by omega) (BH (B:=18446744073709551616) (by omega) n) (B8 (B:=18446744073709551616) (by omega) m) h
    omega
  ·split
   ·omega
   ·split <;> omega
 exact ⟨by omega,key⟩
def envN5:Env:=(envN4.add 97 (.pure Yv aR)).add 75 (.pure lD bJ)
theorem Ih:Ax Tryz.prog envN5:=(Env.add_ok (Env.add_ok KO okTrim.sp) okCmpW.sp)
end
noncomputable section
theorem Pc {m:Nat} {f:Nat→Nat} {l:List Nat} (hl:l.length=m) (hg:∀ j,j<m→f j=l.getD j 0):(List.range m).map f=l:=by
 refine List.ext_getElem (by simp [hl]) fun j h1 h2=>?_
 simp only [List.getElem_map,List.getElem_range]
 rw [hg j (by omega)]
 simp [List.getD,List.getElem?_eq_getElem h2]
theorem Ef {m:Nat} {g:Nat→F} {l:List Nat} (hl:l.length=m) (hg:∀ j,j<m→g j=BP (l.getD j 0)):AP (.sl m g)=l :=
 Pc hl fun j hj=>by rw [hg j hj,YU]
theorem D0 {m:Nat} {g:Nat→F} {l:List Nat} (hl:l.length=m) (hg:∀ j,j<m→g j=BP (l.getD j 0)) (ho:okD 18446744073709551616 l):Ay (.sl m g)=true:=by
 simp only [Ay,Ci,List.all_eq_true,List.mem_range]
 intro j hj
 rw [hg j hj]
 have:=DC ho (show j<l.length by omega)
 simp only [R9,BP,Bool.and_eq_true,decide_eq_true_eq]
 omega
theorem Ma {B:Nat} {a b:List Nat} (ha:okD B a) (hb:okD B b):okD B (a++b):=by
 intro w hw
 rcases List.mem_append.1 hw with h | h
 ·exact ha w h
 ·exact hb w h
theorem Im {a:List Nat} {x:Nat} {rest:List Nat} {i:Nat} (h:a.drop i=x :: rest):a.getD i 0=x∧a.drop (i+1)=rest∧i<a.length:=by
 have hi:i<a.length:=by
  rcases Nat.lt_or_ge i a.length with h1 | h1
  ·exact h1
  ·rw [List.drop_eq_nil_of_le h1] at h;cases h
 rw [List.drop_eq_getElem_cons hi] at h
 injection h with h1 h2
 exact ⟨by simp [List.getD,List.getElem?_eq_getElem hi,h1],h2,hi⟩
theorem I9 (b:List Nat) (i:Nat):(b.drop i).headD 0=b.getD i 0:=by
 rw [List.headD_eq_head?_getD,List.head?_drop]
 rfl
theorem Km (b:List Nat) (i:Nat):(b.drop i).tail=b.drop (i+1):=by simp
theorem DT {b:List Nat} {i:Nat} (h:b.length≤i):b.getD i 0=0:=by simp [List.getD,List.getElem?_eq_none h]
theorem HS {B:Nat} (hB:0<B) {l:List Nat} (h:okD B l) (j:Nat):l.getD j 0<B:=by
 rcases Nat.lt_or_ge j l.length with hj | hj
 ·exact DC h hj
 ·rw [DT hj];exact hB
theorem DG (n:Nat):(BP n).cells.length=1:=rfl
theorem EE (x:F):((CO x || true)&&true)=true:=by simp
theorem Ka {x y c:Nat}:Gr x y c=(((x+y+c) % 18446744073709551616:Nat):Int)∧Jg x y c=(((x+y+c) / 18446744073709551616:Nat):Int):=by
 unfold Gr Jg
 omega
theorem Ju {x y c:Nat} (hx:x<18446744073709551616) (hy:y<18446744073709551616) (hc:c≤1):PP x y c=(((x+18446744073709551616-y-c) % 18446744073709551616:Nat):Int)∧PQ x y c=(((if x<y+c then 1 else 0:Nat)):Int):=by
 unfold PP PQ
 refine ⟨by omega,?_⟩
 by_cases h:x<y+c
 ·rw [if_pos h,if_pos (by omega)];rfl
 ·rw [if_neg h,if_neg (by omega)];rfl
theorem LT {m i v:Nat} {g:Nat→F} {o:List Nat} (hi:o.length=i) (hg:∀ j,j<m→g j=BP (o.getD j 0)) :
  ∀ j,j<m→(fun j=>if j=0+i then F.int .u64 (v:Int) else g j) j=BP ((o++[v]).getD j 0):=by
 intro j hj
 show (if j=0+i then F.int .u64 (v:Int) else g j)=_
 subst hi
 by_cases h:j=0+o.length
 ·rw [if_pos h,h,Nat.zero_add]
  simp [List.getD,BP]
 ·rw [if_neg h,hg j hj]
  rcases Nat.lt_or_ge j o.length with h1 | h1
  ·simp [List.getD,List.getElem?_append_left h1]
  ·rw [DT h1,DT (by simp;omega)]
/-! ### function 74 -/
def rM (a:List Nat) (b:List Nat) (m:Nat) (n:Int) (i:Int) (c:Int) (g:Nat→F):St:=⟨(U.f (AO a)) :: (U.f (AO b)) :: Ag 3 ((U.hs 0 m 0 m) :: (U.f (F.int .u64 c)) :: Ag 14 ((U.f (F.int .i64 n)) :: (U.f (F.int .i64 i)) :: Ag 31 [])),[HO.arr 1 m g]⟩
abbrev KJ31 (ρ:Type):=(List Nat)→(List Nat)→(Nat)→(Int)→(Int)→(Int)→(Nat→F)→Option ρ
def dN {ρ:Type} (ret:(List Nat)→Option ρ) (c5:KJ31 ρ) (a:List Nat) (b:List Nat) (m:Nat) (n:Int) (i:Int) (c:Int) (g:Nat→F):Option ρ :=
 (AC (decide (i<n))
 (AC (decide (i<(↑b.length:Int)))
 (AC (decide (0≤i))
 (AC (decide (i<(↑b.length:Int)))
 (AC (decide (0≤i))
 (AC (decide (i<(↑a.length:Int)))
 (AC (Dc (↑(a.getD i.toNat 0):Int) (↑(b.getD i.toNat 0):Int) c)
 (AC (decide (m=m))
 (AC (decide (0≤i))
 (AC (decide (i<(↑m:Int)))
 (AC (decide (m=m))
 (AC (decide (0+i.toNat<m))
 (AC (decide ((g (0+i.toNat)).cells.length=1))
 (AC ((CO (g (0+i.toNat)) || true)&&true)
 (c5 (a) (b) (m) (n) (IntKind.i64.wrap (i+1)) (Jg (↑(a.getD i.toNat 0):Int) (↑(b.getD i.toNat 0):Int) c) (fun j ↦ if j=0+i.toNat then F.int .u64 (Gr (↑(a.getD i.toNat 0):Int) (↑(b.getD i.toNat 0):Int) c) else g j))
 none)
 none)
 none)
 none)
 none)
 none)
 none)
 none)
 none)
 none)
 none)
 none)
 (AC (decide (0≤i))
 (AC (decide (i<(↑a.length:Int)))
 (AC (Dc (↑(a.getD i.toNat 0):Int) 0 c)
 (AC (decide (m=m))
 (AC (decide (0≤i))
 (AC (decide (i<(↑m:Int)))
 (AC (decide (m=m))
 (AC (decide (0+i.toNat<m))
 (AC (decide ((g (0+i.toNat)).cells.length=1))
 (AC ((CO (g (0+i.toNat)) || true)&&true)
 (c5 (a) (b) (m) (n) (IntKind.i64.wrap (i+1)) (Jg (↑(a.getD i.toNat 0):Int) 0 c) (fun j ↦ if j=0+i.toNat then F.int .u64 (Gr (↑(a.getD i.toNat 0):Int) 0 c) else g j))
 none)
 none)
 none)
 none)
 none)
 none)
 none)
 none)
 none)
 none))
 (AC (decide (m=m))
 (AC (decide ((↑a.length:Int)<(↑m:Int)))
 (AC (decide (m=m))
 (AC (decide (0+(↑a.length:Int).toNat<m))
 (AC (decide ((g (0+(↑a.length:Int).toNat)).cells.length=1))
 (AC ((CO (g (0+(↑a.length:Int).toNat)) || true)&&true)
 (AC (decide (m=m))
 (AC (Ay (F.sl m (B3 0 fun j ↦ if j=0+(↑a.length:Int).toNat then F.int .u64 c else g j))&&decide ((AP (F.sl m (B3 0 fun j ↦ if j=0+(↑a.length:Int).toNat then F.int .u64 c else g j))).length≤1000))
 (ret (CT (AP (F.sl m (B3 0 fun j ↦ if j=0+(↑a.length:Int).toNat then F.int .u64 c else g j)))))
 none)
 none)
 none)
 none)
 none)
 none)
 none)
 none))
def Oe:Nat→(List Nat)→(List Nat)→(Nat)→(Int)→(Int)→(Int)→(Nat→F)→Option (List Nat)
 | 0,_,_,_,_,_,_,_=>none
 | k+1,a,b,m,n,i,c,g=>dN some (Oe k) a b m n i c g
def T74 {ρ:Type} (ret:(List Nat)→Option ρ) (c5:KJ31 ρ) (a:List Nat) (b:List Nat):Option ρ :=
 (AC (decide ((↑a.length:Int)<(↑b.length:Int)))
 (AC (decide (0≤IntKind.i64.wrap ((↑b.length:Int)+1)))
 (AC (decide (IntKind.i64.wrap ((↑b.length:Int)+1)≤IntKind.i64.wrap ((↑b.length:Int)+1)))
 (AC (decide (IntKind.i64.wrap ((↑b.length:Int)+1)*(((8:Nat):Int)+1)≤(↑BC:Int)))
 (c5 (b) (a) ((IntKind.i64.wrap ((↑b.length:Int)+1)).toNat) ((↑b.length:Int)) (0) (0) (fun x ↦ F.int .u64 0))
 none)
 none)
 none)
 (AC (decide (0≤IntKind.i64.wrap ((↑a.length:Int)+1)))
 (AC (decide (IntKind.i64.wrap ((↑a.length:Int)+1)≤IntKind.i64.wrap ((↑a.length:Int)+1)))
 (AC (decide (IntKind.i64.wrap ((↑a.length:Int)+1)*(((8:Nat):Int)+1)≤(↑BC:Int)))
 (c5 (a) (b) ((IntKind.i64.wrap ((↑a.length:Int)+1)).toNat) ((↑a.length:Int)) (0) (0) (fun x ↦ F.int .u64 0))
 none)
 none)
 none))
def G74 (k:Nat) (a:List Nat) (b:List Nat):Option (List Nat):=T74 some (Oe k) a b
theorem aH:∀ (k:Nat) (a:List Nat) (b:List Nat) (m:Nat) (n:Int) (i:Int) (c:Int) (g:Nat→F) (r:List Nat),Oe k a b m n i c g=some r→AY Tryz.prog Tryz.f74.results.toList (at_ Tryz.f74 5) (rM a b m n i c g) (AO r)
 | 0,_,_,_,_,_,_,_,_,h=>nomatch h
 | k+1,a,b,m,n,i,c,g,r,h=>by
  refine AY.of_cut Ap Ih (T:=[(5,[0,1,5,6,21,22],1000)]) (n:=200) ?_
  refine gE (Y:=dN (fun r=>some (.ret (AO r))) (fun a b m n i c g=>some (.cut (at_ Tryz.f74 5) (rM a b m n i c g))) a b m n i c g) (by kernel_rfl) ?_
  exact (gS h (fun _ h=>(gS h (fun _ h=>(gS h (fun _ h=>(gS h (fun _ h=>(gS h (fun _ h=>(gS h (fun _ h=>(gS h (fun _ h=>(gS h (fun _ h=>(gS h (fun _ h=>(gS h (fun _ h=>(gS h (fun _ h=>(gS h (fun _ h=>(gS h (fun _ h=>(gS h (fun _ h=>gC (aH k _ _ _ _ _ _ _ r h)) gN)) gN)) gN)) gN)) gN)) gN)) gN)) gN)) gN)) gN)) gN)) gN)) (fun _ h=>(gS h (fun _ h=>(gS h (fun _ h=>(gS h (fun _ h=>(gS h (fun _ h=>(gS h (fun _ h=>(gS h (fun _ h=>(gS h (fun _ h=>(gS h (fun _ h=>(gS h (fun _ h=>(gS h (fun _ h=>gC (aH k _ _ _ _ _ _ _ r h)) gN)) gN)) gN)) gN)) gN)) gN)) gN)) gN)) gN)) gN)))) (fun _ h=>(gS h (fun _ h=>(gS h (fun _ h=>(gS h (fun _ h=>(gS h (fun _ h=>(gS h (fun _ h=>(gS h (fun _ h=>(gS h (fun _ h=>(gS h (fun _ h=>gR (by cases h;rfl)) gN)) gN)) gN)) gN)) gN)) gN)) gN)) gN)))
theorem t74 (k:Nat) (a:List Nat) (b:List Nat) (r:List Nat) (h:G74 k a b=some r):AY Tryz.prog Tryz.f74.results.toList [.code (AR Tryz.f74)] (start Tryz.f74.ntmps ([AO a,AO b].map .f)) (AO r):=by
 refine AY.of_run Ap Ih (T:=[(5,[0,1,5,6,21,22],1000)]) (n:=200) ?_
 refine gE (Y:=T74 (fun r=>some (.ret (AO r))) (fun a b m n i c g=>some (.cut (at_ Tryz.f74 5) (rM a b m n i c g))) a b) (by kernel_rfl) ?_
 exact (gS h (fun _ h=>(gS h (fun _ h=>(gS h (fun _ h=>(gS h (fun _ h=>gC (aH k _ _ _ _ _ _ _ r h)) gN)) gN)) gN)) (fun _ h=>(gS h (fun _ h=>(gS h (fun _ h=>(gS h (fun _ h=>gC (aH k _ _ _ _ _ _ _ r h)) gN)) gN)) gN)))
theorem Ep {n:Nat} (h:n≤1000):(n:Int)*(((8:Nat):Int)+1)≤((BC:Nat):Int):=by
 rw [DL]
 omega
theorem YA {a b:List Nat} (oa:okD 18446744073709551616 a) (ob:okD 18446744073709551616 b) (hn:a.length≤900):∀ (rest:List Nat) (i c k:Nat) (o:List Nat) (g:Nat→F),a.drop i=rest→o.length=i→i+rest.length=a.length→c≤1→okD 18446744073709551616 o →
  (∀ j,j<a.length+1→g j=BP (o.getD j 0))→rest.length<k→Oe k a b (a.length+1) a.length i c g=some (CT (o++RI 18446744073709551616 rest (b.drop i) c))
 | _,_,_,0,_,_,_,_,_,_,_,_,h=>by omega
 | [],i,c,k+1,o,g,hr,ho,hi,hc,oo,hg,_=>by
  simp only [List.length_nil,Nat.add_zero] at hi
  subst hi
  have hw:=LT (m:=a.length+1) (v:=c) ho hg
  have hlen:(o++[c]).length=a.length+1:=by simp [ho]
  have hok:okD 18446744073709551616 (o++[c]):=Ma oo (by intro w hw;simp at hw;omega)
  simp only [Oe]
  unfold dN
  rw [decide_eq_false (show ¬ (a.length:Int)<a.length by omega),AJ,decide_eq_true (show (a.length:Int)<((a.length+1:Nat):Int) by omega),Int.toNat_natCast,decide_eq_true (show a.length+1=a.length+1 from rfl),decide_eq_true (show 0+a.length<a.length+1 by omega),EE,hg (0+a.length) (by omega)]
  rw [show B3 0 (fun j=>if j=0+a.length then F.int .u64 (c:Int) else g j)=(fun j=>if j=0+a.length then F.int .u64 (c:Int) else g j) from rfl]
  rw [Ef hlen hw,D0 hlen hw hok,decide_eq_true (show (o++[c]).length≤1000 by omega),decide_eq_true (DG _)]
  rfl
 | x :: rest,i,c,k+1,o,g,hr,ho,hi,hc,oo,hg,hk=>by
  obtain ⟨hx,hr',hia⟩:=Im hr
  have hxb:=DC oa hia
  have hyb:=HS (by omega) ob i
  have hok:okD 18446744073709551616 (o++[(x+b.getD i 0+c) % 18446744073709551616]):=Ma oo (by intro w hw;simp at hw;omega)
  have go:=YA oa ob hn rest (i+1) ((x+b.getD i 0+c) / 18446744073709551616) k (o++[(x+b.getD i 0+c) % 18446744073709551616]) _ hr' (by simp [ho]) (by simp only [List.length_cons] at hi;omega) (by omega) hok (LT ho hg) (by simp at hk;omega)
  have ei:IntKind.i64.wrap ((i:Int)+1)=((i+1:Nat):Int):=by rw [Av (by omega) (by omega)];omega
  have goal:Oe k a b (a.length+1) a.length ((i+1:Nat):Int) (Jg (a.getD i 0:Int) (b.getD i 0:Int) c) (fun j=>if j=0+i then F.int .u64 (Gr (a.getD i 0:Int) (b.getD i 0:Int) c) else g j)=some (CT (o++RI 18446744073709551616 (x :: rest) (b.drop i) c)):=by
   rw [hx,(Ka).1,(Ka).2,go]
   simp only [RI,I9,Km,List.append_assoc,List.singleton_append]
  have cr:Dc (a.getD i 0:Int) (b.getD i 0:Int) c=true:=Ga.2 (by omega)
  simp only [Oe]
  unfold dN
  rw [decide_eq_true (show (i:Int)<a.length by omega),decide_eq_true (show (0:Int)≤i by omega),decide_eq_true (show (i:Int)<((a.length+1:Nat):Int) by omega),Int.toNat_natCast,decide_eq_true (show 0+i<a.length+1 by omega),EE,hg (0+i) (by omega),decide_eq_true (DG _),decide_eq_true (show a.length+1=a.length+1 from rfl),ei]
  rcases Nat.lt_or_ge i b.length with hib | hib
  ·rw [decide_eq_true (show (i:Int)<b.length by omega)]
   simp only [AF]
   rw [cr]
   exact goal
  ·rw [decide_eq_false (show ¬ (i:Int)<b.length by omega)]
   rw [DT hib] at cr goal
   simp only [AF,AJ]
   have cr':Dc (a.getD i 0:Int) 0 c=true:=cr
   rw [cr']
   exact goal
theorem Tv {a b:List Nat} (oa:okD 18446744073709551616 a) (ob:okD 18446744073709551616 b) (ha:a.length≤900) (hb:b.length≤900):G74 1000 a b=some (AM 18446744073709551616 (val 18446744073709551616 a+val 18446744073709551616 b)):=by
 have key:∀ {a b:List Nat},okD 18446744073709551616 a→okD 18446744073709551616 b→a.length≤900→b.length≤a.length→Oe 1000 a b (a.length+1) a.length 0 0 (fun _=>F.int .u64 0)=some (AM 18446744073709551616 (val 18446744073709551616 a+val 18446744073709551616 b)):=fun {a b} oa ob ha hb=>by
  refine (YA oa ob ha a 0 0 1000 [] (fun _=>F.int .u64 0) rfl rfl (by simp) (by omega) (by intro w hw;simp at hw) (fun j hj=>rfl) (by omega)).trans ?_
  simp only [List.nil_append,List.drop_zero]
  rw [HY (B:=18446744073709551616) (by omega) (Wo (by omega) _ _ _ oa ob (by omega)),VV 18446744073709551616 a b 0 hb,Nat.add_zero]
 unfold G74 T74
 have e:∀ l:List Nat,l.length≤900→IntKind.i64.wrap ((l.length:Int)+1)=((l.length+1:Nat):Int):=fun l hl=>by rw [Av (by omega) (by omega)];omega
 rw [e a ha,e b hb,decide_eq_true (Ep (show a.length+1≤1000 by omega)),decide_eq_true (Ep (show b.length+1≤1000 by omega))]
 rw [decide_eq_true (show (0:Int)≤((a.length+1:Nat):Int) by omega),decide_eq_true (show (0:Int)≤((b.length+1:Nat):Int) by omega),decide_eq_true (Int.le_refl _),decide_eq_true (Int.le_refl _),Int.toNat_natCast,Int.toNat_natCast]
 simp only [AF]
 by_cases h:a.length<b.length
 ·rw [decide_eq_true (show (a.length:Int)<b.length by omega),AF,key ob oa hb (by omega),Nat.add_comm]
 ·rw [decide_eq_false (show ¬ (a.length:Int)<b.length by omega),AJ,key oa ob ha (by omega)]
/-! ### function 76 -/
def rK (a:List Nat) (b:List Nat) (m:Nat) (n:Int) (i:Int) (c:Int) (g:Nat→F):St:=⟨(U.f (AO a)) :: (U.f (AO b)) :: Ag 3 ((U.hs 0 m 0 m) :: (U.f (F.int .u64 c)) :: Ag 6 ((U.f (F.int .i64 n)) :: (U.f (F.int .i64 i)) :: Ag 26 [])),[HO.arr 1 m g]⟩
def dL {ρ:Type} (ret:(List Nat)→Option ρ) (c3:KJ31 ρ) (a:List Nat) (b:List Nat) (m:Nat) (n:Int) (i:Int) (c:Int) (g:Nat→F):Option ρ :=
 (AC (decide (i<n))
 (AC (decide (i<(↑b.length:Int)))
 (AC (decide (0≤i))
 (AC (decide (i<(↑b.length:Int)))
 (AC (decide (0≤i))
 (AC (decide (i<(↑a.length:Int)))
 (AC (Dc (↑(a.getD i.toNat 0):Int) (↑(b.getD i.toNat 0):Int) c)
 (AC (decide (m=m))
 (AC (decide (0≤i))
 (AC (decide (i<(↑m:Int)))
 (AC (decide (m=m))
 (AC (decide (0+i.toNat<m))
 (AC (decide ((g (0+i.toNat)).cells.length=1))
 (AC ((CO (g (0+i.toNat)) || true)&&true)
 (c3 (a) (b) (m) (n) (IntKind.i64.wrap (i+1)) (PQ (↑(a.getD i.toNat 0):Int) (↑(b.getD i.toNat 0):Int) c) (fun j ↦ if j=0+i.toNat then F.int .u64 (PP (↑(a.getD i.toNat 0):Int) (↑(b.getD i.toNat 0):Int) c) else g j))
 none)
 none)
 none)
 none)
 none)
 none)
 none)
 none)
 none)
 none)
 none)
 none)
 (AC (decide (0≤i))
 (AC (decide (i<(↑a.length:Int)))
 (AC (Dc (↑(a.getD i.toNat 0):Int) 0 c)
 (AC (decide (m=m))
 (AC (decide (0≤i))
 (AC (decide (i<(↑m:Int)))
 (AC (decide (m=m))
 (AC (decide (0+i.toNat<m))
 (AC (decide ((g (0+i.toNat)).cells.length=1))
 (AC ((CO (g (0+i.toNat)) || true)&&true)
 (c3 (a) (b) (m) (n) (IntKind.i64.wrap (i+1)) (PQ (↑(a.getD i.toNat 0):Int) 0 c) (fun j ↦ if j=0+i.toNat then F.int .u64 (PP (↑(a.getD i.toNat 0):Int) 0 c) else g j))
 none)
 none)
 none)
 none)
 none)
 none)
 none)
 none)
 none)
 none))
 (AC (decide (m=m))
 (AC (Ay (F.sl m (B3 0 g))&&decide ((AP (F.sl m (B3 0 g))).length≤1000))
 (ret (CT (AP (F.sl m (B3 0 g)))))
 none)
 none))
def Qu:Nat→(List Nat)→(List Nat)→(Nat)→(Int)→(Int)→(Int)→(Nat→F)→Option (List Nat)
 | 0,_,_,_,_,_,_,_=>none
 | k+1,a,b,m,n,i,c,g=>dL some (Qu k) a b m n i c g
def T76 {ρ:Type} (ret:(List Nat)→Option ρ) (c3:KJ31 ρ) (a:List Nat) (b:List Nat):Option ρ :=
 (AC (decide ((↑a.length:Int)≤(↑a.length:Int)))
 (AC (decide ((↑a.length:Int)*(((8:Nat):Int)+1)≤(↑BC:Int)))
 (c3 (a) (b) ((↑a.length:Int).toNat) ((↑a.length:Int)) (0) (0) (fun x ↦ F.int .u64 0))
 none)
 none)
def G76 (k:Nat) (a:List Nat) (b:List Nat):Option (List Nat):=T76 some (Qu k) a b
theorem jN:∀ (k:Nat) (a:List Nat) (b:List Nat) (m:Nat) (n:Int) (i:Int) (c:Int) (g:Nat→F) (r:List Nat),Qu k a b m n i c g=some r→AY Tryz.prog Tryz.f76.results.toList (at_ Tryz.f76 3) (rK a b m n i c g) (AO r)
 | 0,_,_,_,_,_,_,_,_,h=>nomatch h
 | k+1,a,b,m,n,i,c,g,r,h=>by
  refine AY.of_cut Ap Ih (T:=[(3,[0,1,5,6,13,14],1000)]) (n:=200) ?_
  refine gE (Y:=dL (fun r=>some (.ret (AO r))) (fun a b m n i c g=>some (.cut (at_ Tryz.f76 3) (rK a b m n i c g))) a b m n i c g) (by kernel_rfl) ?_
  exact (gS h (fun _ h=>(gS h (fun _ h=>(gS h (fun _ h=>(gS h (fun _ h=>(gS h (fun _ h=>(gS h (fun _ h=>(gS h (fun _ h=>(gS h (fun _ h=>(gS h (fun _ h=>(gS h (fun _ h=>(gS h (fun _ h=>(gS h (fun _ h=>(gS h (fun _ h=>(gS h (fun _ h=>gC (jN k _ _ _ _ _ _ _ r h)) gN)) gN)) gN)) gN)) gN)) gN)) gN)) gN)) gN)) gN)) gN)) gN)) (fun _ h=>(gS h (fun _ h=>(gS h (fun _ h=>(gS h (fun _ h=>(gS h (fun _ h=>(gS h (fun _ h=>(gS h (fun _ h=>(gS h (fun _ h=>(gS h (fun _ h=>(gS h (fun _ h=>(gS h (fun _ h=>gC (jN k _ _ _ _ _ _ _ r h)) gN)) gN)) gN)) gN)) gN)) gN)) gN)) gN)) gN)) gN)))) (fun _ h=>(gS h (fun _ h=>(gS h (fun _ h=>gR (by cases h;rfl)) gN)) gN)))
theorem t76 (k:Nat) (a:List Nat) (b:List Nat) (r:List Nat) (h:G76 k a b=some r):AY Tryz.prog Tryz.f76.results.toList [.code (AR Tryz.f76)] (start Tryz.f76.ntmps ([AO a,AO b].map .f)) (AO r):=by
 refine AY.of_run Ap Ih (T:=[(3,[0,1,5,6,13,14],1000)]) (n:=200) ?_
 refine gE (Y:=T76 (fun r=>some (.ret (AO r))) (fun a b m n i c g=>some (.cut (at_ Tryz.f76 3) (rK a b m n i c g))) a b) (by kernel_rfl) ?_
 exact (gS h (fun _ h=>(gS h (fun _ h=>gC (jN k _ _ _ _ _ _ _ r h)) gN)) gN)
theorem Va {a b:List Nat} (oa:okD 18446744073709551616 a) (ob:okD 18446744073709551616 b) (hn:a.length≤1000):∀ (rest:List Nat) (i c k:Nat) (o:List Nat) (g:Nat→F),a.drop i=rest→o.length=i→i+rest.length=a.length→c≤1→okD 18446744073709551616 o →
  (∀ j,j<a.length→g j=BP (o.getD j 0))→rest.length<k→Qu k a b a.length a.length i c g=some (CT (o++Gh 18446744073709551616 rest (b.drop i) c))
 | _,_,_,0,_,_,_,_,_,_,_,_,h=>by omega
 | [],i,c,k+1,o,g,hr,ho,hi,hc,oo,hg,_=>by
  simp only [List.length_nil,Nat.add_zero] at hi
  subst hi
  simp only [Qu]
  unfold dL
  rw [decide_eq_false (show ¬ (a.length:Int)<a.length by omega),AJ,decide_eq_true (show a.length=a.length from rfl)]
  rw [show B3 0 g=g from rfl,Ef ho hg,D0 ho hg oo,decide_eq_true (show o.length≤1000 by omega)]
  simp only [Gh,List.append_nil]
  rfl
 | x :: rest,i,c,k+1,o,g,hr,ho,hi,hc,oo,hg,hk=>by
  obtain ⟨hx,hr',hia⟩:=Im hr
  have hxb:=DC oa hia
  have hyb:=HS (by omega) ob i
  have hok:okD 18446744073709551616 (o++[(x+18446744073709551616-b.getD i 0-c) % 18446744073709551616]):=Ma oo (by intro w hw;simp at hw;omega)
  have go:=Va oa ob hn rest (i+1) (if x<b.getD i 0+c then 1 else 0) k (o++[(x+18446744073709551616-b.getD i 0-c) % 18446744073709551616]) _ hr' (by simp [ho]) (by simp only [List.length_cons] at hi;omega) (by split <;> omega) hok (LT ho hg) (by simp at hk;omega)
  have ei:IntKind.i64.wrap ((i:Int)+1)=((i+1:Nat):Int):=by rw [Av (by omega) (by omega)];omega
  have goal:Qu k a b a.length a.length ((i+1:Nat):Int) (PQ (a.getD i 0:Int) (b.getD i 0:Int) c) (fun j=>if j=0+i then F.int .u64 (PP (a.getD i 0:Int) (b.getD i 0:Int) c) else g j)=some (CT (o++Gh 18446744073709551616 (x :: rest) (b.drop i) c)):=by
   rw [hx] at hxb ⊢
   rw [(Ju hxb hyb hc).1,(Ju hxb hyb hc).2,go]
   simp only [Gh,I9,Km,List.append_assoc,List.singleton_append]
  have cr:Dc (a.getD i 0:Int) (b.getD i 0:Int) c=true:=Ga.2 (by omega)
  simp only [Qu]
  unfold dL
  rw [decide_eq_true (show (i:Int)<a.length by omega),decide_eq_true (show (0:Int)≤i by omega),Int.toNat_natCast,decide_eq_true (show 0+i<a.length by omega),EE,hg (0+i) (by omega),decide_eq_true (DG _),decide_eq_true (show a.length=a.length from rfl),ei]
  rcases Nat.lt_or_ge i b.length with hib | hib
  ·rw [decide_eq_true (show (i:Int)<b.length by omega)]
   simp only [AF]
   rw [cr]
   exact goal
  ·rw [decide_eq_false (show ¬ (i:Int)<b.length by omega)]
   rw [DT hib] at cr goal
   simp only [AF,AJ]
   have cr':Dc (a.getD i 0:Int) 0 c=true:=cr
   rw [cr']
   exact goal
theorem S5 {a b:List Nat} (oa:okD 18446744073709551616 a) (ob:okD 18446744073709551616 b) (ha:a.length≤1000) (hb:b.length≤a.length) (hv:val 18446744073709551616 b≤val 18446744073709551616 a):G76 2000 a b=some (AM 18446744073709551616 (val 18446744073709551616 a-val 18446744073709551616 b)):=by
 unfold G76 T76
 rw [decide_eq_true (Int.le_refl _),decide_eq_true (Ep ha),Int.toNat_natCast]
 simp only [AF]
 refine (Va oa ob ha a 0 0 2000 [] (fun _=>F.int .u64 0) rfl rfl (by simp) (by omega) (by intro w hw;simp at hw) (fun j hj=>rfl) (by omega)).trans ?_
 simp only [List.nil_append,List.drop_zero]
 have:=Jn (B:=18446744073709551616) (by omega) a b 0 oa ob (by omega) hb (by omega)
 rw [HY (B:=18446744073709551616) (by omega) (J8 (by omega) _ _ _),show val 18446744073709551616 (Gh 18446744073709551616 a b 0)=val 18446744073709551616 a-val 18446744073709551616 b by omega]
def BD (n:Nat):F→Bool | .sl m _=>Nat.ble m n | _=>false
theorem HB {n:Nat} {x:F} (hx:Ay x=true) (h:BD n x=true):(AP x).length≤n:=by
 cases x with
 | sl m g=>simpa [AP,D8,BD] using h
 | _=>simp [Ay,Ci] at hx
theorem Mh {n:Nat} {l:List Nat}:BD n (AO l)=Nat.ble l.length n:=rfl
def TP:List F→Bool | [x,y]=>Ay x&&BD 900 x&&(Ay y&&BD 900 y) | _=>false
def Hk:List F→F | [x,y]=>AO (AM 18446744073709551616 (val 18446744073709551616 (AP x)+val 18446744073709551616 (AP y))) | _=>.dflt
def RW (a b:List Nat):Bool:=Nat.ble b.length a.length&&Nat.ble (val 18446744073709551616 b) (val 18446744073709551616 a)
def TG:List F→Bool | [x,y]=>Ay x&&BD 900 x&&(Ay y&&RW (AP x) (AP y)) | _=>false
def EN:List F→F | [x,y]=>AO (AM 18446744073709551616 (val 18446744073709551616 (AP x)-val 18446744073709551616 (AP y))) | _=>.dflt
theorem okAddW:Ai Tryz.prog 74 TP Hk :=
 Ae (c:=AR Tryz.f74) Tryz.func74 (by kernel_rfl) (by kernel_rfl) fun xs hp=>match xs,hp with
 | [x,y],hp=>by
  simp only [TP,Bool.and_eq_true] at hp
  obtain ⟨⟨hx,hxl⟩,hy,hyl⟩:=hp
  exact ⟨[AO (AP x),AO (AP y)],_,⟨(Bw hx).1,(Bw hy).1,trivial⟩,t74 1000 _ _ _ (Tv (Cg hx) (Cg hy) (HB hx hxl) (HB hy hyl)),.refl _⟩
theorem okSubW:Ai Tryz.prog 76 TG EN :=
 Ae (c:=AR Tryz.f76) Tryz.func76 (by kernel_rfl) (by kernel_rfl) fun xs hp=>match xs,hp with
 | [x,y],hp=>by
  simp only [TG,RW,Bool.and_eq_true,Nat.ble_eq] at hp
  obtain ⟨⟨hx,hxl⟩,hy,h1,h2⟩:=hp
  exact ⟨[AO (AP x),AO (AP y)],_,⟨(Bw hx).1,(Bw hy).1,trivial⟩,t76 2000 _ _ _ (S5 (Cg hx) (Cg hy) (Nat.le_trans (HB hx hxl) (by omega)) h1 h2),.refl _⟩
/-! ### function 77 -/
def T77 {ρ:Type} (ret:(Int)→Option ρ) (z:Int):Option ρ :=
 (AC (decide (z<0))
 (ret (-1))
 (AC (decide ((↑(AM 18446744073709551616 z.natAbs).length:Int) > 0))
 (ret (1))
 (ret (0))))
def G77 (z:Int):Option (Int):=T77 some z
theorem t77 (z:Int) (r:Int) (h:G77 z=some r):AY Tryz.prog Tryz.f77.results.toList [.code (AR Tryz.f77)] (start Tryz.f77.ntmps ([AH z].map .f)) (F.int .i64 r):=by
 refine AY.of_run Ap Ih (T:=[]) (n:=200) ?_
 refine gE (Y:=T77 (fun r=>some (.ret (F.int .i64 r))) z) (by kernel_rfl) ?_
 exact (gS h (fun _ h=>gR (by cases h;rfl)) (fun _ h=>(gS h (fun _ h=>gR (by cases h;rfl)) (fun _ h=>gR (by cases h;rfl)))))
theorem My {n:Nat}:AM 18446744073709551616 n=[] ↔ n=0:=by
 constructor
 ·intro h
  have:=DE (B:=18446744073709551616) (by omega) n
  rw [h] at this
  exact this.symm
 ·rintro rfl;exact BU _
theorem Ce {n:Nat}:((AM 18446744073709551616 n).length:Int) > 0 ↔ n ≠ 0:=by
 rw [ne_eq,← My,← List.length_eq_zero_iff]
 omega
theorem kD (z:Int):G77 z=some z.sign:=by
 unfold G77 T77
 rcases Int.lt_trichotomy z 0 with h | h | h
 ·rw [decide_eq_true h,Int.sign_eq_neg_one_of_neg h];rfl
 ·subst h
  rw [decide_eq_false (by omega),AJ,decide_eq_false (by rw [Ce];simp)]
  rfl
 ·rw [decide_eq_false (by omega),AJ,decide_eq_true (by rw [Ce];omega),Int.sign_eq_one_of_pos h];rfl
def envN6:Env:=(envN5.add 74 (.pure TP Hk)).add 76 (.pure TG EN)
theorem QP:Ax Tryz.prog envN6:=(Env.add_ok (Env.add_ok Ih okAddW.sp) okSubW.sp)
end
noncomputable section
def ND (l:List Nat):Bool:=match l.getLast? with | some 0=>false | _=>true
theorem Dl {l:List Nat}:ND l=true ↔ DH l:=by
 unfold ND DH
 split
 ·rename_i h;simp [h]
 ·rename_i h;simp;exact fun e=>h e
def BA (n:Nat):F→Bool | .agg [.bool s,x]=>Ay x&&BD n x&&(ND (AP x)&&(!s || !BD 0 x)) | _=>false
def sgn (s:Bool) (n:Nat):Int:=if s then -(n:Int) else n
def AG:F→Int | .agg [.bool s,x]=>sgn s (val 18446744073709551616 (AP x)) | _=>0
theorem Qa {x:F} (hx:Ay x=true) (ht:DH (AP x)):AM 18446744073709551616 (val 18446744073709551616 (AP x))=AP x:=Mx (by omega) (Cg hx) ht
theorem Dr {n k:Nat} (h:n<18446744073709551616 ^ k):(AM 18446744073709551616 n).length≤k:=by
 rcases Nat.lt_or_ge k (AM 18446744073709551616 n).length with hk | hk
 ·exfalso
  have h1:=DW (B:=18446744073709551616) (a:=List.replicate k (18446744073709551616-1)) (b:=AM 18446744073709551616 n) (by omega) (fun w hw=>by have:=(List.mem_replicate.1 hw).2;omega) (B8 (by omega) n) (by simpa using hk)
  have h2:∀ k:Nat,val 18446744073709551616 (List.replicate k (18446744073709551616-1))+1=18446744073709551616 ^ k:=by
   intro k
   induction k with
   | zero=>rfl
   | succ k ih =>
    simp only [List.replicate_succ,val,Nat.pow_succ,← ih]
    omega
  rw [DE (by omega)] at h1
  have:=h2 k
  omega
 ·exact hk
theorem DZ (s:Bool) (n:Nat):(sgn s n).natAbs=n:=by cases s <;> simp [sgn]
theorem O1 (s:Bool) (n:Nat):decide (sgn s n<0)=(s&&decide (n ≠ 0)):=by
 cases s
 ·simp only [sgn,Bool.false_eq_true,if_false,Bool.false_and]
  exact decide_eq_false (by omega)
 ·simp only [sgn,if_true,Bool.true_and]
  by_cases h:n=0
  ·rw [decide_eq_false (by omega),decide_eq_false (by omega)]
  ·rw [decide_eq_true (by omega),decide_eq_true h]
theorem Vo (z:Int):sgn (decide (z<0)) z.natAbs=z:=by
 unfold sgn
 split <;> simp at * <;> omega
theorem kF (s:Bool):sgn s 0=0:=by cases s <;> rfl
theorem ZH {x:F} (hx:Ay x=true):BD 0 x=true ↔ AP x=[]:=by
 cases x with
 | sl m g=>simp [BD,AP,D8]
 | _=>simp [Ay,Ci] at hx
theorem KA {n:Nat} {x:F} (h:BA n x=true):∃ s y,x=.agg [.bool s,y]∧Ay y=true∧AH (AG x)=.agg [.bool s,AO (AP y)]:=by
 unfold BA at h
 split at h
 ·rename_i s y
  simp only [Bool.and_eq_true,Dl] at h
  obtain ⟨⟨hy,hl⟩,ht,hs⟩:=h
  have e:AH (AG (.agg [.bool s,y]))=.agg [.bool s,AO (AP y)]:=by
   rw [show AG (.agg [.bool s,y])=sgn s (val 18446744073709551616 (AP y)) from rfl]
   unfold AH
   rw [DZ,O1,Qa hy ht]
   congr 2
   cases s with
   | false=>rfl
   | true =>
    simp only [Bool.not_true,Bool.false_or,Bool.not_eq_true'] at hs
    have:AP y ≠ []:=fun e=>by rw [(ZH hy).2 e] at hs;cases hs
    have:=Kj (B:=18446744073709551616) (by omega) _ ht this
    rw [Bool.true_and]
    congr 1
    exact decide_eq_true (by omega)
  exact ⟨s,y,rfl,hy,e⟩
 ·cases h
theorem Dy {n:Nat} {x:F} (h:BA n x=true):FLe x (AH (AG x))∧FLe (AH (AG x)) x:=by
 obtain ⟨s,y,hx,hy,e⟩:=KA h
 rw [e,hx]
 exact ⟨FLe.agg ⟨.refl _,(Bw hy).1,trivial⟩,FLe.agg ⟨.refl _,(Bw hy).2,trivial⟩⟩
theorem num_el {n:Nat} {x:F} (h:BA n x=true):ElLe x (AH (AG x))∧ElLe (AH (AG x)) x:=by
 obtain ⟨s,y,hx,hy,e⟩:=KA h
 have hc:Be y=true:=by
  cases y with
  | sl n g=>rfl
  | _=>simp [Ay,Ci] at hy
 rw [e,hx]
 exact ⟨ElLe.agg ⟨.refl _,(Bw hy).1,trivial⟩ fun _ u hu=>by
   simp only [List.mem_cons,List.not_mem_nil,or_false] at hu
   rcases hu with rfl | rfl <;> rfl,
  ElLe.agg ⟨.refl _,(Bw hy).2,trivial⟩ fun _ u hu=>by
   simp only [List.mem_cons,List.not_mem_nil,or_false] at hu
   rcases hu with rfl | rfl
   ·rfl
   ·exact hc⟩
theorem Bj (z:Int):AG (AH z)=z:=by
 simp only [AG,AH,CS,DE (show 1<18446744073709551616 by omega),Vo]
theorem CA {n:Nat} {z:Int} (h:z.natAbs<18446744073709551616 ^ n):BA n (AH z)=true:=by
 simp only [BA,AH,Mh,HQ (BH (B:=18446744073709551616) (by omega) _),CS,Bool.and_eq_true,Dl]
 refine ⟨⟨trivial,?_⟩,B8 (by omega) _,?_⟩
 ·rw [Nat.ble_eq];exact Dr h
 ·by_cases h0:z<0
  ·have:(AM 18446744073709551616 z.natAbs).length ≠ 0:=fun e=>by
    have:=My.1 (List.length_eq_zero_iff.1 e)
    omega
   cases hb:Nat.ble (AM 18446744073709551616 z.natAbs).length 0 with
   | false=>simp
   | true=>rw [Nat.ble_eq] at hb;omega
  ·simp [h0]
theorem BI {n:Nat} {x:F} (h:BA n x=true):(AG x).natAbs<18446744073709551616 ^ n:=by
 unfold BA at h
 split at h
 ·rename_i s y
  simp only [Bool.and_eq_true] at h
  obtain ⟨⟨hy,hl⟩,_⟩:=h
  simp only [AG,DZ]
  exact Nat.lt_of_lt_of_le (Jo _ (Cg hy)) (Nat.pow_le_pow_right (by omega) (HB hy hl))
 ·cases h
/-! ### function 71 -/
def T71 {ρ:Type} (ret:(Bool)→(List Nat)→Option ρ) (s:Bool) (w:List Nat):Option ρ :=
 (AC (Ay (AO w)&&decide ((AP (AO w)).length≤1000))
 (AC (s==true)
 (ret (decide ((↑(CT (AP (AO w))).length:Int) > 0)) (CT (AP (AO w))))
 (ret (false) (CT (AP (AO w)))))
 none)
def G71 (s:Bool) (w:List Nat):Option ((Bool) × (List Nat)):=T71 (fun rb rw=>some (rb,rw)) s w
theorem t71 (s:Bool) (w:List Nat) (rb:Bool) (rw:List Nat) (h:G71 s w=some (rb,rw)):AY Tryz.prog Tryz.f71.results.toList [.code (AR Tryz.f71)] (start Tryz.f71.ntmps ([F.bool s,AO w].map .f)) (F.agg [F.bool rb,AO rw]):=by
 refine AY.of_run Ap QP (T:=[]) (n:=200) ?_
 refine gE (Y:=T71 (fun rb rw=>some (.ret (F.agg [F.bool rb,AO rw]))) s w) (by kernel_rfl) ?_
 exact (gS h (fun _ h=>(gS h (fun _ h=>gR (by cases h;rfl)) (fun _ h=>gR (by cases h;rfl)))) gN)
theorem mV {s:Bool} {w:List Nat} (ow:okD 18446744073709551616 w) (hl:w.length≤1000):G71 s w=some (s&&decide (val 18446744073709551616 w ≠ 0),AM 18446744073709551616 (val 18446744073709551616 w)):=by
 unfold G71 T71
 rw [HQ ow,CS,decide_eq_true hl,HY (by omega) ow]
 cases s
 ·rfl
 ·simp only [Bool.and_self,AF,beq_self_eq_true,Bool.true_and]
  congr 2
  by_cases h:val 18446744073709551616 w=0
  ·rw [decide_eq_false (by rw [Ce];simpa using h),decide_eq_false (by simpa using h)]
  ·rw [decide_eq_true (by rw [Ce];exact h),decide_eq_true h]
def TJ:List F→Bool | [.bool _,x]=>Ay x&&BD 1000 x | _=>false
def aY:List F→F | [.bool s,x]=>AH (sgn s (val 18446744073709551616 (AP x))) | _=>.dflt
theorem okMade:Ai Tryz.prog 71 TJ aY :=
 Ae (c:=AR Tryz.f71) Tryz.func71 (by kernel_rfl) (by kernel_rfl) fun xs hp=>match xs,hp with
 | [.bool s,x],hp=>by
  simp only [TJ,Bool.and_eq_true] at hp
  obtain ⟨hx,hl⟩:=hp
  refine ⟨[.bool s,AO (AP x)],_,⟨.refl _,(Bw hx).1,trivial⟩,t71 s _ _ _ (mV (Cg hx) (HB hx hl)),?_⟩
  show FLe _ (AH (sgn s (val 18446744073709551616 (AP x))))
  unfold AH
  rw [DZ,O1]
  exact .refl _
/-! ### function 101 -/
def T101 {ρ:Type} (ret:(F)→Option ρ) (z:Int):Option ρ :=
 (ret (F.agg [F.bool false,AO (AM 18446744073709551616 z.natAbs)]))
def G101 (z:Int):Option (F):=T101 some z
theorem t101 (z:Int) (r:F) (h:G101 z=some r):AY Tryz.prog Tryz.f101.results.toList [.code (AR Tryz.f101)] (start Tryz.f101.ntmps ([AH z].map .f)) (r):=by
 refine AY.of_run Ap QP (T:=[]) (n:=200) ?_
 refine gE (Y:=T101 (fun r=>some (.ret (r))) z) (by kernel_rfl) ?_
 exact gR (by cases h;rfl)
def LF (n:Nat):List F→Bool | [x]=>BA n x | _=>false
def OJ (n:Nat):List F→Bool | [x,y]=>BA n x&&BA n y | _=>false
def NK:List F→F | [x]=>AH ((AG x).natAbs:Int) | _=>.dflt
theorem okAbs:Ai Tryz.prog 101 (LF 400) NK :=
 Ae (c:=AR Tryz.f101) Tryz.func101 (by kernel_rfl) (by kernel_rfl) fun xs hp=>match xs,hp with
 | [x],hp=>by
  refine ⟨[AH (AG x)],_,⟨(Dy hp).1,trivial⟩,t101 (AG x) _ rfl,?_⟩
  show FLe _ (AH ((AG x).natAbs:Int))
  unfold AH
  rw [Int.natAbs_natCast,decide_eq_false (by omega)]
  exact .refl _
def resSg:List F→F | [x]=>.int .i64 (AG x).sign | _=>.dflt
theorem okSg:Ai Tryz.prog 77 (LF 400) resSg :=
 Ae (c:=AR Tryz.f77) Tryz.func77 (by kernel_rfl) (by kernel_rfl) fun xs hp=>match xs,hp with
 | [x],hp=>⟨[AH (AG x)],_,⟨(Dy hp).1,trivial⟩,t77 (AG x) _ (kD _),.refl _⟩
def envN7:Env:=((envN6.add 71 (.pure TJ aY)).add 101 (.pure (LF 400) NK)).add 77 (.pure (LF 400) resSg)
theorem Mt:Ax Tryz.prog envN7:=(Env.add_ok (Env.add_ok (Env.add_ok QP okMade.sp) okAbs.sp) okSg.sp)
end
noncomputable section
theorem C1 (n:Nat):Ay (AO (AM 18446744073709551616 n))=true:=HQ (BH (by omega) n)
theorem DX (n:Nat):AP (AO (AM 18446744073709551616 n))=AM 18446744073709551616 n:=CS _
theorem DD (n:Nat):val 18446744073709551616 (AM 18446744073709551616 n)=n:=DE (by omega) n
theorem Cq {n k j:Nat} (h:n<18446744073709551616 ^ j) (hk:j≤k):BD k (AO (AM 18446744073709551616 n))=true:=by
 rw [Mh,Nat.ble_eq];exact Nat.le_trans (Dr h) hk
theorem Ww {n k j:Nat} (h:n<18446744073709551616 ^ j) (hk:j≤k):decide ((AM 18446744073709551616 n).length≤k)=true:=decide_eq_true (Nat.le_trans (Dr h) hk)
/-! ### function 47 -/
def T47 {ρ:Type} (ret:(F)→Option ρ) (n:Int):Option ρ :=
 (AC (decide (n<0))
 (AC (Ay (F.sl 1 (Aj [F.int .u64 (IntKind.u64.wrap (0-IntKind.u64.wrap n))]))&&true)
 (ret (AH (sgn true (val 18446744073709551616 (AP (F.sl 1 (Aj [F.int .u64 (IntKind.u64.wrap (0-IntKind.u64.wrap n))])))))))
 none)
 (AC (Ay (F.sl 1 (Aj [F.int .u64 (IntKind.u64.wrap n)]))&&true)
 (ret (AH (sgn false (val 18446744073709551616 (AP (F.sl 1 (Aj [F.int .u64 (IntKind.u64.wrap n)])))))))
 none))
def G47 (n:Int):Option (F):=T47 some n
theorem t47 (n:Int) (r:F) (h:G47 n=some r):AY Tryz.prog Tryz.f47.results.toList [.code (AR Tryz.f47)] (start Tryz.f47.ntmps ([F.int .i64 n].map .f)) (r):=by
 refine AY.of_run Ap Mt (T:=[]) (n:=200) ?_
 refine gE (Y:=T47 (fun r=>some (.ret (r))) n) (by kernel_rfl) ?_
 exact (gS h (fun _ h=>(gS h (fun _ h=>gR (by cases h;rfl)) gN)) (fun _ h=>(gS h (fun _ h=>gR (by cases h;rfl)) gN)))
def Al (x:Int):Bool:=match x with | .ofNat n=>Nat.ble n 9223372036854775807 | .negSucc n=>Nat.ble n 9223372036854775807
theorem BG {x:Int}:Al x=true ↔ -9223372036854775808≤x∧x≤9223372036854775807:=by
 cases x with
 | ofNat n=>simp only [Al,Nat.ble_eq];constructor <;> intro h <;> simp at * <;> omega
 | negSucc n=>simp only [Al,Nat.ble_eq];constructor <;> intro h <;> omega
theorem DR {x:Int}:IntKind.u64.wrap x=x % 18446744073709551616:=by rw [IntKind.wrap_u64]
theorem eU {n:Int} (h:-9223372036854775808≤n∧n≤9223372036854775807):G47 n=some (AH n):=by
 have key:∀ (v:Nat) (g:Nat→F) (s:Bool),g 0=F.int .u64 (v:Int)→v<18446744073709551616→sgn s v=n→AC (Ay (.sl 1 g)&&true) (some (F.agg [F.bool (decide (sgn s (val 18446744073709551616 (AP (.sl 1 g)))<0)),AO (AM 18446744073709551616 (sgn s (val 18446744073709551616 (AP (.sl 1 g)))).natAbs)])) none=some (AH n):=by
  intro v g s hg hv hn
  have hr:∀ j,j<1→g j=BP ([v].getD j 0):=fun j hj=>by
   obtain rfl:j=0:=by omega
   rw [hg];rfl
  have ho:okD 18446744073709551616 [v]:=by intro w hw;simp at hw;omega
  rw [D0 (m:=1) (l:=[v]) rfl hr ho,Ef (m:=1) (l:=[v]) rfl hr]
  show some (AH (sgn s (val 18446744073709551616 [v])))=_
  rw [show val 18446744073709551616 [v]=v by simp [val],hn]
 unfold G47 T47
 by_cases h0:n<0
 ·rw [decide_eq_true h0,AF]
  refine key (-n).toNat _ true ?_ (by omega) (by simp only [sgn,if_true];omega)
  show F.int .u64 (IntKind.u64.wrap (0-IntKind.u64.wrap n))=_
  rw [DR,DR]
  congr 1
  omega
 ·rw [decide_eq_false h0,AJ]
  refine key n.toNat _ false ?_ (by omega) (by simp only [sgn,Bool.false_eq_true,if_false];omega)
  show F.int .u64 (IntKind.u64.wrap n)=_
  rw [DR]
  congr 1
  omega
def NT:List F→Bool | [.int .i64 n]=>Al n | _=>false
def AD:List F→F | [.int .i64 n]=>AH n | _=>.dflt
theorem okWhole:Ai Tryz.prog 47 NT AD :=
 Bm (c:=AR Tryz.f47) Tryz.func47 (by kernel_rfl) (by kernel_rfl) fun xs hp=>match xs,hp with
 | [.int .i64 n],hp=>t47 n _ (eU (BG.1 hp))
/-! ### function 79 -/
def T79 {ρ:Type} (ret:(Bool)→(List Nat)→Option ρ) (z:Int):Option ρ :=
 (AC (Ay (AO (AM 18446744073709551616 z.natAbs))&&BD 1000 (AO (AM 18446744073709551616 z.natAbs)))
 (ret (decide (sgn (!decide (z<0)) (val 18446744073709551616 (AP (AO (AM 18446744073709551616 z.natAbs))))<0)) (AM 18446744073709551616 (sgn (!decide (z<0)) (val 18446744073709551616 (AP (AO (AM 18446744073709551616 z.natAbs))))).natAbs))
 none)
def G79 (z:Int):Option ((Bool) × (List Nat)):=T79 (fun rb rl=>some (rb,rl)) z
theorem t79 (z:Int) (rb:Bool) (rl:List Nat) (h:G79 z=some (rb,rl)):AY Tryz.prog Tryz.f79.results.toList [.code (AR Tryz.f79)] (start Tryz.f79.ntmps ([AH z].map .f)) (F.agg [F.bool rb,AO rl]):=by
 refine AY.of_run Ap Mt (T:=[]) (n:=200) ?_
 refine gE (Y:=T79 (fun rb rl=>some (.ret (F.agg [F.bool rb,AO rl]))) z) (by kernel_rfl) ?_
 exact (gS h (fun _ h=>gR (by cases h;rfl)) gN)
theorem fY {z:Int} (h:z.natAbs<18446744073709551616 ^ 400):∃ s l,G79 z=some (s,l)∧F.agg [.bool s,AO l]=AH (-z):=by
 unfold G79 T79
 rw [C1,Cq h (by omega),DX,DD]
 refine ⟨_,_,rfl,?_⟩
 have e:sgn (!decide (z<0)) z.natAbs = -z:=by
  unfold sgn
  by_cases h:z<0
  ·rw [decide_eq_true h];simp;omega
  ·rw [decide_eq_false h];simp;omega
 rw [e]
 rfl
def J2:List F→F | [x]=>AH (-(AG x)) | _=>.dflt
theorem okMinus:Ai Tryz.prog 79 (LF 400) J2 :=
 Ae (c:=AR Tryz.f79) Tryz.func79 (by kernel_rfl) (by kernel_rfl) fun xs hp=>match xs,hp with
 | [x],hp=>by
  obtain ⟨s,l,h1,h2⟩:=fY (BI hp)
  exact ⟨[AH (AG x)],_,⟨(Dy hp).1,trivial⟩,t79 (AG x) _ _ h1,by rw [h2];exact .refl _⟩
/-! ### function 49 -/
def T49 {ρ:Type} (ret:(Bool)→(List Nat)→Option ρ) (x:Int) (y:Int):Option ρ :=
 (AC (decide (x<0)==decide (y<0))
 (AC (Ay (AO (AM 18446744073709551616 x.natAbs))&&BD 900 (AO (AM 18446744073709551616 x.natAbs))&&(Ay (AO (AM 18446744073709551616 y.natAbs))&&BD 900 (AO (AM 18446744073709551616 y.natAbs))))
 (AC (Ay (Hk [AO (AM 18446744073709551616 x.natAbs),AO (AM 18446744073709551616 y.natAbs)])&&BD 1000 (Hk [AO (AM 18446744073709551616 x.natAbs),AO (AM 18446744073709551616 y.natAbs)]))
 (ret (decide (sgn (decide (x<0)) (val 18446744073709551616 (AP (Hk [AO (AM 18446744073709551616 x.natAbs),AO (AM 18446744073709551616 y.natAbs)])))<0)) (AM 18446744073709551616 (sgn (decide (x<0)) (val 18446744073709551616 (AP (Hk [AO (AM 18446744073709551616 x.natAbs),AO (AM 18446744073709551616 y.natAbs)])))).natAbs))
 none)
 none)
 (AC (Ay (AO (AM 18446744073709551616 x.natAbs))&&decide ((AP (AO (AM 18446744073709551616 x.natAbs))).length≤1000)&&(Ay (AO (AM 18446744073709551616 y.natAbs))&&decide ((AP (AO (AM 18446744073709551616 y.natAbs))).length≤1000)))
 (AC (decide (Je (AP (AO (AM 18446744073709551616 x.natAbs))) (AP (AO (AM 18446744073709551616 y.natAbs))) ≥ 0))
 (AC (Ay (AO (AM 18446744073709551616 x.natAbs))&&BD 900 (AO (AM 18446744073709551616 x.natAbs))&&(Ay (AO (AM 18446744073709551616 y.natAbs))&&RW (AP (AO (AM 18446744073709551616 x.natAbs))) (AP (AO (AM 18446744073709551616 y.natAbs)))))
 (AC (Ay (EN [AO (AM 18446744073709551616 x.natAbs),AO (AM 18446744073709551616 y.natAbs)])&&BD 1000 (EN [AO (AM 18446744073709551616 x.natAbs),AO (AM 18446744073709551616 y.natAbs)]))
 (ret (decide (sgn (decide (x<0)) (val 18446744073709551616 (AP (EN [AO (AM 18446744073709551616 x.natAbs),AO (AM 18446744073709551616 y.natAbs)])))<0)) (AM 18446744073709551616 (sgn (decide (x<0)) (val 18446744073709551616 (AP (EN [AO (AM 18446744073709551616 x.natAbs),AO (AM 18446744073709551616 y.natAbs)])))).natAbs))
 none)
 none)
 (AC (Ay (AO (AM 18446744073709551616 y.natAbs))&&BD 900 (AO (AM 18446744073709551616 y.natAbs))&&(Ay (AO (AM 18446744073709551616 x.natAbs))&&RW (AP (AO (AM 18446744073709551616 y.natAbs))) (AP (AO (AM 18446744073709551616 x.natAbs)))))
 (AC (Ay (EN [AO (AM 18446744073709551616 y.natAbs),AO (AM 18446744073709551616 x.natAbs)])&&BD 1000 (EN [AO (AM 18446744073709551616 y.natAbs),AO (AM 18446744073709551616 x.natAbs)]))
 (ret (decide (sgn (decide (y<0)) (val 18446744073709551616 (AP (EN [AO (AM 18446744073709551616 y.natAbs),AO (AM 18446744073709551616 x.natAbs)])))<0)) (AM 18446744073709551616 (sgn (decide (y<0)) (val 18446744073709551616 (AP (EN [AO (AM 18446744073709551616 y.natAbs),AO (AM 18446744073709551616 x.natAbs)])))).natAbs))
 none)
 none))
 none))
def G49 (x:Int) (y:Int):Option ((Bool) × (List Nat)):=T49 (fun rb rl=>some (rb,rl)) x y
theorem t49 (x:Int) (y:Int) (rb:Bool) (rl:List Nat) (h:G49 x y=some (rb,rl)):AY Tryz.prog Tryz.f49.results.toList [.code (AR Tryz.f49)] (start Tryz.f49.ntmps ([AH x,AH y].map .f)) (F.agg [F.bool rb,AO rl]):=by
 refine AY.of_run Ap Mt (T:=[]) (n:=200) ?_
 refine gE (Y:=T49 (fun rb rl=>some (.ret (F.agg [F.bool rb,AO rl]))) x y) (by kernel_rfl) ?_
 exact (gS h (fun _ h=>(gS h (fun _ h=>(gS h (fun _ h=>gR (by cases h;rfl)) gN)) gN)) (fun _ h=>(gS h (fun _ h=>(gS h (fun _ h=>(gS h (fun _ h=>(gS h (fun _ h=>gR (by cases h;rfl)) gN)) gN)) (fun _ h=>(gS h (fun _ h=>(gS h (fun _ h=>gR (by cases h;rfl)) gN)) gN)))) gN)))
theorem Q7 (a b:List Nat):Hk [AO a,AO b]=AO (AM 18446744073709551616 (val 18446744073709551616 a+val 18446744073709551616 b)):=by simp only [Hk,CS]
theorem Q6 (a b:List Nat):EN [AO a,AO b]=AO (AM 18446744073709551616 (val 18446744073709551616 a-val 18446744073709551616 b)):=by simp only [EN,CS]
theorem PO {m n:Nat} (h:n≤m):RW (AM 18446744073709551616 m) (AM 18446744073709551616 n)=true:=by
 simp only [RW,Bool.and_eq_true,Nat.ble_eq,DD]
 refine ⟨?_,h⟩
 rcases Nat.lt_or_ge (AM 18446744073709551616 m).length (AM 18446744073709551616 n).length with h1 | h1
 ·have:=DW (B:=18446744073709551616) (by omega) (BH (by omega) m) (B8 (by omega) n) h1
  simp only [DD] at this
  omega
 ·exact h1
theorem lI {n m:Nat} (hn:n<18446744073709551616 ^ 400) (hm:m<18446744073709551616 ^ 400):n+m<18446744073709551616 ^ 401:=by
 have:18446744073709551616 ^ 401=18446744073709551616 ^ 400*18446744073709551616:=Nat.pow_succ 18446744073709551616 400
 generalize 18446744073709551616 ^ 400=t at *
 omega
theorem lJ {x y:Int} (hx:x.natAbs<18446744073709551616 ^ 400) (hy:y.natAbs<18446744073709551616 ^ 400):∃ s l,G49 x y=some (s,l)∧F.agg [.bool s,AO l]=AH (x+y):=by
 have h1:=lI hx hy
 have h2:x.natAbs-y.natAbs<18446744073709551616 ^ 400:=by omega
 have h3:y.natAbs-x.natAbs<18446744073709551616 ^ 400:=by omega
 unfold G49 T49
 simp only [Q7,Q6,C1,DX,DD,Cq hx (show 400≤900 by omega),Cq hy (show 400≤900 by omega),Ww hx (show 400≤1000 by omega),Ww hy (show 400≤1000 by omega),Cq h1 (show 401≤1000 by omega),Cq h2 (show 400≤1000 by omega),Cq h3 (show 400≤1000 by omega),Bool.true_and,Bool.and_true,AF]
 by_cases hs:decide (x<0)=decide (y<0)
 ·rw [hs,beq_self_eq_true,AF]
  refine ⟨_,_,rfl,?_⟩
  have e:sgn (decide (y<0)) (x.natAbs+y.natAbs)=x+y:=by
   unfold sgn
   by_cases h:y<0
   ·rw [decide_eq_true h] at hs ⊢;have:=of_decide_eq_true hs;simp;omega
   ·rw [decide_eq_false h] at hs ⊢;have:=of_decide_eq_false hs;simp;omega
  rw [e]
  rfl
 ·have hb:(decide (x<0)==decide (y<0))=false:=by simpa using hs
  rw [hb,AJ]
  by_cases hc:y.natAbs≤x.natAbs
  ·rw [decide_eq_true ((Lo _ _).1.2 hc),PO hc]
   refine ⟨_,_,rfl,?_⟩
   have e:sgn (decide (x<0)) (x.natAbs-y.natAbs)=x+y:=by
    unfold sgn
    by_cases h:x<0
    ·rw [decide_eq_true h] at hs ⊢;have:¬ y<0:=fun h'=>hs (by rw [decide_eq_true h']);simp;omega
    ·rw [decide_eq_false h] at hs ⊢;have:y<0:=Classical.byContradiction fun h'=>hs (by rw [decide_eq_false h']);simp;omega
   rw [e]
   rfl
  ·rw [decide_eq_false (fun h=>hc ((Lo _ _).1.1 h)),AJ,PO (by omega)]
   refine ⟨_,_,rfl,?_⟩
   have e:sgn (decide (y<0)) (y.natAbs-x.natAbs)=x+y:=by
    unfold sgn
    by_cases h:y<0
    ·rw [decide_eq_true h] at hs ⊢;have:¬ x<0:=fun h'=>hs (by rw [decide_eq_true h']);simp;omega
    ·rw [decide_eq_false h] at hs ⊢;have:x<0:=Classical.byContradiction fun h'=>hs (by rw [decide_eq_false h']);simp;omega
   rw [e]
   rfl
def aV:List F→F | [x,y]=>AH (AG x+AG y) | _=>.dflt
theorem NP {n:Nat} {x y:F} (h:OJ n [x,y]=true):BA n x=true∧BA n y=true:=by simpa [OJ] using h
theorem okPlus:Ai Tryz.prog 49 (OJ 400) aV :=
 Ae (c:=AR Tryz.f49) Tryz.func49 (by kernel_rfl) (by kernel_rfl) fun xs hp=>match xs,hp with
 | [x,y],hp=>by
  obtain ⟨hx,hy⟩:=NP hp
  obtain ⟨s,l,h1,h2⟩:=lJ (BI hx) (BI hy)
  exact ⟨[AH (AG x),AH (AG y)],_,⟨(Dy hx).1,(Dy hy).1,trivial⟩,t49 _ _ _ _ h1,by rw [h2];exact .refl _⟩
def envN8:Env:=((envN7.add 47 (.pure NT AD)).add 79 (.pure (LF 400) J2)).add 49 (.pure (OJ 400) aV)
theorem KN:Ax Tryz.prog envN8:=(Env.add_ok (Env.add_ok (Env.add_ok Mt okWhole.sp) okMinus.sp) okPlus.sp)
end
end Go.Proofs.YtlefbocihikaoaaGreat.R
