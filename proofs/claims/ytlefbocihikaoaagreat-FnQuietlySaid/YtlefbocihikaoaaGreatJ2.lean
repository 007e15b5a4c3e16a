/-
 The own walk and what it shows,part 2 of 10.
-/
import Derived.Test.YtlefbocihikaoaaGreatJ1
set_option linter.unusedVariables false
set_option linter.unusedSimpArgs false
set_option exponentiation.threshold 30000
namespace Go.Proofs.YtlefbocihikaoaaGreat.R
open Go
section
variable {P:Program} {w:World} {Z:Nat→Prop} {m:Nat→Nat} {H:List HO} {ty:TypeId→Option TI} {ρ:Type} {r:ρ} {st:St} {K:U→St→Option ρ}
mutual
theorem fS:∀ (u:U) (x:F),toF H u=some x→∀ o ∈ Cp u,Aw H o
 | .agg us,x,h,o,ho=>by
  simp only [toF] at h
  cases hx:Bb H us with
  | none=>rw [hx] at h;cases h
  | some xs=>exact Gx us xs hx o (by simpa [Cp] using ho)
 | .tup us,x,h,o,ho=>by
  simp only [toF] at h
  cases hx:Bb H us with
  | none=>rw [hx] at h;cases h
  | some xs=>exact Gx us xs hx o (by simpa [Cp] using ho)
 | .hs o' gen off len,x,h,o,ho=>by
  simp only [Cp,List.mem_singleton] at ho
  subst ho
  simp only [toF] at h
  split at h
  ·rename_i sz n g he;exact ⟨_,he,rfl⟩
  ·cases h
 | .f _,_,_,_,ho=>by simp [Cp] at ho
 | .hp _ _,_,_,_,ho=>by simp [Cp] at ho
 | .ep _ _ _ _,_,_,_,ho=>by simp [Cp] at ho
 | .va _,_,_,_,ho=>by simp [Cp] at ho
 | .nilp,_,_,_,ho=>by simp [Cp] at ho
 | .nils,_,_,_,ho=>by simp [Cp] at ho
 | .fn _ _,_,_,_,ho=>by simp [Cp] at ho
 | .nilfn,_,_,_,ho=>by simp [Cp] at ho
 | .undef,_,_,_,ho=>by simp [Cp] at ho
 | .bad,_,_,_,ho=>by simp [Cp] at ho
theorem Gx:∀ (us:List U) (xs:List F),Bb H us=some xs→∀ o ∈ As us,Aw H o
 | [],_,_,o,ho=>by simp [As] at ho
 | u :: us,xs,h,o,ho=>by
  simp only [Bb] at h
  split at h
  ·rename_i x xs' hx hxs
   simp only [As,List.mem_append] at ho
   rcases ho with ho | ho
   ·exact fS u x hx o ho
   ·exact Gx us xs' hxs o ho
  ·cases h
end
theorem H6:∀ (os:List Nat) (H:List HO) (Z:Nat→Prop),HOK w Z m H→(∀ o ∈ os,∃ ob,H[o]?=some ob∧(ob.live=true ∨ ob=.dead)) →
  ∃ Z',Ext w Z m H w Z' m (Bh H os)∧HOK w Z' m (Bh H os)∧(∀ o ∈ os,Aw H o→Z' (m o))∧∀ k:Nat,H[k]?=some HO.free→(Bh H os)[k]?=some HO.free
 | [],H,Z,hH,_=>⟨Z,Ext.refl _ _ _ _,hH,fun o ho=>by simp at ho,fun k h=>h⟩
 | o :: os,H,Z,hH,hos=>by
  obtain ⟨ob,ho,hob⟩:=hos o (List.mem_cons_self ..)
  rcases hob with hlive | hdead
  ·have hl:Aw H o:=⟨ob,ho,hlive⟩
   obtain ⟨hE,hH'⟩:=nW hH hl
   have hlt:=(List.getElem?_eq_some_iff.1 ho).1
   obtain ⟨Z',hE',hH'',hz,hfr⟩:=H6 os (H.set o .dead) _ hH' (fun k hk=>by
    obtain ⟨ob',h',hob'⟩:=hos k (List.mem_cons_of_mem _ hk)
    by_cases hko:o=k
    ·subst hko;exact ⟨.dead,by simp [hlt],.inr rfl⟩
    ·exact ⟨ob',by rw [List.getElem?_set_ne hko];exact h',hob'⟩)
   refine ⟨Z',hE.trans hE',hH'',fun k hk hkl=>?_,fun k hk=>hfr k ?_⟩
   ·by_cases hko:k=o
    ·subst hko;exact hE'.sub _ (.inr rfl)
    ·rcases List.mem_cons.1 hk with h | h
     ·exact absurd h hko
     ·obtain ⟨ob',h',hob'⟩:=hkl
      exact hz k h ⟨ob',by rw [List.getElem?_set_ne (Ne.symm hko)];exact h',hob'⟩
   ·have:o ≠ k:=by rintro rfl;rw [ho] at hk;cases hk;cases hlive
    rw [List.getElem?_set_ne this];exact hk
  ·subst hdead
   have hlt:=(List.getElem?_eq_some_iff.1 ho).1
   have e:H.set o .dead=H:=by
    apply List.ext_getElem?
    intro k
    by_cases hk:o=k
    ·subst hk;rw [ho];simp [hlt]
    ·rw [List.getElem?_set_ne hk]
   obtain ⟨Z',hE',hH'',hz,hfr⟩:=H6 os H Z hH (fun k hk=>hos k (List.mem_cons_of_mem _ hk))
   simp only [Bh,e]
   refine ⟨Z',hE',hH'',fun k hk hkl=>?_,hfr⟩
   rcases List.mem_cons.1 hk with h | h
   ·subst h;obtain ⟨ob',h',hob'⟩:=hkl;rw [ho] at h';cases h';cases hob'
   ·exact hz k h hkl
theorem G0 (hH:HOK w Z m H) {us:List U} {vs:List Value} (hr:CP w Z m H us vs) {xs:List F} (hx:Bb H us=some xs) :
  ∃ Z',Ext w Z m H w Z' m (Bh H (As us))∧HOK w Z' m (Bh H (As us))∧Jk w Z' xs vs∧∀ k:Nat,H[k]?=some HO.free→(Bh H (As us))[k]?=some HO.free:=by
 obtain ⟨Z',hE,hH',hz,hfr⟩:=H6 (As us) H Z hH (fun o ho=>by
  obtain ⟨ob,h,hl⟩:=Gx us xs hx o ho
  exact ⟨ob,h,.inl hl⟩)
 refine ⟨Z',hE,hH',?_,hfr⟩
 obtain ⟨hl,hg⟩:=Bf us xs hx
 refine ⟨by rw [← hl];exact hr.1,fun j x v hx' hv=>?_⟩
 have hj:=(List.getElem?_eq_some_iff.1 hx').1
 have hu:us[j]?=some us[j]:=List.getElem?_eq_getElem (by omega)
 refine (Hj hH (fun _ _ h=>h) (hr.2 j _ v hu hv) (hg j _ x hu hx')).mono ?_ (fun _ _=>rfl)
 rintro b (hb | ⟨o,ho,hlv,rfl⟩)
 ·exact hE.sub b hb
 ·exact hz o (EY us _ o (List.getElem_mem _) ho) hlv
theorem nV {α:Type} (l:List α) (n i j:Nat) (hi:i<n) (hj:j<l.length):((List.replicate n l).flatten)[i*l.length+j]?=l[j]?:=by
 induction n generalizing i with
 | zero=>omega
 | succ n ih =>
  rw [List.replicate_succ,List.flatten_cons]
  cases i with
  | zero=>rw [List.getElem?_append_left (by omega)];simp
  | succ i =>
   rw [List.getElem?_append_right (by rw [Nat.add_mul];omega)]
   have:(i+1)*l.length+j-l.length=i*l.length+j:=by rw [Nat.add_mul];omega
   rw [this];exact ih i (by omega)
theorem Nu (hty:Gl P ty) (hH:HOK w Z m st.heap) {slot:Option Nat} (hs:De st.heap slot) {t:TypeId} {len:Nat} {ps:List (Nat × U)} {qs:Array (Nat × Value)} (hp:Kb w Z m st.heap ps qs.toList)
  (h:C5 ty slot t len ps st K=some r) :
  ∃ u st',K u st'=some r∧st'.tmps=st.tmps∧∃ v w' Z' m',(Instr.buildSlice t len qs).run P w=.ok v w'∧Ext w Z m st.heap w' Z' m' st'.heap∧HOK w' Z' m' st'.heap∧RepU w' Z' m' st'.heap u v:=by
 unfold C5 at h
 split at h
 ·rename_i ti hti
  obtain ⟨d,hd,hu⟩:=Cl (hty.2 _ _ hti)
  split at h
  ·rename_i e huk
   rw [huk] at hu
   obtain rfl:=CN hu.symm
   split at h
   ·rename_i te hte
    split at h
    ·rename_i us hus
     obtain ⟨xs,hxs,h⟩:=B0 _ _ h
     ·replace h:=AI h;obtain ⟨h1,h⟩:=h
      simp only [Bool.and_eq_true,bne_iff_ne,ne_eq,beq_iff_eq,decide_eq_true_eq] at h1
      obtain ⟨⟨⟨⟨⟨h0,hzl⟩,hlim⟩,hone⟩,hcell⟩,_⟩:=h1
      obtain ⟨z,hz,hzc⟩:=MK (hty.2 _ _ hte) w
      have hzs:z.cells.size=te.size:=by have:=congrArg List.length hzc;simp at this;omega
      let cells0:Array Value:=(Array.range (len*te.size)).map fun i=>(if len*te.size=0 then #[] else z.cells)[i % (if len*te.size=0 then #[] else z.cells).size]!
      have hc0:CP w Z m st.heap ((List.replicate len (te.zero.map cv)).flatten) cells0.toList:=by
       refine ⟨by simp [cells0,hzl],fun j u v hu hv=>?_⟩
       have hjl:=(List.getElem?_eq_some_iff.1 hu).1
       have hlf:((List.replicate len (te.zero.map cv)).flatten).length=len*te.size:=by simp [hzl]
       rw [hlf] at hjl
       have hne:¬ len*te.size=0:=by omega
       have hi:j / te.size<len:=Nat.div_lt_of_lt_mul (by rw [Nat.mul_comm];exact hjl)
       have hj:j % te.size<te.size:=Nat.mod_lt _ (by omega)
       have hjj:j / te.size*te.size+j % te.size=j:=by rw [Nat.mul_comm];exact Nat.div_add_mod j te.size
       rw [← hjj] at hu hv
       have e1:=nV (te.zero.map cv) len (j / te.size) (j % te.size) hi (by simp [hzl];omega)
       rw [List.length_map,hzl] at e1
       rw [e1] at hu
       simp only [cells0,if_neg hne] at hv
       rw [HL z.cells te.size len hzs h0 _ _ hi hj] at hv
       have e2:te.zero[j % te.size]?=some (z.cells[j % te.size]'(by omega)):=by
        rw [← hzc];simp [show j % te.size<z.cells.size by omega]
       rw [List.getElem?_map,e2] at hu
       cases hu;cases hv;exact Qb _
      obtain ⟨vs',e1,e2⟩:=JE _ ps qs.toList _ us cells0 hp hc0 hus
      obtain ⟨Z',hE,hH',hL,hfr⟩:=G0 hH e2 hxs
      have hs':De ({ st with heap:=Bh st.heap (As us) }:St).heap slot:=fun k hk=>hfr k (hs k hk)
      have hulen:us.length=len*te.size:=by
       have h1:=e2.1
       have hsz:vs'.size=cells0.size:=by
        have:∀ (Bv:Nat→Option (Nat × Nat)) (l:List (Nat × Value)) (c c':Array Value),Instr.fill Bv c l=some c'→c'.size=c.size:=by
         intro Bv l
         induction l with
         | nil=>intro c c' h;simp only [Instr.fill,Option.some.injEq] at h;rw [h]
         | cons p l ih =>
          intro c c' h
          obtain ⟨i,v⟩:=p
          simp only [Instr.fill] at h
          split at h
          ·cases h
          ·split at h
           ·cases h
           ·have:=ih _ _ h
            rw [this]
            have hfl:∀ off:Nat,(v.cells.zipIdx.foldl (fun cs (x:Value × Nat)=>cs.setIfInBounds (off+x.2) x.1) c).size=c.size:=fun off=>by
             rw [← Array.length_toList,QH,II];simp
            exact hfl _
        exact this _ _ _ _ e1
       rw [h1];simp [hsz,cells0]
      have hxl:xs.length=len*te.size:=by rw [← Js hxs];exact hulen
      have hrow:∀ i,i<len→(Aj (Lp te.isAgg te.size len xs) i).cells=(xs.drop (i*te.size)).take te.size:=by
       intro i hi
       rw [Qe _ _ _ _ _ hi]
       have hin:(i+1)*te.size≤len*te.size:=Nat.mul_le_mul_right _ hi
       rw [Nat.add_mul] at hin
       unfold mkF
       cases hag:te.isAgg with
       | true=>rfl
       | false =>
        rw [hag] at hone
        simp only [Bool.false_or,beq_iff_eq] at hone
        have hl1:((xs.drop (i*te.size)).take te.size).length=1:=by simp;omega
        match hq:(xs.drop (i*te.size)).take te.size,hl1 with
        | [x],_ =>
         have hmem:x ∈ xs:=List.mem_of_mem_drop (List.mem_of_mem_take (by rw [hq];exact List.mem_singleton.2 rfl))
         have:=List.all_eq_true.1 hcell x hmem
         simp only [Bool.false_eq_true,if_false,List.headD_cons]
         cases x <;> first | rfl | simp [Be] at this
      obtain ⟨m',p1,p2,p3⟩:=Kp (st:={ st with heap:=Bh st.heap (As us) }) hH' hs' e te.size len len (Aj (Lp te.isAgg te.size len xs)) vs'.toList h0 (Nat.le_refl _)
       (by rw [← hL.1];exact hxl)
       (fun i hi=>by
        rw [hrow i hi]
        have hin:(i+1)*te.size≤len*te.size:=Nat.mul_le_mul_right _ hi
        rw [Nat.add_mul] at hin
        simp;omega)
       (fun i j u hi hu=>by
        rw [hrow i hi,Bt] at hu
        split at hu
        ·have hlt:=(List.getElem?_eq_some_iff.1 hu).1
         refine ⟨List.all_eq_true.1 hcell u (List.mem_of_getElem? hu),vs'.toList[i*te.size+j]'(by rw [← hL.1];exact hlt),List.getElem?_eq_getElem _,hL.2 _ _ _ hu (List.getElem?_eq_getElem _)⟩
        ·cases hu)
      refine ⟨_,_,h,HP _ _ _,.slice (some ⟨w.heap.size,0,none⟩) len len,_,Z',m',?_,hE.trans p1,p2,?_⟩
      ·unfold Instr.buildSlice
       simp only [Sem.run_bind,Ao hd,Result.andThen,Bc (hty.2 _ _ hte)]
       rw [if_neg (by omega)]
       by_cases hn:len*te.size=0
       ·have e1':=e1
        simp only [cells0,if_pos hn] at e1'
        simp only [if_pos hn,Sem.run_pure,e1',newRow,Sem.run_bind,run_newObj,Result.andThen,Array.toArray_toList]
        rfl
       ·have e1':=e1
        simp only [cells0,if_neg hn] at e1'
        simp only [if_neg hn,hz,Result.andThen,Sem.run_bind,Sem.run_pure,e1',newRow,run_newObj,Array.toArray_toList]
        rfl
      ·have:(({ st with heap:=Bh st.heap (As us) }:St).new slot .dead).1=(st.new slot .dead).1:=by
        cases slot with
        | some k=>rfl
        | none =>
         simp only [St.new]
         have:=hE.len
         have:∀ (os:List Nat) (H:List HO),(Bh H os).length=H.length:=by
          intro os
          induction os with
          | nil=>intro H;rfl
          | cons o os ih=>intro H;simp only [Bh,ih,List.length_set]
         exact this _ _
       rw [this] at p3
       exact p3
    ·cases h
   ·cases h
  ·cases h
 ·cases h
end
section
variable {P:Program} {w:World} {Z:Nat→Prop} {m:Nat→Nat} {H:List HO} {ty:TypeId→Option TI} {ρ:Type} {r:ρ} {st:St} {K:U→St→Option ρ}
theorem Td {w:World} {b:Nat} {c:Array Value} {el:TypeId} (h:w.heap[b]?=some (.cells c el)) :
  w.freeze { block:=b,off:=c.size } 1=Bd w b (.cells c el (c.size,c.size+1)):=by
 unfold World.freeze Bd
 simp only [Nat.one_ne_zero,if_false]
 congr 1
 apply Array.ext_getElem?
 intro k
 rw [Array.getElem?_modify,Array.getElem?_setIfInBounds]
 split
 ·rename_i e
  subst e
  have:=(Array.getElem?_eq_some_iff.1 h).1
  have hg:w.heap[b]=.cells c el:=by rw [Array.getElem?_eq_getElem this] at h;exact Option.some.inj h
  simp [this,hg]
 ·rfl
theorem Yf (w:World) (o o':Obj):Bd (Bl w o) w.heap.size o'=Bl w o':=by
 unfold Bd Bl
 congr 1
 apply Array.ext_getElem?
 intro k
 rw [Array.getElem?_setIfInBounds]
 simp only [Array.getElem?_push,Array.size_push]
 split
 ·rename_i e;subst e;simp
 ·rename_i e;simp [Ne.symm e]
theorem Pz (f:Nat→Int) (body:Value→ByteArray→Sem (ForInStep ByteArray)) (hb:∀ n s,body (.int .u8 n) s=pure (.yield (s.push (UInt8.ofNat n.toNat)))):∀ (l:List Nat) (s:ByteArray) (w:World),
  (forIn (m:=Sem) (l.map fun i=>Value.int .u8 (f i)) s body).run P w=.ok (l.foldl (fun s i=>s.push (UInt8.ofNat (f i).toNat)) s) w
 | [],s,w=>by simp
 | i :: l,s,w=>by
  simp only [List.map_cons,List.forIn_cons,Sem.run_bind,hb,Sem.run_pure,Result.andThen,List.foldl_cons]
  exact Pz f body hb l _ w
theorem Ou (f:Nat→Int) (l:List Nat):∀ s:ByteArray,(l.foldl (fun s i=>s.push (UInt8.ofNat (f i).toNat)) s).data.toList=s.data.toList++l.map fun i=>UInt8.ofNat (f i).toNat:=by
 induction l with
 | nil=>intro s;simp
 | cons i l ih=>intro s;rw [List.foldl_cons,ih];simp [ByteArray.push]
theorem PZ (hH:HOK w Z m st.heap) {slot:Option Nat} (hs:De st.heap slot) (el:TypeId) (n cap:Nat) (g:Nat→F) (c:List Value) (hcap:n≤cap) (hc:c.length=cap)
  (hgl:∀ i,i<n→(g i).cells.length=1) (hr:∀ (i j:Nat) (u:F),i<n→(g i).cells[j]?=some u→Be u=true∧∃ v,c[i*1+j]?=some v∧RepF w Z u v) (fr:Nat × Nat) (hfr:cap≤fr.1) :
  ∃ m',Ext w Z m st.heap (Bl w (.cells c.toArray el fr)) Z m' (st.new slot (.arr 1 n g)).2.heap∧HOK (Bl w (.cells c.toArray el fr)) Z m' (st.new slot (.arr 1 n g)).2.heap ∧
   RepU (Bl w (.cells c.toArray el fr)) Z m' (st.new slot (.arr 1 n g)).2.heap (.hs (st.new slot .dead).1 n 0 n) (.slice (some ⟨w.heap.size,0,none⟩) n cap):=by
 rw [Px,NW]
 have hE:=PA (ob:=.arr 1 n g) (c:=.cells c.toArray el fr) hH hs
 refine ⟨_,hE,Tb hH hs ?_,?_⟩
 ·refine ⟨by simp,c.toArray,el,fr,C8 _ _,fun j hj=>?_,by simp [hc];exact hcap,hgl,fun i j u hi hu=>?_⟩
  ·simp only [World.frozen?,C8]
   simp at hj ⊢
   omega
  obtain ⟨hk,v,hv,hr'⟩:=hr i j u hi hu
  exact ⟨hk,v,by simpa using hv,hr'.mono hE.sub hE.kept⟩
 ·refine .hs _ _ _ _ _ rfl (NY hs (by simp)) (fun sz' n' g' e=>?_) fun sz' n' g' e _=>?_
  ·rw [Do _ _ _ hs] at e;cases e;exact Nat.le_refl _
  ·rw [Do _ _ _ hs] at e;cases e
   refine ⟨by omega,_,_,rfl,hcap,fun _=>by simp,?_⟩
   simp only [if_true,Az,C8,List.size_toArray,hc]
   simp
def BY (s:ByteArray) (cap:Nat):List Value:=(s.data.map fun b=>Value.int .u8 b.toNat).toList++(Array.replicate (cap-s.size) (Value.int .u8 0)).toList
theorem MF (e:TypeId) (s:ByteArray):∃ cap,s.size≤cap ∧
  (Conv.stringToBytes e s).run P w=.ok (.slice (some ⟨w.heap.size,0,none⟩) s.size cap) (Bl (CH w 1) (.cells (BY s cap).toArray e (cap,cap+1))):=by
 obtain ⟨cap,hcap,hch⟩:∃ cap,s.size≤cap∧(choose (.appendCap s.size 0 e)).run P w=.ok cap (CH w 1) :=
  ⟨_,Nat.le_add_right _ _,rfl⟩
 refine ⟨cap,hcap,?_⟩
 have hcl:(BY s cap).toArray.size=cap:=by
  simp only [BY,List.size_toArray,List.length_append,Array.length_toList,Array.size_map,Array.size_replicate]
  have:s.data.size=s.size:=rfl
  omega
 have hb:(Bl (CH w 1) (.cells (BY s cap).toArray e)).heap[w.heap.size]?=some (.cells (BY s cap).toArray e):=C8 (CH w 1) _
 have hfz:=Td hb
 rw [hcl] at hfz
 have hadd:Bd (Bl (CH w 1) (.cells (BY s cap).toArray e)) w.heap.size (.cells (BY s cap).toArray e (cap,cap+1))=Bl (CH w 1) (.cells (BY s cap).toArray e (cap,cap+1)):=Yf (CH w 1) _ _
 have hce:(s.data.map fun b=>Value.int .u8 b.toNat)++Array.replicate (cap-s.size) (Value.int .u8 0)=(BY s cap).toArray:=by
  apply Array.ext';simp [BY]
 have hsh:(Bl (CH w 1) (.cells (BY s cap).toArray e)).shape? w.heap.size=some (e,cap):=by simp only [World.shape?,hb,hcl]
 have hmark:(markStringish { block:=w.heap.size,off:=0 }).run P (Bl (CH w 1) (.cells (BY s cap).toArray e))=.ok () (Bl (CH w 1) (.cells (BY s cap).toArray e (cap,cap+1))):=by
  rw [← hadd,← hfz]
  unfold markStringish
  have:(shape w.heap.size).run P (Bl (CH w 1) (.cells (BY s cap).toArray e))=.ok (some (e,cap)) (Bl (CH w 1) (.cells (BY s cap).toArray e)):=by
   rw [← hsh];rfl
  simp only [Sem.run_bind,this,Result.andThen]
  rfl
 have hrow:(newRow e (BY s cap).toArray).run P (CH w 1)=.ok ⟨w.heap.size,0,none⟩ (Bl (CH w 1) (.cells (BY s cap).toArray e)):=rfl
 simp only [Conv.stringToBytes,Sem.run_bind,hch,Result.andThen,hce,hrow,hmark,Sem.run_pure]
theorem RF (hty:Gl P ty) (hH:HOK w Z m st.heap) {slot:Option Nat} (hs:De st.heap slot) {src dst:TypeId} {x:U} {vx:Value} (hx:RepU w Z m st.heap x vx)
  (h:Eb ty slot src dst x st K=some r) :
  ∃ u st',K u st'=some r∧st'.tmps=st.tmps∧∃ v w' m',(convert src dst vx).run P w=.ok v w'∧Ext w Z m st.heap w' Z m' st'.heap∧HOK w' Z m' st'.heap∧RepU w' Z m' st'.heap u v:=by
 unfold Eb at h
 split at h
 ·rename_i ts td hts htd
  obtain ⟨d1,hd1,hu1⟩:=Cl (hty.2 _ _ hts)
  obtain ⟨d2,hd2,hu2⟩:=Cl (hty.2 _ _ htd)
  split at h
  ·rename_i k1 k kn n e1 e2
   rw [e1] at hu1;rw [e2] at hu2
   obtain rfl:=Jr hu1.symm
   obtain rfl:=Jr hu2.symm
   obtain rfl:=EP hx
   refine ⟨_,_,h,rfl,_,_,m,?_,Ext.refl _ _ _ _,hH,CI _ _⟩
   simp [convert,Ao hd1,Ao hd2,Result.andThen,Conv.intToInt]
  ·rename_i s e1 e2
   rw [e1] at hu1;rw [e2] at hu2
   obtain rfl:=HG hu1.symm
   obtain rfl:=HG hu2.symm
   obtain rfl:=Iv hx
   refine ⟨_,_,h,rfl,_,_,m,?_,Ext.refl _ _ _ _,hH,TD _⟩
   simp [convert,Ao hd1,Ao hd2,Result.andThen]
  ·rename_i e s e1 e2
   rw [e1] at hu1;rw [e2] at hu2
   obtain rfl:=HG hu1.symm
   obtain rfl:=CN hu2.symm
   obtain rfl:=Iv hx
   split at h
   ·rename_i te hte
    obtain ⟨d3,hd3,hu3⟩:=Cl (hty.2 _ _ hte)
    split at h
    ·rename_i e3
     rw [e3] at hu3
     obtain rfl:=Jr hu3.symm
     replace h:=AI h;obtain ⟨h1,h⟩:=h
     replace h:=AI h;obtain ⟨h2,h⟩:=h
     obtain ⟨cap,hcap,hrun⟩:=MF (P:=P) (w:=w) e s
     have hcl:(BY s cap).length=cap:=by
      simp only [BY,List.length_append,Array.length_toList,Array.size_map,Array.size_replicate]
      have:s.data.size=s.size:=rfl
      omega
     have hH':=Mn 1 hH
     obtain ⟨m',p1,p2,p3⟩:=PZ (w:=CH w 1) hH' hs e s.size cap (fun i=>.int .u8 (B5 s i)) (BY s cap) hcap hcl (fun _ _=>rfl) (fun i j u hi hu=>by
      cases j with
      | succ j=>simp [F.cells] at hu
      | zero =>
       simp only [F.cells,List.getElem?_cons_zero,Option.some.injEq] at hu
       subst hu
       have hi':i<s.data.size:=hi
       refine ⟨rfl,.int .u8 (B5 s i),?_,.int _ _⟩
       simp only [BY,Nat.mul_one,Nat.add_zero,B5,Int.toNat_natCast]
       rw [List.getElem?_append_left (by simp;exact hi')]
       simp only [Array.getElem?_toList,Array.getElem?_map,List.getD,Array.getElem?_eq_getElem hi',Option.getD_some,Option.map_some]) (cap,cap+1) (Nat.le_refl _)
     refine ⟨_,_,h,HP _ _ _,.slice (some ⟨w.heap.size,0,none⟩) s.size cap,_,m',?_,(KH _).trans p1,p2,p3⟩
     simp only [convert,Sem.run_bind,Ao hd1,Ao hd2,Ao hd3,Result.andThen,hrun]
    ·cases h
   ·cases h
  ·rename_i e e1 e2
   rw [e1] at hu1;rw [e2] at hu2
   obtain rfl:=CN hu1.symm
   obtain rfl:=HG hu2.symm
   split at h
   ·rename_i te hte
    obtain ⟨d3,hd3,hu3⟩:=Cl (hty.2 _ _ hte)
    split at h
    ·rename_i e3
     rw [e3] at hu3
     obtain rfl:=Jr hu3.symm
     obtain ⟨n,g,hel,hns,h⟩:=Xo h
     ·replace h:=AI h;obtain ⟨h1,h⟩:=h
      replace h:=AI h;obtain ⟨h2,h⟩:=h
      simp only [beq_iff_eq] at h1
      have hall:∀ i,i<n→ZP (g i)=true:=fun i hi=>List.all_eq_true.1 h2 i (List.mem_range.2 hi)
      have hg0:(g 0).cells.length=te.size ∨ n=0:=by
       by_cases hn:n=0
       ·exact .inr hn
       ·left
        have:=hall 0 (by omega)
        rw [h1]
        cases hg:g 0 <;> simp [hg,ZP] at this
        rfl
      obtain ⟨c,hc⟩:=Xn (P:=P) hH rfl hx hel (by omega) hg0
      rw [h1] at hc
      have hvx:∃ A cp,vx=.slice A n cp:=by
       unfold Il at hel
       split at hel
       ·cases hel
        cases hx with
        | f _ _ hx=>cases hx with
        | sl _ _ A c sz a V hc hs hk hA hV hr=>exact ⟨_,_,rfl⟩
       ·exact absurd rfl (hns _)
       ·split at hel
        ·split at hel
         ·rename_i hob hgen
          cases hel
          cases hx with
          | hs _ _ _ _ _ hone ho hg hv =>
          obtain ⟨hle,A,c,rfl,hc,hA,hcap⟩:=hv _ _ _ hob hgen
          exact ⟨_,_,rfl⟩
         ·cases hel
        ·cases hel
       ·cases hel
        cases hx with
        | nils A=>exact ⟨_,_,rfl⟩
       ·cases hel
      obtain ⟨A,cp,rfl⟩:=hvx
      let f:Nat→Int:=fun i=>match g i with | .int .u8 b=>b | _=>0
      have hcf:c=(List.range n).map fun i=>Value.int .u8 (f i):=by
       have hcl:=hc.len
       rw [Nat.mul_one] at hcl
       apply List.ext_getElem?
       intro i
       by_cases hi:i<n
       ·have hgi:=hall i hi
        obtain ⟨b,hb⟩:∃ b,g i=.int .u8 b:=by
         cases hg:g i with
         | int k b=>cases k <;> simp [hg,ZP] at hgi;exact ⟨b,rfl⟩
         | _=>simp [hg,ZP] at hgi
        obtain ⟨_,v,hv,hr⟩:=hc.rep i 0 (.int .u8 b) hi (by rw [hb];rfl)
        rw [Nat.mul_one,Nat.add_zero] at hv
        cases hr
        rw [hv,List.getElem?_map,List.getElem?_range hi]
        simp [f,hb]
       ·rw [List.getElem?_eq_none (by omega),List.getElem?_eq_none (by simp;omega)]
      have hbs:Gg n g=(List.range n).foldl (fun s i=>s.push (UInt8.ofNat (f i).toNat)) ByteArray.empty:=by
       have h1:=Ou f (List.range n) ByteArray.empty
       have h2:∀ a b:ByteArray,a.data.toList=b.data.toList→a=b:=by
        rintro ⟨a⟩ ⟨b⟩ h
        congr 1
        exact Array.ext' h
       apply h2
       rw [h1]
       have h3:ByteArray.empty.data.toList=[]:=rfl
       rw [h3,List.nil_append]
       simp only [Gg]
       refine List.map_congr_left fun i hi=>?_
       have hgi:=hall i (List.mem_range.1 hi)
       simp only [f]
       cases hg:g i with
       | int k b=>cases k <;> simp [hg,ZP] at hgi;rfl
       | _=>simp [hg,ZP] at hgi
      refine ⟨_,_,h,rfl,_,_,m,?_,Ext.refl _ _ _ _,hH,TD _⟩
      have hfst:=hc.first 0 n (Nat.le_refl _)
      rw [show CH w 0=w from rfl,← hc.len,List.take_length] at hfst
      simp only [convert,Sem.run_bind,Ao hd1,Ao hd2,Ao hd3,Result.andThen]
      cases A with
      | none =>
       have:n=0:=by
        have h3:(Builtin.firstCells 1 n (.slice none n cp)).run P w=.ok #[] w:=rfl
        rw [h3] at hfst
        have h4:=hc.len
        cases hfst
        simpa using h4.symm
       subst this
       rw [hbs]
       simp only [Conv.bytesToString,Sem.run_pure]
       rfl
      | some a =>
       have h3:Builtin.firstCells 1 n (.slice (some a) n cp)=loadCells a (n*1):=rfl
       rw [h3,Nat.mul_one] at hfst
       simp only [Conv.bytesToString,Sem.run_bind,hfst,Result.andThen,hcf,Array.forIn_toList,List.forIn_toArray,hbs]
       rw [Pz f _ (fun _ _=>rfl)]
       rfl
    ·cases h
   ·cases h
  ·cases h
 ·cases h
end
structure Grows (w w':World):Prop where
 os:w'.os=w.os
 tape:w'.tape=w.tape
 output:w'.output=w.output
 size:w.heap.size≤w'.heap.size
 old:∀ b,b<w.heap.size→w'.heap[b]?=w.heap[b]?
 drawn:w.drawn≤w'.drawn
def Dg (P:Program) (f:FuncId) (args:Array Value) (w:World) (R:Value→World→Prop):Prop :=
 ((callFunc f args).run P w=.ok (.enter f args) w∧Calls P f args w fun | .returned v,w'=>R v w' | _,_=>False) ∨
 ∃ v w',(callFunc f args).run P w=.ok (.value v) w'∧R v w'
theorem Dg.mono {P:Program} {f:FuncId} {args:Array Value} {w:World} {R R':Value→World→Prop} (h:Dg P f args w R) (hr:∀ v w',R v w'→R' v w'):Dg P f args w R':=by
 rcases h with ⟨h1,h2⟩ | ⟨v,w',h1,h2⟩
 ·refine .inl ⟨h1,fun cs=>?_⟩
  obtain ⟨e,w',fr,he,hc⟩:=h2 cs
  refine ⟨e,w',fr,?_,hc⟩
  cases e with
  | returned v=>exact hr _ _ he
  | _=>exact he.elim
 ·exact .inr ⟨v,w',h1,hr _ _ h2⟩
def Ai (P:Program) (f:FuncId) (pre:List F→Bool) (res:List F→F):Prop :=
 ∀ xs,pre xs=true→∀ (w:World) (Z:Nat→Prop) (args:Array Value),(∀ b,Z b→b<w.heap.size)→Jk w Z xs args.toList →
  Dg P f args w fun v w'=>Grows w w'∧∃ Z':Nat→Prop,(∀ b,Z' b→Z b ∨ (w.heap.size≤b∧b<w'.heap.size))∧RepF w' Z' (res xs) v
def Io (P:Program) (f:FuncId) (pre:List U→List HO→Bool) (res:List U→List HO→U × List HO):Prop :=
 ∀ us H,pre us H=true→∀ (w:World) (Z:Nat→Prop) (m:Nat→Nat) (args:Array Value),HOK w Z m H→CP w Z m H us args.toList →
  Dg P f args w fun v w'=>∃ Z' m',Ext w Z m H w' Z' m' (res us H).2∧HOK w' Z' m' (res us H).2∧RepU w' Z' m' (res us H).2 (res us H).1 v
def NN (pre:List F→List F→Bool):List U→List HO→Bool
 | .hp o 0 :: us,H=>match H[o]? with
  | some (.box cu)=>match Bb [] cu,Bb [] us with
   | some cs,some xs=>pre cs xs
   | _,_=>false
  | _=>false
 | _,_=>false
def Pi (res:List F→List F→F × List F):List U→List HO→U × List HO
 | .hp o 0 :: us,H=>match H[o]? with
  | some (.box cu)=>match Bb [] cu,Bb [] us with
   | some cs,some xs=>(.f (res cs xs).1,H.set o (BE (res cs xs).2))
   | _,_=>(.bad,H)
  | _=>(.bad,H)
 | _,H=>(.bad,H)
def TX (pre:List F→Bool):List U→List HO→Bool:=fun us _=>match Bb [] us with
 | some xs=>pre xs
 | none=>false
def TW (res:List F→List F):List U→List HO→U × List HO:=fun us H=>match Bb [] us with
 | some xs=>(.hp H.length 0,H++[BE (res xs)])
 | none=>(.bad,H)
def J7 (pre:List F→Bool):List U→List HO→Bool:=fun us H=>match Bb H us with
 | some xs=>pre xs
 | none=>false
def D9 (slot:Option Nat) (c:List F→Bool) (r1 r2:List F→F):List U→List HO→U × List HO:=fun us H=>match Bb H us with
 | some xs=>Bv H slot (if c xs then r1 xs else r2 xs)
 | none=>(.bad,H)
def OwnOK (P:Program) (f:FuncId) (pre c:List F→Bool) (r1 r2:List F→F):Prop :=
 ∀ us H slot,De H slot→J7 pre us H=true→∀ (w:World) (Z:Nat→Prop) (m:Nat→Nat) (args:Array Value),HOK w Z m H→CP w Z m H us args.toList →
  Dg P f args w fun v w'=>∃ Z' m',Ext w Z m H w' Z' m' (D9 slot c r1 r2 us H).2∧HOK w' Z' m' (D9 slot c r1 r2 us H).2∧RepU w' Z' m' (D9 slot c r1 r2 us H).2 (D9 slot c r1 r2 us H).1 v
def OwnDOK (P:Program) (f:FuncId) (pre:List F→Bool) (r1:List F→F):Prop :=
 ∀ xs,pre xs=true→∀ (H:List HO) (slot:Option Nat),De H slot→∀ (w:World) (Z:Nat→Prop) (m:Nat→Nat) (args:Array Value),HOK w Z m H→Jk w Z xs args.toList →
  Dg P f args w fun v w'=>∃ Z' m',Ext w Z m H w' Z' m' (Bv H slot (r1 xs)).2∧HOK w' Z' m' (Bv H slot (r1 xs)).2∧RepU w' Z' m' (Bv H slot (r1 xs)).2 (Bv H slot (r1 xs)).1 v
def P2 (sz0:Nat) (pre:List F→Nat→(Nat→F)→Bool):List U→List HO→Bool
 | u0 :: .hs o gen off len :: us,H=>match H[o]?,Bb [] (u0 :: us) with
  | some (.arr sz n g),some xs=>Nat.beq sz sz0&&decide (gen=n)&&decide (off=0)&&decide (len=n)&&pre xs n g
  | _,_=>false
 | _,_=>false
def P1 (res:List F→Nat→(Nat→F)→F):List U→List HO→U × List HO
 | u0 :: .hs o _ _ _ :: us,H=>match H[o]?,Bb [] (u0 :: us) with
  | some (.arr sz n g),some xs=>(.f (res xs n g),H)
  | _,_=>(.bad,H)
 | _,H=>(.bad,H)
def Ls (sz0:Nat) (pre:Nat→(Nat→F)→List F→Bool):List U→List HO→Bool
 | .hs o gen off len :: us,H=>match H[o]?,Bb [] us with
  | some (.arr sz n g),some xs=>Nat.beq sz sz0&&decide (gen=n)&&decide (off=0)&&decide (len=n)&&pre n g xs
  | _,_=>false
 | .nils :: us,_=>match Bb [] us with
  | some xs=>pre 0 (fun _=>.dflt) xs
  | none=>false
 | .f (.sl n _) :: us,_=>match Bb [] us with
  | some xs=>Nat.beq n 0&&pre 0 (fun _=>.dflt) xs
  | none=>false
 | _,_=>false
def Lr (res:Nat→(Nat→F)→List F→F × (Nat→F)):List U→List HO→U × List HO
 | .hs o _ _ _ :: us,H=>match H[o]?,Bb [] us with
  | some (.arr sz n g),some xs=>(.f (res n g xs).1,H.set o (.arr sz n (res n g xs).2))
  | _,_=>(.bad,H)
 | .nils :: us,H=>match Bb [] us with
  | some xs=>(.f (res 0 (fun _=>.dflt) xs).1,H)
  | none=>(.bad,H)
 | .f (.sl _ _) :: us,H=>match Bb [] us with
  | some xs=>(.f (res 0 (fun _=>.dflt) xs).1,H)
  | none=>(.bad,H)
 | _,H=>(.bad,H)
def Mf (sz0:Nat) (pre:List U→Nat→(Nat→F)→Bool) (pre0:List F→Bool):List U→List HO→Bool:=fun us H=>match Dw us with
 | [o]=>match H[o]? with
  | some (.arr sz n g)=>Nat.beq sz sz0&&pre (D7 [o] us) n g
  | _=>false
 | []=>match Bb [] us with
  | some xs=>pre0 xs
  | none=>false
 | _=>false
def Me (res:List U→Nat→(Nat→F)→F × (Nat→F)) (res0:List F→F):List U→List HO→U × List HO:=fun us H=>match Dw us with
 | [o]=>match H[o]? with
  | some (.arr sz n g)=>(.f (res (D7 [o] us) n g).1,H.set o (.arr sz n (res (D7 [o] us) n g).2))
  | _=>(.bad,H)
 | []=>match Bb [] us with
  | some xs=>(.f (res0 xs),H)
  | none=>(.bad,H)
 | _=>(.bad,H)
def EJ (P:Program) (f:FuncId):Sp→Prop
 | .none=>True
 | .pure pre res=>Ai P f pre res
 | .shared pre res=>Io P f pre res
 | .ptr pre res=>Io P f (NN pre) (Pi res)
 | .new pre res=>Io P f (TX pre) (TW res)
 | .ownd pre c r1 r2=>OwnDOK P f (fun xs=>pre xs&&c xs) r1∧OwnOK P f (fun xs=>pre xs && !c xs) (fun _=>true) r2 r2
 | .own pre c r1 r2=>OwnOK P f pre c r1 r2
 | .lent sz pre res pre0 res0=>Io P f (Mf sz pre pre0) (Me res res0)
 | .lentd sz pre res=>Io P f (P2 sz pre) (P1 res)
 | .arrw sz pre res=>Io P f (Ls sz pre) (Lr res)
def Ax (P:Program) (C:Env):Prop:=∀ f,EJ P f (C f)
structure AOK (w:World) (Z:Nat→Prop) (m:Nat→Nat) (st:St) (a:Act):Prop where
 len:st.tmps.length=a.tmps.size
 rep:∀ (i:Nat) (u:U) (v:Value),st.tmps[i]?=some u→a.tmps[i]?=some v→RepU w Z m st.heap u v
 hok:HOK w Z m st.heap
section
variable {P:Program} {w:World} {Z:Nat→Prop} {m:Nat→Nat} {H:List HO} {ty:TypeId→Option TI} {C:Env} {ρ:Type} {r:ρ} {st:St} {K:U→St→Option ρ} {a:Act}
theorem By (hA:AOK w Z m st a) (o:Operand):RepU w Z m st.heap (st.ev o) (a.eval o):=by
 cases o with
 | tmp t =>
  simp only [St.ev,Act.eval]
  by_cases ht:t<st.tmps.length
  ·have h1:st.tmps[t]?=some st.tmps[t]:=List.getElem?_eq_getElem ht
   have ht':t<a.tmps.size:=by rw [← hA.len];exact ht
   have h2:a.tmps[t]?=some a.tmps[t]:=Array.getElem?_eq_getElem ht'
   have:=hA.rep t _ _ h1 h2
   simpa [List.getD,h1,Array.getD,ht'] using this
  ·rw [List.getD,List.getElem?_eq_none (Nat.le_of_not_lt ht)]
   exact .bad _
 | const v=>exact Qb v
 | func f=>exact .fn f [] [] rfl (fun j u v hu=>by simp at hu)
 | global g=>exact .bad _
theorem cP (hA:AOK w Z m st a) (os:List Operand):CP w Z m st.heap (os.map st.ev) (os.map a.eval):=by
 refine ⟨by simp,fun j u v hu hv=>?_⟩
 rw [List.getElem?_map] at hu hv
 cases ho:os[j]? with
 | none=>rw [ho] at hu;cases hu
 | some o=>rw [ho] at hu hv;cases hu;cases hv;exact By hA o
theorem NU (hA:AOK w Z m st a):∀ ps:List (Nat × Operand),Kb w Z m st.heap (ps.map fun p=>(p.1,st.ev p.2)) (ps.map fun p=>(p.1,a.eval p.2))
 | []=>trivial
 | (i,o) :: ps=>⟨rfl,By hA o,NU hA ps⟩
theorem TQ (hA:AOK w Z m st a) (o:Option Operand):JO w Z m st.heap (o.map st.ev) (o.map a.eval):=by
 cases o with
 | none=>trivial
 | some o=>exact By hA o
theorem Zq {slot:Option Nat} (hs:De st.heap slot) (hC:Ax P C) (hH:HOK w Z m st.heap) {f:FuncId} {us:List U} {args:Array Value} (hu:CP w Z m st.heap us args.toList) (h:JF C slot f us st K=some r) :
  ∃ u st',K u st'=some r∧st'.tmps=st.tmps∧Dg P f args w fun v w'=>∃ Z' m',Ext w Z m st.heap w' Z' m' st'.heap∧HOK w' Z' m' st'.heap∧RepU w' Z' m' st'.heap u v:=by
 unfold JF at h
 have hf:=hC f
 split at h
 ·cases h
 ·rename_i pre res he
  rw [he] at hf
  replace h:=B0 _ _ h
  obtain ⟨xs,hxs,h⟩:=h
  ·replace h:=AI h;obtain ⟨hp,h⟩:=h
   have hgrow:∀ {w':World} {Z1:Nat→Prop} {H1:List HO},HOK w Z1 m H1→Grows w w'→Ext w Z1 m H1 w' Z1 m H1:=fun {w' Z1 H1} hH1 g=>by
    refine ⟨g.os,g.tape,g.output,g.size,fun _ h=>h,fun _ h=>.inl h,fun b hb=>g.old b (hH1.zlt b hb),fun b hb _=>g.old b hb,Nat.le_refl _,fun o ob ob' h1 h2=>?_,fun o h=>.inl ⟨h,rfl⟩,g.drawn⟩
    rw [h1] at h2;cases h2
    by_cases hd:ob.live=true
    case neg=>cases ob <;> simp_all [Bu,HO.live]
    ·have hlt:=hH1.blk_lt (Dz h1 hd)
     have:Az w' (m o)=Az w (m o):=by simp only [Az,g.old _ hlt]
     cases ob <;> simp_all [Bu]
   cases hsc:Hz (res xs) with
   | true =>
    rw [hsc] at h
    refine ⟨_,_,h,rfl,?_⟩
        -- the arguments' blocks, seen as data for the time of the call
    have hL:Jk w (fun b=>Z b ∨ ∃ o,o ∈ As us∧Aw st.heap o∧m o=b) xs args.toList:=by
     obtain ⟨hl,hg⟩:=Bf us xs hxs
     refine ⟨by rw [← hl];exact hu.1,fun j x v hx' hv=>?_⟩
     have hj:=(List.getElem?_eq_some_iff.1 hx').1
     have hu':us[j]?=some us[j]:=List.getElem?_eq_getElem (by omega)
     refine (Hj hH (fun _ _ h=>h) (hu.2 j _ v hu' hv) (hg j _ x hu' hx')).mono ?_ (fun _ _=>rfl)
     rintro b (hb | ⟨o,ho,hlv,rfl⟩)
     ·exact .inl hb
     ·exact .inr ⟨o,EY us _ o (List.getElem_mem _) ho,hlv,rfl⟩
    refine (hf xs hp w _ args (by
     rintro b (hb | ⟨o,_,hlv,rfl⟩)
     ·exact hH.zlt b hb
     ·exact hH.blk_lt hlv) hL).mono fun v w' ⟨g,Z',hZ',hr⟩=>?_
    have hE:=hgrow hH g
    refine ⟨Z,m,hE,?_,.f _ _ (hr.scalar_any hsc)⟩
    refine ⟨fun b hb=>Nat.lt_of_lt_of_le (hH.zlt b hb) g.size,hH.apart,hH.inj,fun o ob ho=>?_⟩
    by_cases hd:ob.live=true
    case neg=>cases ob <;> simp_all [Hg,HO.live]
    ·exact (hH.ob o ob ho).mono hE (g.old _ (hH.blk_lt (Dz ho hd)))
   | false =>
    rw [hsc,AJ] at h
    replace h:=AI h;obtain ⟨_,h⟩:=h
    refine ⟨_,_,h,rfl,?_⟩
    obtain ⟨Z1,hE1,hH1,hL,_⟩:=G0 hH hu hxs
    refine (hf xs hp w Z1 args hH1.zlt hL).mono fun v w' ⟨g,Z',hZ',hr⟩=>?_
    refine ⟨fun b=>Z1 b ∨ (w.heap.size≤b∧b<w'.heap.size),m,?_,?_,.f _ _ (hr.mono hZ' (fun _ _=>rfl))⟩
    ·refine hE1.trans ?_
     have e:=hgrow hH1 g
     exact ⟨e.os,e.tape,e.output,e.size,fun _ h=>.inl h,fun b h=>by rcases h with h | h;exact .inl h;exact .inr (.inl h.1),e.kept,e.rest,e.len,e.evol,e.new,e.drawn⟩
    ·have e:=hgrow hH1 g
     have e2:Ext w Z1 m (Bh st.heap (As us)) w' (fun b=>Z1 b ∨ (w.heap.size≤b∧b<w'.heap.size)) m (Bh st.heap (As us)) :=
      ⟨e.os,e.tape,e.output,e.size,fun _ h=>.inl h,fun b h=>by rcases h with h | h;exact .inl h;exact .inr (.inl h.1),e.kept,e.rest,e.len,e.evol,e.new,e.drawn⟩
     refine ⟨fun b hb=>?_,fun o ho hb=>?_,hH1.inj,fun o ob ho=>?_⟩
     ·rcases hb with hb | hb
      ·exact Nat.lt_of_lt_of_le (hH1.zlt b hb) g.size
      ·exact hb.2
     ·rcases hb with hb | hb
      ·exact hH1.apart o ho hb
      ·have:=hH1.blk_lt ho;omega
     ·by_cases hd:ob.live=true
      case neg=>cases ob <;> simp_all [Hg,HO.live]
      ·exact (hH1.ob o ob ho).mono e2 (g.old _ (hH1.blk_lt (Dz ho hd)))
 ·rename_i pre res he
  rw [he] at hf
  replace h:=AI h;obtain ⟨hp,h⟩:=h
  simp only [Bool.and_eq_true] at hp
  replace hp:=hp.2
  exact ⟨_,_,h,rfl,hf us st.heap hp w Z m args hH hu⟩
 ·rename_i pre res he
  rw [he] at hf
  split at h
  ·rename_i o us'
   split at h
   ·rename_i cu ho
    split at h
    ·rename_i cs xs hcs hxs
     replace h:=AI h;obtain ⟨hp,h⟩:=h
     simp only [Bool.and_eq_true] at hp
     have hres:Pi res (.hp o 0 :: us') st.heap=(.f (res cs xs).1,st.heap.set o (BE (res cs xs).2)):=by simp only [Pi,ho,hcs,hxs]
     have hpre:NN pre (.hp o 0 :: us') st.heap=true:=by simp only [NN,ho,hcs,hxs];exact hp.2
     have:=hf _ st.heap hpre w Z m args hH hu
     rw [hres] at this
     exact ⟨_,_,h,rfl,this⟩
    ·cases h
   ·cases h
  ·cases h
 ·rename_i pre res he
  rw [he] at hf
  split at h
  ·rename_i xs hxs
   replace h:=AI h;obtain ⟨hp,h⟩:=h
   simp only [Bool.and_eq_true] at hp
   have hres:TW res us st.heap=(.hp st.heap.length 0,st.heap++[BE (res xs)]):=by simp only [TW,hxs]
   have hpre:TX pre us st.heap=true:=by simp only [TX,hxs];exact hp.2
   have:=hf _ st.heap hpre w Z m args hH hu
   rw [hres] at this
   exact ⟨_,_,h,rfl,this⟩
  ·cases h
 ·rename_i pre c r1 r2 he
  rw [he] at hf
  obtain ⟨hf1,hf2⟩:=hf
  replace h:=B0 _ _ h
  obtain ⟨xs,hxs,h⟩:=h
  replace h:=AI h;obtain ⟨hp,h⟩:=h
  cases hc:c xs with
  | true =>
   rw [hc,AF] at h
   replace h:=AI h;obtain ⟨_,h⟩:=h
   obtain ⟨Z1,hE1,hH1,hL,hfr⟩:=G0 hH hu hxs
   refine ⟨_,_,h,rfl,(hf1 xs (by simp only [hp,hc,Bool.and_self]) _ slot (fun k hk=>hfr k (hs k hk)) w Z1 m args hH1 hL).mono fun v w' ⟨Z',m',q1,q2,q3⟩=>⟨Z',m',hE1.trans q1,q2,q3⟩⟩
  | false =>
   rw [hc,AJ] at h
   have hpre:J7 (fun xs=>pre xs && !c xs) us st.heap=true:=by simp only [J7,hxs,hp,hc];rfl
   have:=hf2 us st.heap slot hs hpre w Z m args hH hu
   have hres:D9 slot (fun _=>true) r2 r2 us st.heap=Bv st.heap slot (r2 xs):=by simp only [D9,hxs,if_true]
   rw [hres] at this
   exact ⟨_,_,h,rfl,this⟩
 ·rename_i pre c r1 r2 he
  rw [he] at hf
  replace h:=B0 _ _ h
  obtain ⟨xs,hxs,h⟩:=h
  replace h:=AI h;obtain ⟨hp,h⟩:=h
  have hpre:J7 pre us st.heap=true:=by simp only [J7,hxs];exact hp
  have:=hf us st.heap slot hs hpre w Z m args hH hu
  cases hc:c xs with
  | true =>
   rw [hc,AF] at h
   have hres:D9 slot c r1 r2 us st.heap=Bv st.heap slot (r1 xs):=by simp only [D9,hxs,hc,if_true]
   rw [hres] at this
   exact ⟨_,_,h,rfl,this⟩
  | false =>
   rw [hc,AJ] at h
   have hres:D9 slot c r1 r2 us st.heap=Bv st.heap slot (r2 xs):=by simp only [D9,hxs,hc,Bool.false_eq_true,if_false]
   rw [hres] at this
   exact ⟨_,_,h,rfl,this⟩
 ·rename_i sz0 pre res pre0 res0 he
  rw [he] at hf
  split at h
  ·rename_i o hrf
   split at h
   ·rename_i sz n g ho
    replace h:=AI h;obtain ⟨hp,h⟩:=h
    replace h:=AI h;obtain ⟨hp2,h⟩:=h
    simp only [Bool.and_eq_true] at hp
    have hres:Me res res0 us st.heap=(.f (res (D7 [o] us) n g).1,st.heap.set o (.arr sz n (res (D7 [o] us) n g).2)):=by simp only [Me,hrf,ho]
    have hpre:Mf sz0 pre pre0 us st.heap=true:=by simp only [Mf,hrf,ho,Bool.and_eq_true];exact ⟨hp.2,hp2⟩
    have:=hf us st.heap hpre w Z m args hH hu
    rw [hres] at this
    exact ⟨_,_,h,rfl,this⟩
   ·cases h
  ·rename_i hrf
   split at h
   ·rename_i xs hxs
    replace h:=AI h;obtain ⟨hp,h⟩:=h
    simp only [Bool.and_eq_true] at hp
    have hres:Me res res0 us st.heap=(.f (res0 xs),st.heap):=by simp only [Me,hrf,hxs]
    have hpre:Mf sz0 pre pre0 us st.heap=true:=by simp only [Mf,hrf,hxs];exact hp.2
    have:=hf us st.heap hpre w Z m args hH hu
    rw [hres] at this
    exact ⟨_,_,h,rfl,this⟩
   ·cases h
  ·cases h
 ·rename_i sz0 pre res he
  rw [he] at hf
  split at h
  ·rename_i u0 o gen off len us'
   split at h
   ·rename_i sz n g ho
    obtain ⟨xs,hxs,h⟩:=B0 _ _ h
    replace h:=AI h;obtain ⟨hp,h⟩:=h
    replace h:=AI h;obtain ⟨hp2,h⟩:=h
    simp only [Bool.and_eq_true] at hp
    have hres:P1 res (u0 :: .hs o gen off len :: us') st.heap=(.f (res xs n g),st.heap):=by simp only [P1,ho,hxs]
    have hpre:P2 sz0 pre (u0 :: .hs o gen off len :: us') st.heap=true:=by simp only [P2,ho,hxs,Bool.and_eq_true];exact ⟨hp,hp2⟩
    have:=hf _ st.heap hpre w Z m args hH hu
    rw [hres] at this
    exact ⟨_,_,h,rfl,this⟩
   ·cases h
  ·cases h
 ·rename_i sz0 pre res he
  rw [he] at hf
  split at h
  ·rename_i o gen off len us'
   split at h
   ·rename_i sz n g xs ho hxs
    replace h:=AI h;obtain ⟨hp,h⟩:=h
    replace h:=AI h;obtain ⟨hp2,h⟩:=h
    simp only [Bool.and_eq_true] at hp
    have hres:Lr res (.hs o gen off len :: us') st.heap=(.f (res n g xs).1,st.heap.set o (.arr sz n (res n g xs).2)):=by simp only [Lr,ho,hxs]
    have hpre:Ls sz0 pre (.hs o gen off len :: us') st.heap=true:=by simp only [Ls,ho,hxs,Bool.and_eq_true];exact ⟨hp.2,hp2⟩
    have:=hf _ st.heap hpre w Z m args hH hu
    rw [hres] at this
    exact ⟨_,_,h,rfl,this⟩
   ·cases h
  ·rename_i us'
   split at h
   ·rename_i xs hxs
    replace h:=AI h;obtain ⟨hp,h⟩:=h
    simp only [Bool.and_eq_true] at hp
    have hres:Lr res (.nils :: us') st.heap=(.f (res 0 (fun _=>.dflt) xs).1,st.heap):=by simp only [Lr,hxs]
    have hpre:Ls sz0 pre (.nils :: us') st.heap=true:=by simp only [Ls,hxs];exact hp.2
    have:=hf _ st.heap hpre w Z m args hH hu
    rw [hres] at this
    exact ⟨_,_,h,rfl,this⟩
   ·cases h
  ·rename_i n g us'
   split at h
   ·rename_i xs hxs
    replace h:=AI h;obtain ⟨hp,h⟩:=h
    replace h:=AI h;obtain ⟨hp2,h⟩:=h
    simp only [Bool.and_eq_true] at hp
    have hres:Lr res (.f (.sl n g) :: us') st.heap=(.f (res 0 (fun _=>.dflt) xs).1,st.heap):=by simp only [Lr,hxs]
    have hpre:Ls sz0 pre (.f (.sl n g) :: us') st.heap=true:=by simp only [Ls,hxs,Bool.and_eq_true];exact ⟨hp.2,hp2⟩
    have:=hf _ st.heap hpre w Z m args hH hu
    rw [hres] at this
    exact ⟨_,_,h,rfl,this⟩
   ·cases h
  ·cases h
def sB (P:Program) (o:Oper) (a:Act) (w:World) (R:Value→World→Prop):Prop :=
 (∃ v w',(execOp a.eval o).run P w=.ok (.value v) w'∧R v w') ∨ (∃ w',(execOp a.eval o).run P w=.ok .skip w'∧R undef w') ∨
 ∃ f args,(execOp a.eval o).run P w=(callFunc f args).run P w∧Dg P f args w R
theorem sB.wp {o:Oper} {R:Value→World→Prop} (h:sB P o a w R) {next:Act→World→Prop} {Q:Exit→Act→World→Prop} (hn:∀ v w',R v w'→next (a.put o.dst v) w'):o.wp P a w next Q:=by
 unfold Oper.wp
 rcases h with ⟨v,w',h,hr⟩ | ⟨w',h,hr⟩ | ⟨f,args,h,⟨h1,h2⟩ | ⟨v,w',h1,h2⟩⟩
 ·rw [h];exact hn _ _ hr
 ·rw [h];exact hn _ _ hr
 ·rw [h,h1]
  intro cs
  obtain ⟨e,w',fr,he,hc⟩:=h2 cs
  refine ⟨e,w',fr,?_,hc⟩
  cases e with
  | returned v=>exact hn _ _ he
  | _=>exact he.elim
 ·rw [h,h1];exact hn _ _ h2
def Post (w:World) (Z:Nat→Prop) (m:Nat→Nat) (H:List HO) (u:U) (H':List HO) (v:Value) (w':World):Prop:=∃ Z' m',Ext w Z m H w' Z' m' H'∧HOK w' Z' m' H'∧RepU w' Z' m' H' u v
theorem BM {o:Oper} (hH:HOK w Z m st.heap) {s:Sem Value} (hs:execOp a.eval o=(do pure (.value (← s)))) (h:∃ u,K u st=some r∧∃ v,s.run P w=.ok v w∧RepU w Z m st.heap u v) :
  ∃ u st',K u st'=some r∧st'.tmps=st.tmps∧sB P o a w (Post w Z m st.heap u st'.heap):=by
 obtain ⟨u,hk,v,hv,hr⟩:=h
 exact ⟨u,st,hk,rfl,.inl ⟨v,w,by rw [hs];simp [hv,Result.andThen],Z,m,Ext.refl _ _ _ _,hH,hr⟩⟩
theorem KR {o:Oper} {s:Sem Value} (hs:execOp a.eval o=(do pure (.value (← s))))
  (h:∃ u st',K u st'=some r∧st'.tmps=st.tmps∧∃ v w' m',s.run P w=.ok v w'∧Ext w Z m st.heap w' Z m' st'.heap∧HOK w' Z m' st'.heap∧RepU w' Z m' st'.heap u v) :
  ∃ u st',K u st'=some r∧st'.tmps=st.tmps∧sB P o a w (Post w Z m st.heap u st'.heap):=by
 obtain ⟨u,st',hk,ht,v,w',m',hv,hE,hH,hr⟩:=h
 exact ⟨u,st',hk,ht,.inl ⟨v,w',by rw [hs];simp [hv,Result.andThen],Z,m',hE,hH,hr⟩⟩
theorem Wh (hty:Gl P ty) (hC:Ax P C) (hA:AOK w Z m st a) {slot:Option Nat} (hs:De st.heap slot) {o:Oper} (h:Cs P ty C slot o st K=some r) :
  ∃ u st',K u st'=some r∧st'.tmps=st.tmps∧sB P o a w (Post w Z m st.heap u st'.heap):=by
 have hH:=hA.hok
 unfold Cs at h
 split at h
 ·rename_i x hop
  exact BM hH (s:=pure (a.eval x)) (by simp [execOp,hop]) ⟨_,h,_,rfl,By hA x⟩
 ·rename_i x hop
  exact BM hH (s:=pure (a.eval x)) (by simp [execOp,hop]) ⟨_,h,_,rfl,By hA x⟩
 ·rename_i c x y hop
  split at h
  ·rename_i t ht
   have hc:=By hA c
   rw [ht] at hc
   have hc:=Hb hc
   refine BM hH (s:=do pure (if ← asBool (a.eval c) then a.eval x else a.eval y)) (by simp [execOp,hop]) ?_
   cases t with
   | true=>exact ⟨_,h,a.eval x,by rw [hc];simp [asBool,Result.andThen],By hA x⟩
   | false=>exact ⟨_,h,a.eval y,by rw [hc];simp [asBool,Result.andThen],By hA y⟩
  ·cases h
 ·rename_i e hop
  split at h
  ·rename_i te hte
   obtain ⟨v,w',m',p⟩:=X9 (P:=P) hty hH hs hte
   exact KR (s:=Instr.alloc e true (.tuple #[])) (by simp [execOp,hop]) ⟨_,_,h,HP _ _ _,v,w',m',p⟩
  ·cases h
 ·rename_i e x hop
  split at h
  ·cases h
  ·cases h
  ·cases h
  ·cases h
  ·rename_i h1 h2 h3 h4
   obtain ⟨v,w',m',p⟩:=Zr (P:=P) hH hs (e:=e) (By hA x) h1 h2 ⟨fun us e=>h3 us e,fun xs e=>h4 xs e⟩
   exact KR (s:=Instr.box e (a.eval x)) (by simp [execOp,hop]) ⟨_,_,h,HP _ _ _,v,w',m',p⟩
 ·rename_i t parts hop
  exact BM hH (s:=Instr.build t (parts.map fun (i,x)=>(i,a.eval x))) (by simp [execOp,hop]) (Xz hty (by rw [Array.toList_map];exact NU hA _) h)
 ·rename_i t len parts hop
  obtain ⟨u,st',hk,ht,v,w',Z',m',hv,hE,hH',hr⟩:=Nu (P:=P) hty hH hs (qs:=parts.map fun (i,x)=>(i,a.eval x)) (by rw [Array.toList_map];exact NU hA _) h
  exact ⟨u,st',hk,ht,.inl ⟨v,w',by simp [execOp,hop,hv,Result.andThen],Z',m',hE,hH',hr⟩⟩
 ·rename_i t x hop
  split at h
  ·rename_i ti hti
   exact BM hH (s:=Instr.loadAt t (a.eval x)) (by simp [execOp,hop]) (P0 (hty.2 _ _ hti) hH (By hA x) h)
  ·cases h
 ·rename_i t x y hop
  split at h
  ·rename_i ti hti
   replace h:=AI h;obtain ⟨_,h⟩:=h
   obtain ⟨st',hk,ht,w',hw,hE,hH'⟩:=Vb (hty.2 _ _ hti) hH (By hA x) (By hA y) h
   exact ⟨_,st',hk,ht,.inr (.inl ⟨w',by simp [execOp,hop,hw,Result.andThen],Z,m,hE,hH',.undef⟩)⟩
  ·cases h
 ·rename_i x hop
  have hx:=By hA x
  split at h
  ·rename_i o k he
   rw [he] at hx
   split at h
   ·rename_i cs hob
    cases hx with
    | hp _ _ _ h1 ho hv =>
    have hv':=hv _ hob
    exact BM hH (s:=pure (a.eval x)) (by simp [execOp,hop,hv']) ⟨_,h,_,rfl,.hp _ _ _ h1 ho hv⟩
   ·cases h
  ·rename_i o gen i k he
   rw [he] at hx
   split at h
   ·rename_i sz n g hob
    replace h:=AI h;obtain ⟨hg',h⟩:=h
    cases hx with
    | ep _ _ _ _ _ h1 ho hg hv =>
    have hv':=hv _ _ _ hob (of_decide_eq_true hg')
    exact BM hH (s:=pure (a.eval x)) (by simp [execOp,hop,hv']) ⟨_,h,_,rfl,.ep _ _ _ _ _ h1 ho hg hv⟩
   ·cases h
  ·rename_i cs he
   rw [he] at hx
   have hx':=hx
   generalize hq:a.eval x=q at hx'
   cases hx' with
   | va _ ad hZ V hV hr =>
   rw [hq] at hx
   exact BM hH (s:=pure (.pointer (some ad))) (by simp [execOp,hop,hq]) ⟨_,h,_,rfl,hx⟩
  ·rename_i f cap he
   rw [he] at hx
   have hx':=hx
   generalize hq:a.eval x=q at hx'
   cases hx' with
   | fn _ _ vs hl hr =>
   rw [hq] at hx
   exact BM hH (s:=pure (.func (.func f) #[] vs.toArray)) (by simp [execOp,hop,hq]) ⟨_,h,_,rfl,hx⟩
  ·cases h
 ·rename_i op t x y hn hop
  split at h
  ·rename_i hn
   obtain rfl:=gH hn
   exact BM hH (s:=do eqGuard op t x (.const (.slice none 0 0)) (a.eval x) (a.eval (.const (.slice none 0 0)));binOp op t (a.eval x) (a.eval (.const (.slice none 0 0)))) (by simp [execOp,hop]) (fU (By hA x) h)
  ·exact BM hH (s:=do eqGuard op t x y (a.eval x) (a.eval y);binOp op t (a.eval x) (a.eval y)) (by simp [execOp,hop]) (iR hH (By hA x) (By hA y) h)
 ·rename_i op t x hop
  exact BM hH (s:=Op.unary op (a.eval x)) (by simp [execOp,hop]) (jE (By hA x) h)
 ·rename_i src dst x hop
  exact KR (s:=convert src dst (a.eval x)) (by simp [execOp,hop]) (RF hty hH hs (By hA x) h)
 ·rename_i f first captured hop
  replace h:=AI h;obtain ⟨h1,h⟩:=h
  have hf:first = #[]:=by simpa using h1
  subst hf
  refine BM hH (s:=Instr.makeFunc (.func f) (#[].map a.eval) (captured.map a.eval)) (by simp [execOp,hop]) ⟨_,h,_,rfl,?_⟩
  have:=cP hA captured.toList
  have e:captured.map a.eval=(captured.toList.map a.eval).toArray:=by apply Array.ext';simp
  rw [e]
  simpa using RepU.fn f _ _ this.1 this.2
 ·rename_i t l c hop
  exact KR (s:=Instr.makeSlice t (a.eval l) (a.eval c)) (by simp [execOp,hop]) (ZD hty hH hs (By hA l) (By hA c) h)
 ·rename_i t x lo hi mx hop
  exact BM hH (s:=Instr.sliceAt t (a.eval x) (lo.map a.eval) (hi.map a.eval) (mx.map a.eval)) (by simp [execOp,hop]) (Vi hty hH (By hA x) (TQ hA lo) (TQ hA hi) (TQ hA mx) h)
 ·rename_i s x f hop
  exact BM hH (s:=Instr.fieldAt s (a.eval x) f) (by simp [execOp,hop]) (Oo hty (By hA x) h)
 ·rename_i t x f hop
  exact BM hH (s:=Instr.field t (a.eval x) f) (by simp [execOp,hop]) (XK hty (By hA x) h)
 ·rename_i t x ix hop
  exact BM hH (s:=Instr.indexAt t (a.eval x) (a.eval ix)) (by simp [execOp,hop]) (On hty hH (By hA x) (By hA ix) h)
 ·rename_i t x ix hop
  exact BM hH (s:=Instr.index t (a.eval x) (a.eval ix)) (by simp [execOp,hop]) (W5 hty (By hA x) (By hA ix) h)
 ·rename_i t i hop
  have hx:=By hA t
  split at h
  ·rename_i us he
   rw [he] at hx
   split at h
   ·rename_i u hu
    generalize hq:a.eval t=q at hx
    cases hx with
    | tup _ vs hl hr =>
    have hi:=(List.getElem?_eq_some_iff.1 hu).1
    have hv:vs[i]?=some (vs[i]'(by omega)):=List.getElem?_eq_getElem _
    exact BM hH (s:=Instr.extract (a.eval t) i) (by simp [execOp,hop]) ⟨_,h,_,by rw [hq];simp [Instr.extract,hv],hr _ _ _ hu hv⟩
   ·cases h
  ·rename_i xs he
   rw [he] at hx
   split at h
   ·rename_i x hu
    generalize hq:a.eval t=q at hx
    cases hx with
    | f _ _ hx =>
    cases hx with
    | tup _ vs hl hr =>
    have hi:=(List.getElem?_eq_some_iff.1 hu).1
    have hv:vs[i]?=some (vs[i]'(by omega)):=List.getElem?_eq_getElem _
    exact BM hH (s:=Instr.extract (a.eval t) i) (by simp [execOp,hop]) ⟨_,h,_,by rw [hq];simp [Instr.extract,hv],.f _ _ (hr _ _ _ hu hv)⟩
   ·cases h
  ·cases h
 ·rename_i c hop
  have hargs:=cP hA c.args.toList
  have hmap:(c.args.map a.eval).toList=c.args.toList.map a.eval:=by simp
  split at h
  ·-- len
   rename_i x t hcal hx ht
   rw [hx] at hargs
   obtain ⟨hl,hr⟩:=hargs
   obtain ⟨v,hv⟩:∃ v,c.args.toList.map a.eval=[v]:=by
    match hq:c.args.toList.map a.eval,hl with
    | [v],_=>exact ⟨v,rfl⟩
   have hrx:=hr 0 x v rfl (by rw [hv];rfl)
   have ha:c.args.map a.eval = #[v]:=by apply Array.ext';simpa using hv
   have hat:c.argTypes = #[t]:=by apply Array.ext';simpa using ht
   have hrun:execOp a.eval o=(do pure (.value (← Builtin.len_ #[t] o.type #[v]))):=by
    simp [execOp,hop,resolve,hcal,ha,hat,invoke,builtin]
   split at h
   ·rename_i ti hti
    obtain ⟨d,hd,hu⟩:=Cl (hty.2 _ _ hti)
    split at h
    ·rename_i s e1
     rw [e1] at hu
     obtain rfl:=HG hu.symm
     obtain rfl:=Iv hrx
     exact BM hH hrun ⟨_,h,_,by simp [Builtin.len_,Ao hd,Result.andThen,goInt],CI _ _⟩
    ·rename_i e n g e1
     rw [e1] at hu
     obtain rfl:=CN hu.symm
     cases hrx with
     | f _ _ hrx=>cases hrx with
     | sl _ _ A c sz a V hc hs hk hA hV hr =>
     exact BM hH hrun ⟨_,h,_,by simp [Builtin.len_,Ao hd,Result.andThen,goInt],CI _ _⟩
    ·rename_i e n g e1
     rw [e1] at hu
     obtain rfl:=CN hu.symm
     cases hrx with
     | f _ _ hrx=>cases hrx with
     | cl _ _ _ hrx h0=>cases hrx with
     | sl _ _ A c sz a V hc hs hk hA hV hr =>
     exact BM hH hrun ⟨_,h,_,by simp [Builtin.len_,Ao hd,Result.andThen,goInt],CI _ _⟩
    ·rename_i e oo gen off len e1
     rw [e1] at hu
     obtain rfl:=CN hu.symm
     split at h
     ·rename_i sz n g hob
      replace h:=AI h;obtain ⟨hg',h⟩:=h
      cases hrx with
      | hs _ _ _ _ _ hone ho hg hv =>
      obtain ⟨hle,A,c,rfl,hc,hA',hcap⟩:=hv _ _ _ hob (of_decide_eq_true hg')
      exact BM hH hrun ⟨_,h,_,by simp [Builtin.len_,Ao hd,Result.andThen,goInt],CI _ _⟩
     ·cases h
    ·rename_i e e1
     rw [e1] at hu
     obtain rfl:=CN hu.symm
     cases hrx with
     | nils A =>
     exact BM hH hrun ⟨_,h,_,by simp [Builtin.len_,Ao hd,Result.andThen,goInt],CI _ _⟩
    ·cases h
   ·cases h
  ·-- append
   rename_i s x ts tx hcal hx ht
   rw [hx] at hargs
   obtain ⟨hl,hr⟩:=hargs
   obtain ⟨v1,v2,hv⟩:∃ v1 v2,c.args.toList.map a.eval=[v1,v2]:=by
    match hq:c.args.toList.map a.eval,hl with
    | [v1,v2],_=>exact ⟨v1,v2,rfl⟩
   have hr1:=hr 0 s v1 rfl (by rw [hv];rfl)
   have hr2:=hr 1 x v2 rfl (by rw [hv];rfl)
   have ha:c.args.map a.eval = #[v1,v2]:=by apply Array.ext';simpa using hv
   have hat:c.argTypes = #[ts,tx]:=by apply Array.ext';simpa using ht
   have hrun:execOp a.eval o=(do pure (.value (← Builtin.append_ #[ts,tx] o.type #[v1,v2]))):=by
    simp [execOp,hop,resolve,hcal,ha,hat,invoke,builtin]
   exact KR hrun (Tt hty hH hs hr1 hr2 h)
  ·-- max
   rename_i k b us hcal hx
   rw [hx] at hargs
   obtain ⟨hl,hr⟩:=hargs
   obtain ⟨v,vs,hv⟩:∃ v vs,c.args.toList.map a.eval=v :: vs:=by
    match hq:c.args.toList.map a.eval,hl with
    | v :: vs,_=>exact ⟨v,vs,rfl⟩
   have hr1:=hr 0 _ v rfl (by rw [hv];rfl)
   obtain rfl:=EP hr1
   have ha:(c.args.map a.eval).toList=.int k b :: vs:=by simpa using hv
   have hrun:execOp a.eval o=(do pure (.value (← Builtin.max_ c.argTypes o.type (c.args.map a.eval)))):=by
    simp [execOp,hop,resolve,hcal,invoke,builtin]
   split at h
   ·rename_i q hq
    have:=I4 (P:=P) (w:=w) (Z:=Z) (m:=m) (H:=st.heap) true us vs b k q (by rw [hv] at hl;simpa using hl) (fun j u v hu hv'=>hr (j+1) u v (by simpa using hu) (by rw [hv];simpa using hv')) hq
    exact BM hH hrun ⟨_,h,_,by unfold Builtin.max_;rw [ha];exact this,CI _ _⟩
   ·cases h
  ·-- min
   rename_i k b us hcal hx
   rw [hx] at hargs
   obtain ⟨hl,hr⟩:=hargs
   obtain ⟨v,vs,hv⟩:∃ v vs,c.args.toList.map a.eval=v :: vs:=by
    match hq:c.args.toList.map a.eval,hl with
    | v :: vs,_=>exact ⟨v,vs,rfl⟩
   have hr1:=hr 0 _ v rfl (by rw [hv];rfl)
   obtain rfl:=EP hr1
   have ha:(c.args.map a.eval).toList=.int k b :: vs:=by simpa using hv
   have hrun:execOp a.eval o=(do pure (.value (← Builtin.min_ c.argTypes o.type (c.args.map a.eval)))):=by
    simp [execOp,hop,resolve,hcal,invoke,builtin]
   split at h
   ·rename_i q hq
    have:=I4 (P:=P) (w:=w) (Z:=Z) (m:=m) (H:=st.heap) false us vs b k q (by rw [hv] at hl;simpa using hl) (fun j u v hu hv'=>hr (j+1) u v (by simpa using hu) (by rw [hv];simpa using hv')) hq
    exact BM hH hrun ⟨_,h,_,by unfold Builtin.min_;rw [ha];exact this,CI _ _⟩
   ·cases h
  ·-- a function
   rename_i f hcal
   split at h
   ·rename_i g cap hf
    have hrf:=By hA f
    rw [hf] at hrf
    generalize hq:a.eval f=q at hrf
    cases hrf with
    | fn _ _ vs hl hr =>
    have hu:CP w Z m st.heap (c.args.toList.map st.ev++cap) (c.args.map a.eval++vs.toArray).toList:=by
     refine ⟨by simp [hl],fun j u v hu hv=>?_⟩
     simp only [Array.toList_append,Array.toList_map] at hv
     rw [List.getElem?_append] at hu hv
     simp only [List.length_map] at hu hv
     split at hu
     ·rename_i hj
      rw [if_pos hj] at hv
      exact hargs.2 j u v hu hv
     ·rename_i hj
      rw [if_neg hj] at hv
      exact hr _ u v hu hv
    obtain ⟨u,st',hk,ht,hd⟩:=Zq hs hC hH hu h
    refine ⟨u,st',hk,ht,.inr (.inr ⟨_,_,?_,hd⟩)⟩
    simp [execOp,hop,resolve,hcal,hq,Deferred.ofValue,invoke,Result.andThen]
   ·cases h
  ·cases h
 ·cases h
end
noncomputable section
def allocs:Op→Bool
 | .alloc _ | .box .. | .buildSlice .. | .makeSlice .. | .convert ..=>true
 | .call c=>match c.callee with
  | .builtin .append=>true
  | _=>false
 | _=>false
def ownCall (C:Env):Op→Bool
 | .call c=>match c.callee with
  | .value (.func f)=>match C f with
   | .own ..=>true
   | .ownd ..=>true
   | _=>false
  | _=>false
 | _=>false
def Bq (C:Env) (ops:Array Oper):List Nat:=(List.range ops.size).filter fun i=>match ops[i]? with
 | some o=>allocs o.op || ownCall C o.op
 | none=>false
def ancMask (acc:List Nat) (o:Oper):Nat:=o.after.toList.foldl (fun m e=>if Region.binds .any e then (m ||| (1 <<< e.on)) ||| acc.getD e.on 0 else m) 0
def qL:List Oper→List Nat→List Nat
 | [],acc=>acc
 | o :: os,acc=>qL os (acc++[ancMask acc o])
def X8 (ops:Array Oper):List Nat:=qL ops.toList []
def JG (ops:Array Oper) (A:List Nat) (i:Nat) (o:Oper):Bool :=
 (o.after.all fun e=>!Region.binds .any e || decide (e.on<i)) &&
 ((List.range ops.size).all fun j=>!(A.getD i 0).testBit j || (o.after.any fun e=>Region.binds .any e&&(e.on==j || (A.getD e.on 0).testBit j))) &&
 (o.op.operands.all fun x=>match x with
  | .tmp t=>(List.range ops.size).all fun j=>match (ops[j]?).bind (·.dst) with
   | some d=>!(d==t) || ((A.getD i 0).testBit j || (A.getD j 0).testBit i)
   | none=>true
  | _=>true) &&
 (match o.guard with
  | none=>true
  | some (g,_)=>(A.getD i 0).testBit g&&decide (g<ops.size)) &&
 (match o.dst with
  | none=>true
  | some d=>(List.range ops.size).all fun j=>j==i || !((ops[j]?).bind (·.dst)==some d))
def To (ops:Array Oper) (A:List Nat):Bool:=(List.range ops.size).all fun i=>match ops[i]? with
 | some o=>JG ops A i o
 | none=>false
def O6:Op→Bool
 | .store _ _ _=>true
 | _=>false
def OQ (C:Env):Op→Bool
 | .call c=>match c.callee with
  | .value (.func f)=>match C f with
   | .ptr ..=>true
   | _=>false
  | _=>false
 | _=>false
def isW (C:Env) (o:Op):Bool:=O6 o || OQ C o
def Md:Op→Option Tmp
 | .call c=>match c.args.toList with
  | .tmp t :: _=>some t
  | _=>none
 | _=>none
def J6 (T:List U) (hl:Nat) (ops:Array Oper) (sl:List Nat):Nat→Nat→Tmp→Option Nat
 | 0,_,_=>none
 | n+1,k,t=>match (List.range k).find? (fun j=>(ops[j]?).bind (·.dst)==some t) with
  | none=>match T.getD t .bad with
   | .hp b _=>some b
   | .ep b _ _ _=>some b
   | .hs b _ _ _=>some b
   | _=>none
  | some j=>match ops[j]? with
   | none=>none
   | some o=>match o.op with
    | .move (.tmp x)=>J6 T hl ops sl n j x
    | .assign (.tmp x)=>J6 T hl ops sl n j x
    | .indexAddr _ (.tmp x) _=>J6 T hl ops sl n j x
    | .fieldAddr _ (.tmp x) _=>J6 T hl ops sl n j x
    | .nilCheck (.tmp x)=>J6 T hl ops sl n j x
    | .alloc _=>some (hl+sl.idxOf j)
    | .box _ _=>some (hl+sl.idxOf j)
    | .makeSlice _ _ _=>some (hl+sl.idxOf j)
    | .buildSlice _ _ _=>some (hl+sl.idxOf j)
    | _=>none
def lK (C:Env) (T:List U) (hl:Nat) (ops:Array Oper) (sl:List Nat) (i:Nat):Option Nat:=match ops[i]? with
 | none=>none
 | some o=>match OQ C o.op with
  | true=>(match Md o.op with
  | some t=>match J6 T hl ops sl 6 i t with
    | some b=>if b<hl+sl.length then some b else none
    | none=>none
  | none=>none)
  | false=>match o.op with
  | .store _ (.tmp t) _=>match J6 T hl ops sl 6 i t with
    | some b=>if b<hl+sl.length then some b else none
    | none=>none
  | .store _ _ _=>none
  | _=>some (hl+sl.idxOf i)
def Vc (C:Env) (o:Op) (t:List U) (x:Nat):Bool:=match OQ C o with
 | true=>(match Md o with
 | some tm=>match t.getD tm .bad with
  | .hp b _=>Nat.beq b x
  | _=>false
 | none=>false)
 | false=>match o with
 | .store _ (.tmp tm) _=>match t.getD tm .bad with
  | .hp b _=>Nat.beq b x
  | .ep b _ _ _=>Nat.beq b x
  | _=>false
 | .store _ _ _=>false
 | _=>true
def WZ (C:Env) (T:List U) (hl:Nat) (ops:Array Oper) (sl:List Nat):List Nat→Option (List Nat)
 | []=>some []
 | i :: l=>match lK C T hl ops sl i,WZ C T hl ops sl l with
  | some x,some xs=>some (x :: xs)
  | _,_=>none
def Wa (A pls:List Nat) (junk n:Nat):Bool:=(List.range n).all fun i=>(List.range n).all fun j=>i==j || !(pls.getD i 0==pls.getD j 0) || pls.getD i 0==junk || (A.getD i 0).testBit j || (A.getD j 0).testBit i
def cY (C:Env) (ops:Array Oper) (A pls:List Nat) (junk:Nat):Bool:=(List.range ops.size).all fun i=>(match ops[i]? with
  | some o=>isW C o.op
  | none=>true) || (List.range ops.size).all fun j=>i==j || !(pls.getD j 0==pls.getD i 0) || pls.getD i 0==junk || (A.getD j 0).testBit i
def DN (A pls:List Nat) (n i:Nat):List Nat:=(List.range n).filterMap fun j=>if j==i || (A.getD i 0).testBit j || (A.getD j 0).testBit i then none else some (pls.getD j 0)
def E5 (hid:List Nat) (junk:Nat):Nat→List HO→List HO
 | _,[]=>[]
 | x,ob :: obs=>(if hid.elem x && !(x==junk) then .free else ob) :: E5 hid junk (x+1) obs
def OI {ρ:Type} (x junk:Nat) (hp:List HO) (ob:Option HO) (K:List HO→Option ρ):Option ρ:=match ob with
 | some ob=>if x=junk then (match ob with
   | .free=>K hp
   | _=>none) else K (hp.set x ob)
 | none=>none
def Du (C:Env) (o:Op) (x:Nat):Option Nat:=if isW C o then none else some x
def I0 (t:List U) (d:Option Tmp) (u:U):List U:=match d with
 | some d=>t.set d u
 | none=>t
section
variable {ρ:Type}
def KI (P:Program) (ty:TypeId→Option TI) (C:Env) (ops:Array Oper):List Nat→St→(St→Option ρ)→Option ρ
 | [],st,K=>K st
 | i :: rest,st,K=>match ops[i]? with
  | none=>KI P ty C ops rest st K
  | some o=>match o.guard with
   | none=>Cs P ty C none o st fun u st'=>KI P ty C ops rest (st'.put o.dst u) K
   | some (g,b)=>match (ops[g]?).bind (·.dst) with
    | none=>none
    | some d=>match st.tmps.getD d .bad with
     | .f (.bool c)=>AC (c==b)
       (Cs P ty C none o (st.put (some d) (.f (.bool b))) fun u st'=>KI P ty C ops rest (st'.put o.dst u) K)
       (KI P ty C ops rest ((st.put (some d) (.f (.bool !b))).put o.dst .undef) K)
     | .undef=>KI P ty C ops rest (st.put o.dst .undef) K
     | _=>none
def C4 (P:Program) (ty:TypeId→Option TI) (C:Env) (ops:Array Oper) (A pls:List Nat) (junk:Nat):List Nat→List U→List HO→(St→Option ρ)→Option ρ
 | [],t,hp,K=>K ⟨t,hp.take junk⟩
 | i :: rest,t,hp,K=>match ops[i]? with
  | none=>none
  | some o=>match o.guard with
   | none=>AC (Vc C o.op t (pls.getD i 0)) (Cs P ty C (Du C o.op (pls.getD i 0)) o ⟨t,E5 (DN A pls ops.size i) junk 0 hp⟩ fun u st' =>
     OI (pls.getD i 0) junk hp (st'.heap[pls.getD i 0]?) fun hp=>C4 P ty C ops A pls junk rest (I0 t o.dst u) hp K) none
   | some (g,b)=>match (ops[g]?).bind (·.dst) with
    | none=>none
    | some d=>match t.getD d .bad with
     | .f (.bool c)=>AC (c==b)
       (AC (Vc C o.op t (pls.getD i 0)) (Cs P ty C (Du C o.op (pls.getD i 0)) o ⟨t.set d (.f (.bool b)),E5 (DN A pls ops.size i) junk 0 hp⟩ fun u st' =>
        OI (pls.getD i 0) junk hp (st'.heap[pls.getD i 0]?) fun hp=>C4 P ty C ops A pls junk rest (I0 (t.set d (.f (.bool b))) o.dst u) hp K) none)
       (C4 P ty C ops A pls junk rest (I0 (t.set d (.f (.bool !b))) o.dst .undef) hp K)
     | .undef=>C4 P ty C ops A pls junk rest (I0 t o.dst .undef) hp K
     | _=>none
def EQ (ops:Array Oper) (k:Nat):Array Oper:=(ops.toList.take k).toArray
def Oz (ops:Array Oper) (A:List Nat) (k:Nat):Bool:=decide (k≤ops.size)&&(List.range ops.size).all fun i=>decide (i<k) || (List.range i).all fun j=>(A.getD i 0).testBit j
def mX (ops:Array Oper) (k:Nat) (t:Tmp):Bool:=match (List.range k).find? (fun j=>(ops[j]?).bind (·.dst)==some t) with
 | some j=>match ops[j]? with
  | some o=>(match o.op with
   | .load _ _=>true
   | _=>false)
  | none=>false
 | none=>false
def growsAt (T:List U) (hl:Nat) (ops:Array Oper) (sl:List Nat):Option Nat:=(List.range ops.size).find? fun i=>match ops[i]? with
 | some o=>(match o.op with
  | .call c=>(match c.callee,c.args.toList with
   | .builtin .append,.tmp t :: _=>(match J6 T hl ops sl 6 i t with
    | some b=>decide (b<hl)
    | none=>mX ops i t&&Oz ops (X8 ops) i)
   | _,_=>false)
  | _=>false)
 | none=>false
def HU (P:Program) (ty:TypeId→Option TI) (C:Env) (ops:Array Oper) (st:St) (K:St→Option ρ):Option ρ:=match To ops (X8 ops),WZ C st.tmps st.heap.length ops (Bq C ops) (List.range ops.size) with
  | true,some pls=>match Wa (X8 ops) pls (st.heap.length+(Bq C ops).length) ops.size&&cY C ops (X8 ops) pls (st.heap.length+(Bq C ops).length) with
   | true=>C4 P ty C ops (X8 ops) pls (st.heap.length+(Bq C ops).length) (List.range ops.size) st.tmps (st.heap++((Bq C ops).map (fun _=>.free)++[.free])) K
   | false=>none
  | _,_=>none
def owndAt (C:Env) (ops:Array Oper):Option Nat:=(List.range ops.size).find? fun i=>match ops[i]? with
 | some o=>(match o.op with
  | .call c=>(match c.callee with
   | .value (.func f)=>(match C f with
    | .ownd ..=>true
    | _=>false)
   | _=>false)
  | _=>false)
 | none=>false
def lL (H:List HO):List Nat:=(List.range H.length).filter fun o=>match H[o]? with
 | some (.box cu)=>!(As cu).isEmpty
 | _=>false
def cM:List Nat→List HO→(List HO→Option ρ)→Option ρ
 | [],H,K=>K H
 | o :: os,H,K=>match H[o]? with
  | some (.box cu)=>GT H cu fun xs=>cM os ((Bh H (As cu)).set o (BE xs)) K
  | _=>none
def nY (P:Program) (ty:TypeId→Option TI) (C:Env) (ops:Array Oper) (st:St) (K:St→Option ρ):Option ρ:=match owndAt C ops with
 | none=>HU P ty C ops st K
 | some i=>match lL st.heap with
  | []=>HU P ty C ops st K
  | bs=>cM bs st.heap fun H'=>HU P ty C ops { st with heap:=H' } fun st'=>match st'.heap[st.heap.length+(Bq C ops).idxOf i]? with
   | some .free=>HU P ty C ops st K
   | _=>K st'
def XO (P:Program) (ty:TypeId→Option TI) (C:Env) (ops:Array Oper) (draw:Bool) (st:St) (K:St→Option ρ):Option ρ:=match draw with
 | false=>KI P ty C ops (List.range ops.size) st K
 | true=>match growsAt st.tmps st.heap.length ops (Bq C ops) with
  | none=>nY P ty C ops st K
  | some k=>match To ops (X8 ops)&&Oz ops (X8 ops) k with
   | true=>HU P ty C (EQ ops k) st fun st'=>KI P ty C ops (List.range' k (ops.size-k)) st' K
   | false=>none
mutual
def Is (k:Nat):U→Bool
 | .agg us=>Hi k us
 | .tup us=>Hi k us
 | .fn _ us=>Hi k us
 | .hs o _ _ _=>decide (o<k)
 | .hp o _=>decide (o<k)
 | .ep o _ _ _=>decide (o<k)
 | _=>true
def Hi (k:Nat):List U→Bool
 | []=>true
 | u :: us=>Is k u&&Hi k us
end
def TV (k:Nat):HO→Bool
 | .box cs=>Hi k cs
 | _=>true
def DO (lv:List Nat):Nat→List U→List U
 | _,[]=>[]
 | i,u :: us=>(if lv.elem i then u else .bad) :: DO lv (i+1) us
def Y6:HO→List Nat
 | .box cs=>Dw cs
 | _=>[]
def marks (H:List HO):Nat→List Nat→List Nat
 | 0,ks=>ks
 | n+1,ks=>marks H n (ks++(ks.map fun o=>Y6 (H.getD o .dead)).flatten)
def E3 (ks:List Nat):HO→HO
 | .box cs=>.box (D7 ks cs)
 | .arr sz n g=>.arr sz n g
 | .dead=>.dead
 | .free=>.free
def Lh (hn:Nat) (H:List HO) (us:List U):List Nat:=List.range hn++(List.range H.length).filter fun o=>(!Nat.blt o hn)&&Ji (marks H 3 (Dw us)) o
def evGc (hn:Nat) (us:List U) (H:List HO) (ks:List Nat) (K:St→Option ρ):Option ρ :=
 AC (decide (hn≤H.length)&&((Dw us).all (Ji ks))&&(ks.all fun o=>(Y6 (H.getD o .dead)).all (Ji ks))) (K ⟨D7 ks us,ks.map fun o=>E3 ks (H.getD o .dead)⟩) none
def ZX (hn:Nat) (lv:List Nat) (k:Nat) (st:St) (K:St→Option ρ):Option ρ :=
 AC (Nat.ble 1000 k) (evGc hn (DO lv 0 st.tmps) st.heap (Lh hn st.heap (DO lv 0 st.tmps)) K)
 (AC (decide (hn≤k)&&Hi k (DO lv 0 st.tmps)&&(st.heap.take k).all (TV k)) (K ⟨DO lv 0 st.tmps,st.heap.take k⟩) none)
abbrev Tab:=List (Nat × List Nat × Nat)
def Tab.at (T:Tab) (id:Nat):Option (List Nat × Nat):=(T.find? fun p=>p.1==id).map (·.2)
def VS (H:List HO) (o n:Nat):Bool:=match H[o]? with
 | some (.box cs)=>cs.length==n
 | _=>false
def NJ (P:Program) (st:St):List ResultVar→Option (List U)
 | []=>some []
 | .tmp t :: rs=>match NJ P st rs with
  | some us=>some (st.tmps.getD t .bad :: us)
  | none=>none
 | .cell x t :: rs=>match st.tmps.getD x .bad,It P t,NJ P st rs with
  | .hp o 0,some ti,some us=>if VS st.heap o ti.size then HT ti (.hp o 0) st fun u _=>some (u :: us) else none
  | _,_,_=>none
def VX:List F→F
 | [x]=>x
 | xs=>.tup xs
def Om (H:List HO):List HO→Option (List F)
 | []=>some []
 | .box cs :: obs=>match Bb H cs,Om H obs with
  | some xs,some os=>some (.agg xs :: os)
  | _,_=>none
 | .arr _ n g :: obs=>match Om H obs with
  | some os=>some (.sl n g :: os)
  | none=>none
 | _ :: _=>none
def OM {ρ:Type} (H:List HO):List HO→(List F→Option ρ)→Option ρ
 | [],K=>K []
 | .box cs :: obs,K=>GT H cs fun xs=>OM H obs fun os=>K (.agg xs :: os)
 | .arr _ n g :: obs,K=>OM H obs fun os=>K (.sl n g :: os)
 | _ :: _,_=>none
def Pq:List HO→Option (List F)
 | []=>some []
 | .box cs :: obs=>match Bb [] cs,Pq obs with
  | some xs,some os=>some (.agg xs :: os)
  | _,_=>none
 | _ :: _=>none
def Lg {ρ:Type}:List HO→(List F→Option ρ)→Option ρ
 | [],K=>K []
 | .box cs :: obs,K=>match Bb [] cs with
  | some xs=>Lg obs fun os=>K (.agg xs :: os)
  | none=>none
 | _ :: _,_=>none
def H8 (n:Nat) (g:Nat→F):Bool:=(List.range n).all fun i=>Gp (g i)
def Hf (d:Bool) (H:List HO):U→Option F
 | .f x=>if (d || Gp x)&&Be x then some x else none
 | .nils=>some (.tup [])
 | .hs o gen off len=>match H[o]? with
  | some (.arr sz n g)=>if gen=n∧off=0∧len=n∧(d || H8 n g)=true then some (.tup [.int .i64 sz,.sl n g]) else none
  | _=>none
 | _=>none
def E0 (d:Bool) (H:List HO):List U→Option (List F)
 | []=>some []
 | u :: us=>match Hf d H u,E0 d H us with
  | some x,some xs=>some (x :: xs)
  | _,_=>none
def Po (d:Bool) (H:List HO):List U→Option (List F)
 | []=>some []
 | u :: us=>match E0 d H u.cells,Po d H us with
  | some a,some r=>some (mkF (Cd u) a :: r)
  | _,_=>none
def E4 {ρ:Type} (d:Bool) (H:List HO):List U→(List F→Option ρ)→Option ρ
 | [],K=>K []
 | .f x :: us,K=>AC ((d || Gp x)&&Be x) (E4 d H us fun es=>K (x :: es)) none
 | .nils :: us,K=>E4 d H us fun es=>K (.tup [] :: es)
 | .hs o gen off len :: us,K=>match H[o]? with
  | some (.arr sz n g)=>AC (decide (gen=n)&&decide (off=0)&&decide (len=n)) (AC (d || H8 n g) (E4 d H us fun es=>K (.tup [.int .i64 sz,.sl n g] :: es)) none) none
  | _=>none
 | _ :: _,_=>none
def Wb {ρ:Type} (d:Bool) (H:List HO):List U→(List F→Option ρ)→Option ρ
 | [],K=>K []
 | u :: us,K=>E4 d H u.cells fun a=>Wb d H us fun r=>K (mkF (Cd u) a :: r)
theorem Lf {ρ:Type} {H:List HO} {r:ρ}:∀ (obs:List HO) (K:List F→Option ρ),OM H obs K=some r→∃ os,Om H obs=some os∧K os=some r
 | [],K,h=>⟨[],rfl,h⟩
 | .box cs :: obs,K,h=>by
  simp only [OM] at h
  obtain ⟨xs,h1,h2⟩:=B0 _ _ h
  obtain ⟨os,h3,h4⟩:=Lf obs _ h2
  exact ⟨.agg xs :: os,by simp only [Om,h1,h3],h4⟩
 | .dead :: _,K,h=>by simp [OM] at h
 | .free :: _,K,h=>by simp [OM] at h
 | .arr _ n g :: obs,K,h=>by
  simp only [OM] at h
  obtain ⟨os,h3,h4⟩:=Lf obs _ h
  exact ⟨.sl n g :: os,by simp only [Om,h3],h4⟩
theorem ON {ρ:Type} {r:ρ}:∀ (obs:List HO) (K:List F→Option ρ),Lg obs K=some r→∃ os,Pq obs=some os∧K os=some r
 | [],K,h=>⟨[],rfl,h⟩
 | .box cs :: obs,K,h=>by
  simp only [Lg] at h
  split at h
  ·rename_i xs h1
   obtain ⟨os,h3,h4⟩:=ON obs _ h
   exact ⟨.agg xs :: os,by simp only [Pq,h1,h3],h4⟩
  ·cases h
 | .dead :: _,K,h=>by simp [Lg] at h
 | .free :: _,K,h=>by simp [Lg] at h
 | .arr _ n g :: obs,K,h=>by simp [Lg] at h
theorem I2 {ρ:Type} {d:Bool} {H:List HO} {r:ρ}:∀ (us:List U) (K:List F→Option ρ),E4 d H us K=some r→∃ es,E0 d H us=some es∧K es=some r
 | [],K,h=>⟨[],rfl,h⟩
 | .f x :: us,K,h=>by
  simp only [E4] at h
  replace h:=AI h;obtain ⟨h1,h⟩:=h
  obtain ⟨es,h2,h3⟩:=I2 us _ h
  exact ⟨x :: es,by simp only [E0,Hf,h1,if_true,h2],h3⟩
 | .nils :: us,K,h=>by
  simp only [E4] at h
  obtain ⟨es,h2,h3⟩:=I2 us _ h
  exact ⟨.tup [] :: es,by simp only [E0,Hf,h2],h3⟩
 | .hs o gen off len :: us,K,h=>by
  simp only [E4] at h
  split at h
  ·rename_i sz n g ho
   replace h:=AI h;obtain ⟨h1,h⟩:=h
   replace h:=AI h;obtain ⟨h4,h⟩:=h
   simp only [Bool.and_eq_true,decide_eq_true_eq] at h1
   obtain ⟨es,h2,h3⟩:=I2 us _ h
   exact ⟨_ :: es,by simp only [E0,Hf,ho,if_pos (show gen=n∧off=0∧len=n∧(d || H8 n g)=true from ⟨h1.1.1,h1.1.2,h1.2,h4⟩),h2],h3⟩
  ·cases h
 | .agg _ :: _,K,h=>by simp [E4] at h
 | .tup _ :: _,K,h=>by simp [E4] at h
 | .hp _ _ :: _,K,h=>by simp [E4] at h
 | .ep _ _ _ _ :: _,K,h=>by simp [E4] at h
 | .va _ :: _,K,h=>by simp [E4] at h
 | .nilp :: _,K,h=>by simp [E4] at h
 | .fn _ _ :: _,K,h=>by simp [E4] at h
 | .nilfn :: _,K,h=>by simp [E4] at h
 | .undef :: _,K,h=>by simp [E4] at h
 | .bad :: _,K,h=>by simp [E4] at h
theorem Lc {ρ:Type} {d:Bool} {H:List HO} {r:ρ}:∀ (us:List U) (K:List F→Option ρ),Wb d H us K=some r→∃ es,Po d H us=some es∧K es=some r
 | [],K,h=>⟨[],rfl,h⟩
 | u :: us,K,h=>by
  simp only [Wb] at h
  obtain ⟨a,h1,h⟩:=I2 _ _ h
  obtain ⟨es,h2,h3⟩:=Lc us _ h
  exact ⟨_ :: es,by simp only [Po,h1,h2],h3⟩
def Gw:ResultVar→Bool
 | .tmp t=>Nat.beq t 1000000 || (Nat.beq t 1000001 || (Nat.beq t 1000002 || Nat.beq t 1000003))
 | _=>false
def Tq:ResultVar→Bool
 | .tmp t=>Nat.beq t 1000001 || Nat.beq t 1000002
 | _=>false
def PN:ResultVar→Bool
 | .tmp t=>Nat.beq t 1000002
 | _=>false
def KD:ResultVar→Bool
 | .tmp t=>Nat.beq t 1000003
 | _=>false
theorem P3 {x:Option ResultVar} (h:x.elim false Gw=false):x.elim false KD=false:=by
 cases x with
 | none=>rfl
 | some v=>cases v with
  | tmp t =>
   simp only [Option.elim_some,Gw,Bool.or_eq_false_iff] at h
   exact h.2.2.2
  | _=>rfl
def LI (fn : Func) : Bool := fn.name == "runtime.NumGoroutine" || fn.results.toList.head?.elim false Gw
theorem Pu {fn : Func} (h : LI fn = false) : (fn.name == "runtime.NumGoroutine") = false := by
 unfold LI at h;rw [Bool.or_eq_false_iff] at h;exact h.1
theorem Pv {fn:Func} (h:LI fn=false):fn.results.toList.head?.elim false Gw=false:=by
 unfold LI at h;rw [Bool.or_eq_false_iff] at h;exact h.2
def Yk (P:Program) (d many:Bool) (rs:List ResultVar) (st:St):Option F:=match NJ P st rs with
 | some us=>if (many || decide ((As us).length≤1))=true then (Po d st.heap us).map .tup else none
 | none=>none
def TB (P:Program) (hn:Nat) (rs:List ResultVar) (st:St):Option F:=match NJ P st rs with
 | some us=>if decide ((As us).length≤1)=true then (match Po true st.heap us,Pq (st.heap.take hn) with
  | some es,some os=>some (.tup (.tup es :: os))
  | _,_=>none) else none
 | none=>none
def lowOk (n:Nat) (us:List U):Bool:=(As us).all fun o=>Nat.ble n o
theorem nG {α:Type} {c:Bool} {x:Option α} {r:α} (h:(if c=true then x else none)=some r):c=true∧x=some r:=by
 cases c
 ·simp at h
 ·exact ⟨rfl,by simpa using h⟩
def Q5 (P:Program) (hn:Nat) (rs:List ResultVar) (st:St):Option F:=if (rs.head?.elim false Gw)&&Nat.beq hn 0 then Yk P (rs.head?.elim false Tq) (rs.head?.elim false PN) rs.tail st else if (rs.head?.elim false KD)=true then TB P hn rs.tail st else match NJ P st rs with
 | some us=>match Bb st.heap us with
  | some xs=>match hn with
   | 0=>some (VX xs)
   | n+1=>if lowOk (n+1) us=true then (match Om st.heap (st.heap.take (n+1)) with
    | some os=>some (.tup (VX xs :: os))
    | none=>none) else none
  | none=>none
 | none=>none
inductive End where
 | ret (x:F)
 | cut (items:List Item) (st:St)
def kQ (P:Program) (hn:Nat) (rs:List ResultVar) (K:End→Option ρ) (st:St):Option ρ:=AC ((rs.head?.elim false Gw)&&Nat.beq hn 0) (match NJ P st rs.tail with
 | some us=>AC ((rs.head?.elim false PN) || decide ((As us).length≤1)) (Wb (rs.head?.elim false Tq) st.heap us fun es=>K (.ret (.tup es))) none
 | none=>none) <| AC (rs.head?.elim false KD) (match NJ P st rs.tail with
 | some us=>AC (decide ((As us).length≤1)) (Wb true st.heap us fun es=>Lg (st.heap.take hn) fun os=>K (.ret (.tup (.tup es :: os)))) none
 | none=>none) <| match NJ P st rs with
 | some us=>GT st.heap us fun xs=>match hn with
  | 0=>K (.ret (VX xs))
  | n+1=>AC (lowOk (n+1) us) (OM st.heap (st.heap.take (n+1)) fun os=>K (.ret (.tup (VX xs :: os)))) none
 | none=>none
theorem fF {P:Program} {hn:Nat} {rs:List ResultVar} {K:End→Option ρ} {st:St} {r:ρ} (h:kQ P hn rs K st=some r):∃ x,Q5 P hn rs st=some x∧K (.ret x)=some r:=by
 unfold kQ at h
 unfold Q5
 cases hm:((rs.head?.elim false Gw)&&Nat.beq hn 0) with
 | true =>
  rw [hm,AF] at h
  simp only [if_true,Yk]
  split at h
  ·rename_i us hus
   replace h:=AI h;obtain ⟨h1,h⟩:=h
   obtain ⟨es,h2,h3⟩:=Lc _ _ h
   exact ⟨.tup es,by simp only [hus,if_pos h1,h2,Option.map_some],h3⟩
  ·cases h
 | false =>
 rw [hm,AJ] at h
 simp only [Bool.false_eq_true,if_false]
 cases hlm:rs.head?.elim false KD with
 | true =>
  rw [hlm,AF] at h
  simp only [if_true,TB]
  split at h
  ·rename_i us hus
   replace h:=AI h;obtain ⟨h1,h⟩:=h
   obtain ⟨es,h2,h3⟩:=Lc _ _ h
   obtain ⟨os,h4,h5⟩:=ON _ _ h3
   exact ⟨.tup (.tup es :: os),by simp only [hus,if_pos h1,h2,h4],h5⟩
  ·cases h
 | false =>
 rw [hlm,AJ] at h
 simp only [Bool.false_eq_true,if_false]
 split at h
 ·rename_i us hus
  obtain ⟨xs,h1,h2⟩:=B0 _ _ h
  cases hn with
  | zero=>exact ⟨_,by simp only [Q5,hus,h1],h2⟩
  | succ n =>
   replace h2:=AI h2;obtain ⟨h0,h2⟩:=h2
   obtain ⟨os,h3,h4⟩:=Lf _ _ h2
   exact ⟨_,by simp only [Q5,hus,h1,h0,if_true,h3],h4⟩
 ·cases h
def run (P:Program) (ty:TypeId→Option TI) (C:Env) (T:Tab) (hn:Nat) (rs:List ResultVar) (K:End→Option ρ):Nat→List Item→St→Option ρ
 | 0,_,_=>none
 | _+1,[],st=>kQ P hn rs K st
 | n+1,.code c :: k,st=>match c with
  | .skip=>run P ty C T hn rs K n k st
  | .label _=>run P ty C T hn rs K n k st
  | .region id ops draw=>match T.at id with
   | none=>XO P ty C ops draw st fun st'=>run P ty C T hn rs K n k st'
   | some (lv,h)=>ZX hn lv h st fun st=>K (.cut (.code (.region id ops draw) :: k) st)
  | .seq x y=>run P ty C T hn rs K n (.code x :: .code y :: k) st
  | .cond c x y=>match st.ev c with
   | .f (.bool b)=>AC b (run P ty C T hn rs K n (.code x :: k) st) (run P ty C T hn rs K n (.code y :: k) st)
   | _=>none
  | .block id c=>run P ty C T hn rs K n (.code c :: .inBlock id :: k) st
  | .loop c=>run P ty C T hn rs K n (.code c :: .inLoop c :: k) st
  | .exit id=>match exitTo id k with
   | some k'=>run P ty C T hn rs K n k' st
   | none=>none
  | .goto l=>match gotoIn l k with
   | some k'=>run P ty C T hn rs K n k' st
   | none=>none
  | .ret=>kQ P hn rs K st
  | _=>none
 | n+1,.inBlock _ :: k,st=>run P ty C T hn rs K n k st
 | n+1,.inLoop c :: k,st=>run P ty C T hn rs K n (.code c :: .inLoop c :: k) st
 | _+1,_ :: _,_=>none
def Yi (P:Program) (ty:TypeId→Option TI) (C:Env) (T:Tab) (hn:Nat) (rs:List ResultVar) (K:End→Option ρ) (n:Nat) (items:List Item) (st:St):Option ρ :=
 match items with
 | .code (.region _ ops draw) :: k=>XO P ty C ops draw st fun st'=>run P ty C T hn rs K n k st'
 | _=>none
def I6 (id:Nat):Code→List Item→Option (List Item)
 | .region id' ops d,k=>if id'==id then some (.code (.region id' ops d) :: k) else none
 | .seq x y,k=>match I6 id x (.code y :: k) with
  | some r=>some r
  | none=>I6 id y k
 | .cond _ x y,k=>match I6 id x k with
  | some r=>some r
  | none=>I6 id y k
 | .block b c,k=>I6 id c (.inBlock b :: k)
 | .loop c,k=>I6 id c (.inLoop c :: k)
 | _,_=>none
end
section
variable {P:Program} {w:World} {Z:Nat→Prop} {m:Nat→Nat} {H:List HO} {ty:TypeId→Option TI} {C:Env} {ρ:Type} {r:ρ} {st:St} {a:Act}
theorem GV (st:St) (d:Option Tmp) (u:U):(st.put d u).heap=st.heap:=by cases d <;> rfl
theorem AOK.put {st':St} {w':World} {Z':Nat→Prop} {m':Nat→Nat} (hA:AOK w Z m st a) (ht:st'.tmps=st.tmps) (hE:Ext w Z m st.heap w' Z' m' st'.heap) (hH:HOK w' Z' m' st'.heap)
  {u:U} {v:Value} (hr:RepU w' Z' m' st'.heap u v) (d:Option Tmp):AOK w' Z' m' (st'.put d u) (a.put d v):=by
 refine ⟨?_,?_,?_⟩
 ·cases d <;> simp [St.put,Act.put,ht,hA.len]
 ·intro i x y hx hy
  rw [GV]
  cases d with
  | none =>
   simp only [St.put,Act.put] at hx hy
   rw [ht] at hx
   exact (hA.rep i x y hx hy).mono hE
  | some d =>
   simp only [St.put,Act.put] at hx hy
   rw [ht] at hx
   by_cases hd:d=i
   ·subst hd
    have h1:=(List.getElem?_eq_some_iff.1 hx).1
    simp only [List.length_set] at h1
    rw [List.getElem?_set_self h1] at hx
    have h2:d<a.tmps.size:=by rw [← hA.len];exact h1
    rw [Array.getElem?_setIfInBounds_self_of_lt h2] at hy
    cases hx;cases hy;exact hr
   ·rw [List.getElem?_set_ne hd] at hx
    rw [Array.getElem?_setIfInBounds_ne hd] at hy
    exact (hA.rep i x y hx hy).mono hE
 ·rw [GV];exact hH
theorem AOK.known_bool (hA:AOK w Z m st a) {d:Tmp} {b:Bool} (h:st.tmps.getD d .bad=.f (.bool b)):a.tmps[d]?=some (.bool b)∧d<st.tmps.length:=by
 have hd:d<st.tmps.length:=by
  rcases Nat.lt_or_ge d st.tmps.length with h' | h'
  ·exact h'
  ·rw [List.getD,List.getElem?_eq_none h'] at h;cases h
 have h1:st.tmps[d]?=some (.f (.bool b)):=by
  rw [List.getElem?_eq_getElem hd]
  simp only [List.getD,List.getElem?_eq_getElem hd,Option.getD_some] at h
  rw [h]
 have hd':d<a.tmps.size:=by rw [← hA.len];exact hd
 have h2:a.tmps[d]?=some a.tmps[d]:=Array.getElem?_eq_getElem hd'
 have:=Hb (hA.rep d _ _ h1 h2)
 exact ⟨by rw [h2,this],hd⟩
theorem AOK.same (hA:AOK w Z m st a) {d:Tmp} {b:Bool} (h:st.tmps.getD d .bad=.f (.bool b)):AOK w Z m (st.put (some d) (.f (.bool b))) a:=by
 obtain ⟨h1,h2⟩:=hA.known_bool h
 have:=hA.put (st':=st) rfl (Ext.refl _ _ _ _) hA.hok (Bi (w:=w) (Z:=Z) (m:=m) (H:=st.heap) b) (some d)
 have e:a.put (some d) (.bool b)=a:=by
  simp only [Act.put]
  congr 1
  apply Array.ext_getElem?
  intro i
  rw [Array.getElem?_setIfInBounds]
  split
  ·rename_i e;subst e
   split
   ·exact h1.symm
   ·rename_i hge;rw [Array.getElem?_eq_none (by omega)]
  ·rfl
 rw [e] at this
 exact this
theorem GW (a:Act) (d:Option Tmp) (v:Value):(a.put d v).defers=a.defers:=by cases d <;> rfl
def OA (w:World) (Z:Nat→Prop) (m:Nat→Nat) (H:List HO) (ds:List Deferred) (st':St) (a':Act) (w':World):Prop :=
 a'.defers=ds∧∃ Z' m',AOK w' Z' m' st' a'∧Ext w Z m H w' Z' m' st'.heap
theorem HA (hty:Gl P ty) (hC:Ax P C) {ops:Array Oper} {w0:World} {Z0:Nat→Prop} {m0:Nat→Nat} {H0:List HO} {ds:List Deferred} {K:St→Option ρ} :
  ∀ (l:List Nat) (st:St) (a:Act) (w:World) (Z:Nat→Prop) (m:Nat→Nat),AOK w Z m st a→a.defers=ds→Ext w0 Z0 m0 H0 w Z m st.heap→KI P ty C ops l st K=some r →
   wpOps P ops (fun e a' w'=>e=.normal∧∃ st',K st'=some r∧OA w0 Z0 m0 H0 ds st' a' w') l a w
 | [],st,a,w,Z,m,hA,hd,hE,h=>⟨rfl,st,h,hd,Z,m,hA,hE⟩
 | i :: rest,st,a,w,Z,m,hA,hd,hE,h=>by
  simp only [wpOps]
  cases ho:ops[i]? with
  | none =>
   simp only [KI,ho] at h
   exact HA hty hC rest st a w Z m hA hd hE h
  | some o =>
   simp only [KI,ho] at h
   have step:∀ (st:St),AOK w Z m st a→Ext w0 Z0 m0 H0 w Z m st.heap→Cs P ty C none o st (fun u st'=>KI P ty C ops rest (st'.put o.dst u) K)=some r →
     o.wp P a w (wpOps P ops (fun e a' w'=>e=.normal∧∃ st',K st'=some r∧OA w0 Z0 m0 H0 ds st' a' w') rest) (fun e a' w'=>e=.normal∧∃ st',K st'=some r∧OA w0 Z0 m0 H0 ds st' a' w'):=by
    intro st hA hE h
    obtain ⟨u,st1,hk,ht,hdo⟩:=Wh hty hC hA (slot:=none) (fun k hk=>by cases hk) h
    refine hdo.wp fun v w' ⟨Z',m',hE',hH',hr⟩=>?_
    exact HA hty hC rest _ _ w' Z' m' (hA.put ht hE' hH' hr o.dst) (by rw [GW];exact hd) (by rw [GV];exact hE.trans hE') hk
   simp only []
   cases hg:o.guard with
   | none =>
    rw [hg] at h
    have hw:Region.wanted o (yielded ops a.tmps)=true:=by simp [Region.wanted,hg]
    rw [if_pos hw]
    exact .inl (step st hA hE h)
   | some p =>
    obtain ⟨g,b⟩:=p
    rw [hg] at h
    simp only at h
    cases hdst:(ops[g]?).bind (·.dst) with
    | none=>rw [hdst] at h;cases h
    | some d =>
     rw [hdst] at h
     simp only at h
     split at h
     ·rename_i c hc
      obtain ⟨h1,h2⟩:=hA.known_bool hc
      have hy:yielded ops a.tmps g=some c:=by simp [yielded,hdst,h1]
      have hw:Region.wanted o (yielded ops a.tmps)=(c==b):=by simp [Region.wanted,hg,hy]
      rw [hw]
      by_cases hcb:c=b
      ·subst hcb
       simp only [beq_self_eq_true,AF,if_true] at h ⊢
       exact .inl (step _ (hA.same hc) (by rw [GV];exact hE) h)
      ·have hf:(c==b)=false:=by simp [hcb]
       have hcn:c = !b:=by cases c <;> cases b <;> simp_all
       rw [hf] at h ⊢
       simp only [AJ,Bool.false_eq_true,if_false] at h ⊢
       rw [← hcn] at h
       refine HA hty hC rest _ _ w Z m ((hA.same hc).put rfl (Ext.refl _ _ _ _) (by rw [GV];exact hA.hok) .undef o.dst) (by rw [GW];exact hd) (by rw [GV,GV];exact hE) h
     ·rename_i hc
      have hy:yielded ops a.tmps g=none:=by
       simp only [yielded,hdst,Option.bind_some]
       have hr:=By hA (.tmp d)
       simp only [St.ev,Act.eval] at hr
       rw [hc] at hr
       by_cases hlt:d<a.tmps.size
       ·rw [Array.getElem?_eq_getElem hlt]
        simp only [Array.getD,dif_pos hlt] at hr
        generalize hq:a.tmps[d]=q at hr
        have hq':a.tmps.getInternal d hlt=q:=hq
        rw [hq'] at hr
        cases hr;rfl
       ·rw [Array.getElem?_eq_none (Nat.le_of_not_lt hlt)]
      have hw:Region.wanted o (yielded ops a.tmps)=false:=by simp [Region.wanted,hg,hy]
      rw [hw]
      simp only [Bool.false_eq_true,if_false]
      exact HA hty hC rest _ _ w Z m (hA.put rfl (Ext.refl _ _ _ _) hA.hok .undef o.dst) (by rw [GW];exact hd) (by rw [GV];exact hE) h
     ·cases h
end
end
section
variable {P:Program} {ty:TypeId→Option TI} {C:Env} {ρ:Type} {st:St} {K:U→St→Option ρ}
theorem Ba {α β:Type} (b:Bool) (x y:Option α) (f:α→Option β):(AC b x y).bind f=AC b (x.bind f) (y.bind f):=by cases b <;> rfl
theorem BO {α β:Type} (f:α→Option β):(none:Option α).bind f=none:=rfl
theorem BN {α β:Type} (a:α) (f:α→Option β):(some a).bind f=f a:=rfl
def BS:U→St→Option (U × St):=fun u s=>some (u,s)
def unK (K:U→St→Option ρ):U × St→Option ρ:=fun p=>K p.1 p.2
theorem ZZ (ti:TI) (u:U):HT ti u st K=(HT ti u st BS).bind (unK K):=by
 unfold HT
 repeat' split
 all_goals simp only [Ba,BO,BN,BS,unK]
theorem OT (ti:TI) (u x:U):Hp ti u x st K=(Hp ti u x st BS).bind (unK K):=by
 unfold Hp
 repeat' split
 all_goals simp only [Ba,BO,BN,BS,unK]
theorem Oq (t:TypeId) (x ix:U):DU ty t x ix st K=(DU ty t x ix st BS).bind (unK K):=by
 unfold DU
 repeat' split
 all_goals simp only [Ba,BO,BN,BS,unK]
theorem Ot (t:TypeId) (x:U) (f:Nat):DV ty t x f st K=(DV ty t x f st BS).bind (unK K):=by
 unfold DV
 repeat' split
 all_goals simp only [Ba,BO,BN,BS,unK]
 all_goals (repeat' split)
 all_goals simp only [Ba,BO,BN]
theorem XN (t:TypeId) (x:U) (lo hi mx:Option U):Hq ty t x lo hi mx st K=(Hq ty t x lo hi mx st BS).bind (unK K):=by
 unfold Hq
 repeat' split
 all_goals simp only [Ba,BO,BN,BS,unK]
 all_goals (repeat' split)
 all_goals simp only [Ba,BO,BN]
theorem ZY (slot:Option Nat) (t:TypeId) (l c:U):KJ ty slot t l c st K=(KJ ty slot t l c st BS).bind (unK K):=by
 unfold KJ
 repeat' split
 all_goals simp only [Ba,BO,BN,BS,unK]
theorem Tk (slot:Option Nat) (ts tx:TypeId) (s x:U):Gc ty slot ts tx s x st K=(Gc ty slot ts tx s x st BS).bind (unK K):=by
 unfold Gc
 split
 ·split
  ·split
   ·rw [Ql]
    congr 1
    funext m g'
    simp only [Ba,BO,BN,BS,unK]
    repeat' split
    all_goals simp only [Ba,BO,BN,BS,unK]
    all_goals (repeat' split)
    all_goals simp only [Ba,BO,BN]
   ·rfl
  ·rfl
 ·rfl
theorem RC (slot:Option Nat) (s d:TypeId) (x:U):Eb ty slot s d x st K=(Eb ty slot s d x st BS).bind (unK K):=by
 unfold Eb KP
 repeat' split
 all_goals simp only [Ba,BO,BN,BS,unK]
theorem gV (op:BinOp) (t:TypeId) (x y:U):OU P op t x y st K=(OU P op t x y st BS).bind (unK K):=by
 unfold OU
 repeat' split
 all_goals simp only [Ba,BO,BN,BS,unK]
 all_goals (repeat' split)
 all_goals simp only [Ba,BO,BN]
theorem XQ (op:BinOp) (t:TypeId) (x:U):Hr P op t x st K=(Hr P op t x st BS).bind (unK K):=by
 unfold Hr
 repeat' split
 all_goals simp only [Ba,BO,BN,BS,unK]
 all_goals (repeat' split)
 all_goals simp only [Ba,BO,BN]
theorem nX (op:UnOp) (x:U):XM op x st K=(XM op x st BS).bind (unK K):=by
 unfold XM
 repeat' split
 all_goals simp only [Ba,BO,BN,BS,unK]
theorem XX (t:TypeId) (ps:List (Nat × U)):Hu ty t ps st K=(Hu ty t ps st BS).bind (unK K):=by
 unfold Hu
 repeat' split
 all_goals simp only [Ba,BO,BN,BS,unK]
theorem XU (t:TypeId) (x:U) (f:Nat):Ht ty t x f st K=(Ht ty t x f st BS).bind (unK K):=by
 unfold Ht
 repeat' split
 all_goals simp only [Ba,BO,BN,BS,unK]
theorem XT (t:TypeId) (x i:U):Hs ty t x i st K=(Hs ty t x i st BS).bind (unK K):=by
 unfold Hs
 repeat' split
 all_goals simp only [Ba,BO,BN,BS,unK]
mutual
theorem jG {α β:Type} {H:List HO} (f:α→Option β):∀ (u:U) (K:F→Option α),(Jh H u K).bind f=Jh H u fun x=>(K x).bind f
 | .f x,K=>rfl
 | .agg us,K=>IJ f us _
 | .tup us,K=>IJ f us _
 | .nils,K=>rfl
 | .hs o gen off len,K=>by
  simp only [Jh]
  split
  ·cases decide (gen=_) <;> rfl
  ·rfl
 | .hp _ _,K=>rfl
 | .ep _ _ _ _,K=>rfl
 | .va _,K=>rfl
 | .nilp,K=>rfl
 | .fn _ _,K=>rfl
 | .nilfn,K=>rfl
 | .undef,K=>rfl
 | .bad,K=>rfl
theorem IJ {α β:Type} {H:List HO} (f:α→Option β):∀ (us:List U) (K:List F→Option α),(GT H us K).bind f=GT H us fun xs=>(K xs).bind f
 | [],K=>rfl
 | u :: us,K=>by
  simp only [GT]
  rw [jG f u]
  congr 1
  funext x
  exact IJ f us _
end
theorem Nk (slot:Option Nat) (t:TypeId) (n:Nat) (ps:List (Nat × U)):C5 ty slot t n ps st K=(C5 ty slot t n ps st BS).bind (unK K):=by
 unfold C5
 repeat' split
 all_goals simp only [IJ,Ba,BO,BN,BS,unK]
theorem Za (slot:Option Nat) (f:FuncId) (us:List U):JF C slot f us st K=(JF C slot f us st BS).bind (unK K):=by
 unfold JF
 repeat' split
 all_goals simp only [IJ,Ba,BO,BN,BS,unK]
theorem XP (slot:Option Nat) (o:Oper):Cs P ty C slot o st K=(Cs P ty C slot o st BS).bind (unK K):=by
 unfold Cs
 split
 all_goals first
  | exact XX _ _
  | exact Nk _ _ _ _
  | (split <;> first | exact XQ _ _ _ | exact gV _ _ _ _)
  | exact nX _ _
  | exact RC _ _ _ _
  | exact ZY _ _ _ _
  | exact XN _ _ _ _ _
  | exact Ot _ _ _
  | exact XU _ _ _
  | exact Oq _ _ _
  | exact XT _ _ _
  | (split <;> first | exact ZZ _ _ | rfl)
  | (split <;> first | (rw [Ba,← OT];rfl) | exact OT _ _ _ | rfl)
  | skip
 all_goals try (repeat' split)
 all_goals try simp only [Ba,BO,BN,BS,unK]
 all_goals first
  | exact Tk _ _ _ _ _
  | exact Za _ _ _
  | rfl
theorem SL {slot:Option Nat} {o:Oper} {K K':U→St→Option ρ} {r:ρ} (hk:∀ u s,K u s=some r→K' u s=some r) (h:Cs P ty C slot o st K=some r):Cs P ty C slot o st K'=some r:=by
 rw [XP] at h ⊢
 cases hp:Cs P ty C slot o st BS with
 | none=>rw [hp] at h;cases h
 | some p=>rw [hp] at h;exact hk _ _ h
end
noncomputable section
def IH (H H':List HO):Prop:=H.length=H'.length∧∀ (o:Nat) (ob:HO),H[o]?=some ob→ob=.free ∨ H'[o]?=some ob
section
variable {P:Program} {ty:TypeId→Option TI} {C:Env} {st st' st1:St} {u:U} {k:Nat}
theorem IH.box {H H':List HO} (h:IH H H') {o:Nat} {cs:List U} (ho:H[o]?=some (.box cs)):H'[o]?=some (.box cs):=by
 rcases h.2 o _ ho with e | e
 ·cases e
 ·exact e
theorem IH.arr {H H':List HO} (h:IH H H') {o sz n:Nat} {g:Nat→F} (ho:H[o]?=some (.arr sz n g)):H'[o]?=some (.arr sz n g):=by
 rcases h.2 o _ ho with e | e
 ·cases e
 ·exact e
def K8 (k:Nat) (st st':St) (f:St→Option (U × St)):Prop :=
 ∀ u st1,f st=some (u,st1)→∃ ob,st1=⟨st.tmps,st.heap.set k ob⟩∧f st'=some (u,⟨st'.tmps,st'.heap.set k ob⟩)
theorem Ej {H:List HO} (h:H[k]?=some .free):H.set k .free=H:=by
 apply List.ext_getElem?
 intro i
 by_cases hi:k=i
 ·subst hi;rw [h];simp [(List.getElem?_eq_some_iff.1 h).1]
 ·rw [List.getElem?_set_ne hi]
theorem Ah (hk:st.heap[k]?=some .free) (hk':st'.heap[k]?=some .free) {x:U} (e:some (x,st)=some (u,st1)) :
  ∃ ob,st1=⟨st.tmps,st.heap.set k ob⟩∧some (x,st')=some (u,(⟨st'.tmps,st'.heap.set k ob⟩:St)):=by
 cases e
 exact ⟨.free,by rw [Ej hk],by rw [Ej hk']⟩
theorem XS (hH:IH st.heap st'.heap) (hk:st.heap[k]?=some .free) (hk':st'.heap[k]?=some .free) (ti:TI) (u:U):K8 k st st' fun st=>HT ti u st BS:=by
 intro v st1 h
 simp only at h ⊢
 unfold HT at h ⊢
 split at h
 ·split at h
  ·rename_i ho
   replace h:=AI h;obtain ⟨h1,h⟩:=h
   replace h:=AI h;obtain ⟨h2,h⟩:=h
   simp only [hH.box ho,h1,h2,AF]
   exact Ah hk hk' h
  ·cases h
 ·replace h:=AI h;obtain ⟨h1,h⟩:=h
  replace h:=AI h;obtain ⟨h2,h⟩:=h
  replace h:=AI h;obtain ⟨h3,h⟩:=h
  simp only [h1,h2,h3,AF]
  exact Ah hk hk' h
 ·split at h
  ·rename_i ho
   replace h:=AI h;obtain ⟨h1,h⟩:=h
   replace h:=AI h;obtain ⟨h2,h⟩:=h
   replace h:=AI h;obtain ⟨h3,h⟩:=h
   replace h:=AI h;obtain ⟨h4,h⟩:=h
   replace h:=AI h;obtain ⟨h5,h⟩:=h
   replace h:=AI h;obtain ⟨h6,h⟩:=h
   simp only [hH.arr ho,h1,h2,h3,h4,h5,h6,AF]
   exact Ah hk hk' h
  ·cases h
 ·cases h
theorem Ni (hH:IH st.heap st'.heap) (hk:st.heap[k]?=some .free) (hk':st'.heap[k]?=some .free) (t:TypeId) (x ix:U):K8 k st st' fun st=>DU ty t x ix st BS:=by
 intro v st1 h
 simp only at h ⊢
 unfold DU at h ⊢
 split at h
 ·rename_i hti
  split at h
  ·split at h
   ·rename_i hte
    replace h:=AI h;obtain ⟨h1,h⟩:=h
    replace h:=AI h;obtain ⟨h2,h⟩:=h
    replace h:=AI h;obtain ⟨h3,h⟩:=h
    simp only [hte,h1,h2,h3,AF]
    exact Ah hk hk' h
   ·rename_i hte
    replace h:=AI h;obtain ⟨h1,h⟩:=h
    replace h:=AI h;obtain ⟨h2,h⟩:=h
    replace h:=AI h;obtain ⟨h3,h⟩:=h
    simp only [hte,h1,h2,h3,AF]
    exact Ah hk hk' h
   ·rename_i hte
    split at h
    ·rename_i ho
     replace h:=AI h;obtain ⟨h1,h⟩:=h
     replace h:=AI h;obtain ⟨h2,h⟩:=h
     replace h:=AI h;obtain ⟨h3,h⟩:=h
     replace h:=AI h;obtain ⟨h4,h⟩:=h
     simp only [hte,hH.arr ho,h1,h2,h3,h4,AF]
     exact Ah hk hk' h
    ·cases h
   ·cases h
  ·split at h
   ·rename_i hte
    split at h
    ·rename_i ho
     replace h:=AI h;obtain ⟨h1,h⟩:=h
     replace h:=AI h;obtain ⟨h2,h⟩:=h
     simp only [hte,hH.box ho,h1,h2,AF]
     exact Ah hk hk' h
    ·cases h
   ·rename_i hte
    replace h:=AI h;obtain ⟨h1,h⟩:=h
    replace h:=AI h;obtain ⟨h2,h⟩:=h
    replace h:=AI h;obtain ⟨h3,h⟩:=h
    simp only [hte,h1,h2,h3,AF]
    exact Ah hk hk' h
   ·cases h
  ·cases h
 ·cases h
theorem Nj (hH:IH st.heap st'.heap) (hk:st.heap[k]?=some .free) (hk':st'.heap[k]?=some .free) (t:TypeId) (x:U) (f:Nat):K8 k st st' fun st=>DV ty t x f st BS:=by
 intro v st1 h
 simp only at h ⊢
 unfold DV at h ⊢
 split at h
 ·split at h
  ·split at h
   ·split at h
    ·replace h:=AI h;obtain ⟨h1,h⟩:=h
     simp only [h1,AF]
     split at h
     ·split at h
      ·rename_i ho
       simp only [hH.box ho]
       exact Ah hk hk' h
      ·cases h
     ·replace h:=AI h;obtain ⟨h2,h⟩:=h
      simp only [h2,AF]
      exact Ah hk hk' h
     ·split at h
      ·rename_i ho
       replace h:=AI h;obtain ⟨h2,h⟩:=h
       simp only [hH.arr ho,h2,AF]
       exact Ah hk hk' h
      ·cases h
     ·cases h
    ·cases h
   ·cases h
  ·cases h
 ·cases h
theorem Ti (hk:st.heap[k]?=some .free) (hk':st'.heap[k]?=some .free) (t:TypeId) (x:U) (f:Nat):K8 k st st' fun st=>Ht ty t x f st BS:=by
 intro v st1 h
 simp only at h ⊢
 unfold Ht at h ⊢
 split at h
 ·split at h
  ·split at h
   ·split at h
    ·replace h:=AI h;obtain ⟨h1,h⟩:=h
     simp only [h1,AF]
     exact Ah hk hk' h
    ·cases h
   ·cases h
  ·cases h
 ·cases h
theorem Th (hk:st.heap[k]?=some .free) (hk':st'.heap[k]?=some .free) (t:TypeId) (x ix:U):K8 k st st' fun st=>Hs ty t x ix st BS:=by
 intro v st1 h
 simp only at h ⊢
 unfold Hs at h ⊢
 split at h
 ·split at h
  ·replace h:=AI h;obtain ⟨h1,h⟩:=h
   replace h:=AI h;obtain ⟨h2,h⟩:=h
   simp only [h1,h2,AF]
   exact Ah hk hk' h
  ·cases h
 ·cases h
theorem gT (hk:st.heap[k]?=some .free) (hk':st'.heap[k]?=some .free) (op:UnOp) (x:U):K8 k st st' fun st=>XM op x st BS:=by
 intro v st1 h
 simp only at h ⊢
 unfold XM at h ⊢
 split at h
 all_goals first | exact Ah hk hk' h | cases h
theorem Tj (hk:st.heap[k]?=some .free) (hk':st'.heap[k]?=some .free) (t:TypeId) (ps:List (Nat × U)):K8 k st st' fun st=>Hu ty t ps st BS:=by
 intro v st1 h
 simp only at h ⊢
 unfold Hu at h ⊢
 split at h
 ·split at h
  ·split at h
   ·split at h
    ·exact Ah hk hk' h
    ·cases h
   ·cases h
  ·split at h
   ·split at h
    ·exact Ah hk hk' h
    ·cases h
   ·cases h
  ·cases h
 ·cases h
theorem XR (t:TypeId) (l c:U):K8 k st st' fun st=>KJ ty (some k) t l c st BS:=by
 intro v st1 h
 simp only at h ⊢
 unfold KJ at h ⊢
 split at h
 ·split at h
  ·split at h
   ·split at h
    ·replace h:=AI h;obtain ⟨h1,h⟩:=h
     replace h:=AI h;obtain ⟨h2,h⟩:=h
     replace h:=AI h;obtain ⟨h3,h⟩:=h
     replace h:=AI h;obtain ⟨h4,h⟩:=h
     simp only [h1,h2,h3,h4,AF]
     cases h
     exact ⟨_,rfl,rfl⟩
    ·cases h
   ·cases h
  ·cases h
 ·cases h
theorem Xp {H H':List HO} (hH:IH H H') {ρ:Type} {x:U} {K:Nat→(Nat→F)→Option ρ} {r:ρ} (h:KP H x K=some r):∃ n g,(∀ K':Nat→(Nat→F)→Option ρ,KP H' x K'=K' n g)∧K n g=some r:=by
 unfold KP at h
 split at h
 ·exact ⟨_,_,fun K'=>rfl,h⟩
 ·split at h
  ·rename_i ho
   replace h:=AI h;obtain ⟨h1,h⟩:=h
   exact ⟨_,_,fun K'=>by simp only [KP,hH.arr ho,h1,AF],h⟩
  ·cases h
 ·exact ⟨_,_,fun K'=>rfl,h⟩
 ·cases h
theorem QJ (hH:IH st.heap st'.heap) (hk:st.heap[k]?=some .free) (hk':st'.heap[k]?=some .free) (a b:TypeId) (x:U):K8 k st st' fun st=>Eb ty (some k) a b x st BS:=by
 intro v st1 h
 simp only at h ⊢
 unfold Eb at h ⊢
 split at h
 ·split at h
  ·exact Ah hk hk' h
  ·exact Ah hk hk' h
  ·split at h
   ·split at h
    ·replace h:=AI h;obtain ⟨h1,h⟩:=h
     replace h:=AI h;obtain ⟨h2,h⟩:=h
     simp only [h1,h2,AF]
     cases h
     exact ⟨_,rfl,rfl⟩
    ·cases h
   ·cases h
  ·split at h
   ·split at h
    ·obtain ⟨n,g,hK,h⟩:=Xp hH h
     replace h:=AI h;obtain ⟨h1,h⟩:=h
     replace h:=AI h;obtain ⟨h2,h⟩:=h
     simp only [hK,h1,h2,AF]
     exact Ah hk hk' h
    ·cases h
   ·cases h
  ·cases h
 ·cases h
theorem Tf (hH:IH st.heap st'.heap) (hk:st.heap[k]?=some .free) (hk':st'.heap[k]?=some .free) (t:TypeId) (x:U) (lo hi mx:Option U):K8 k st st' fun st=>Hq ty t x lo hi mx st BS:=by
 intro v st1 h
 simp only at h ⊢
 unfold Hq at h ⊢
 split at h
 ·cases h
 ·split at h
  ·split at h
   ·replace h:=AI h;obtain ⟨h1,h⟩:=h
    replace h:=AI h;obtain ⟨h2,h⟩:=h
    replace h:=AI h;obtain ⟨h3,h⟩:=h
    simp only [h1,h2,h3,AF]
    exact Ah hk hk' h
   ·cases h
  ·split at h
   ·replace h:=AI h;obtain ⟨h1,h⟩:=h
    replace h:=AI h;obtain ⟨h2,h⟩:=h
    replace h:=AI h;obtain ⟨h3,h⟩:=h
    replace h:=AI h;obtain ⟨h4,h⟩:=h
    simp only [h1,h2,h3,h4,AF]
    exact Ah hk hk' h
   ·replace h:=AI h;obtain ⟨h1,h⟩:=h
    replace h:=AI h;obtain ⟨h2,h⟩:=h
    replace h:=AI h;obtain ⟨h3,h⟩:=h
    simp only [h1,h2,h3,AF]
    exact Ah hk hk' h
   ·cases h
  ·split at h
   ·rename_i ho hte
    replace h:=AI h;obtain ⟨h1,h⟩:=h
    replace h:=AI h;obtain ⟨h2,h⟩:=h
    simp only [hH.arr ho,hte,h1,h2,AF]
    split at h
    ·replace h:=AI h;obtain ⟨h3,h⟩:=h
     replace h:=AI h;obtain ⟨h4,h⟩:=h
     replace h:=AI h;obtain ⟨h5,h⟩:=h
     simp only [h3,h4,h5,AF]
     exact Ah hk hk' h
    ·replace h:=AI h;obtain ⟨h3,h⟩:=h
     replace h:=AI h;obtain ⟨h4,h⟩:=h
     replace h:=AI h;obtain ⟨h5,h⟩:=h
     simp only [h3,h4,h5,AF]
     exact Ah hk hk' h
    ·cases h
   ·cases h
  ·split at h
   ·replace h:=AI h;obtain ⟨h1,h⟩:=h
    replace h:=AI h;obtain ⟨h2,h⟩:=h
    simp only [h1,h2,AF]
    exact Ah hk hk' h
   ·replace h:=AI h;obtain ⟨h1,h⟩:=h
    replace h:=AI h;obtain ⟨h2,h⟩:=h
    replace h:=AI h;obtain ⟨h3,h⟩:=h
    simp only [h1,h2,h3,AF]
    exact Ah hk hk' h
   ·cases h
  ·cases h
theorem Zb (hH:IH st.heap st'.heap) (hk:st.heap[k]?=some .free) (hk':st'.heap[k]?=some .free) (op:BinOp) (t:TypeId) (x y:U):K8 k st st' fun st=>OU P op t x y st BS:=by
 intro v st1 h
 simp only at h ⊢
 unfold OU at h ⊢
 split at h
 ·split at h
  ·replace h:=AI h;obtain ⟨h1,h⟩:=h
   simp only [h1,AF]
   exact Ah hk hk' h
  ·replace h:=AI h;obtain ⟨h1,h⟩:=h
   simp only [h1,AF]
   exact Ah hk hk' h
  ·replace h:=AI h;obtain ⟨h1,h⟩:=h
   simp only [h1,AF]
   split at h
   all_goals first
    | exact Ah hk hk' h
    | (replace h:=AI h;obtain ⟨h2,h⟩:=h;simp only [h2,AF];exact Ah hk hk' h)
    | cases h
 ·split at h
  all_goals first
   | exact Ah hk hk' h
   | (replace h:=AI h;obtain ⟨h2,h⟩:=h;simp only [h2,AF];exact Ah hk hk' h)
   | cases h
 ·replace h:=AI h;obtain ⟨h1,h⟩:=h
  simp only [h1,AF]
  split at h
  all_goals first
   | exact Ah hk hk' h
   | cases h
 ·replace h:=AI h;obtain ⟨h1,h⟩:=h
  simp only [h1,AF]
  split at h
  all_goals first
   | exact Ah hk hk' h
   | cases h
 ·split at h
  ·rename_i ho
   replace h:=AI h;obtain ⟨h1,h⟩:=h
   simp only [hH.box ho,h1,AF]
   split at h
   all_goals first
    | exact Ah hk hk' h
    | cases h
  ·cases h
 ·split at h
  ·rename_i ho
   replace h:=AI h;obtain ⟨h1,h⟩:=h
   simp only [hH.box ho,h1,AF]
   split at h
   all_goals first
    | exact Ah hk hk' h
    | cases h
  ·cases h
 ·replace h:=AI h;obtain ⟨h1,h⟩:=h
  simp only [h1,AF]
  split at h
  ·split at h
   ·split at h
    all_goals first
     | exact Ah hk hk' h
     | cases h
   ·cases h
  ·cases h
theorem Tg (hk:st.heap[k]?=some .free) (hk':st'.heap[k]?=some .free) (op:BinOp) (t:TypeId) (x:U):K8 k st st' fun st=>Hr P op t x st BS:=by
 intro v st1 h
 simp only at h ⊢
 unfold Hr at h ⊢
 split at h
 ·replace h:=AI h;obtain ⟨h1,h⟩:=h
  replace h:=AI h;obtain ⟨h2,h⟩:=h
  simp only [h1,h2,AF]
  split at h
  all_goals first
   | exact Ah hk hk' h
   | cases h
 ·cases h
theorem Zh {H H':List HO} (hH:IH H H') {x:U} {p:Nat × (Nat→F)} (h:Il H x=some p):Il H' x=some p:=by
 unfold Il at h ⊢
 split at h
 ·exact h
 ·exact h
 ·split at h
  ·rename_i ho
   simp only [hH.arr ho]
   exact h
  ·cases h
 ·exact h
 ·cases h
theorem RH {H H':List HO} (hH:IH H H') {te tj:TI} {x:U} {p:Nat × (Nat→F)} (h:DP te tj H x=some p):DP te tj H' x=some p:=by
 unfold DP at h ⊢
 split at h
 ·exact h
 ·cases h
 ·exact Zh hH h
theorem RD (hH:IH st.heap st'.heap) (hk:st.heap[k]?=some .free) (hk':st'.heap[k]?=some .free) (ts tx:TypeId) (s x:U):K8 k st st' fun st=>Gc ty (some k) ts tx s x st BS:=by
 intro v st1 h
 simp only at h ⊢
 unfold Gc at h ⊢
 split at h
 ·split at h
  ·split at h
   ·obtain ⟨m,g',he,h⟩:=KZ h
    ·simp only [Tu (RH hH he)]
     replace h:=AI h;obtain ⟨h1,h⟩:=h
     replace h:=AI h;obtain ⟨h2,h⟩:=h
     simp only [h1,h2,AF]
     split at h
     ·
      cases hm:decide (m=0) with
      | true =>
       rw [hm,AF] at h
       simp only [AF]
       exact Ah hk hk' h
      | false =>
       rw [hm,AJ] at h
       replace h:=AI h;obtain ⟨h3,h⟩:=h
       simp only [AJ,h3,AF]
       cases h
       exact ⟨_,rfl,rfl⟩
     ·replace h:=AI h;obtain ⟨h00,h⟩:=h
      simp only [h00,AF]
      cases hm:decide (m=0) with
      | true =>
       rw [hm,AF] at h
       simp only [AF]
       exact Ah hk hk' h
      | false =>
       rw [hm,AJ] at h
       replace h:=AI h;obtain ⟨h3,h⟩:=h
       simp only [AJ,h3,AF]
       cases h
       exact ⟨_,rfl,rfl⟩
     ·split at h
      ·cases h
      ·cases h
     ·cases h
   ·cases h
  ·cases h
 ·cases h
mutual
theorem jF {H H':List HO} (hH:IH H H'):∀ (u:U) (x:F),toF H u=some x→toF H' u=some x
 | .f y,x,h=>h
 | .agg us,x,h=>by
  simp only [toF] at h ⊢
  cases hx:Bb H us with
  | none=>rw [hx] at h;cases h
  | some xs=>rw [E7 hH us xs hx];rw [hx] at h;exact h
 | .tup us,x,h=>by
  simp only [toF] at h ⊢
  cases hx:Bb H us with
  | none=>rw [hx] at h;cases h
  | some xs=>rw [E7 hH us xs hx];rw [hx] at h;exact h
 | .nils,x,h=>h
 | .hs o gen off len,x,h=>by
  simp only [toF] at h ⊢
  split at h
  ·rename_i ho
   simp only [hH.arr ho]
   exact h
  ·cases h
 | .hp _ _,x,h=>by simp only [toF] at h;cases h
 | .ep _ _ _ _,x,h=>by simp only [toF] at h;cases h
 | .va _,x,h=>by simp only [toF] at h;cases h
 | .nilp,x,h=>by simp only [toF] at h;cases h
 | .fn _ _,x,h=>by simp only [toF] at h;cases h
 | .nilfn,x,h=>by simp only [toF] at h;cases h
 | .undef,x,h=>by simp only [toF] at h;cases h
 | .bad,x,h=>by simp only [toF] at h;cases h
theorem E7 {H H':List HO} (hH:IH H H'):∀ (us:List U) (xs:List F),Bb H us=some xs→Bb H' us=some xs
 | [],xs,h=>h
 | u :: us,xs,h=>by
  simp only [Bb] at h ⊢
  split at h
  ·rename_i x xs' hx hxs
   rw [jF hH u x hx,E7 hH us xs' hxs]
   exact h
  ·cases h
end
mutual
theorem toFC_eq {ρ:Type} {H:List HO}:∀ (u:U) (x:F) (K:F→Option ρ),toF H u=some x→Jh H u K=K x
 | .f y,x,K,h=>by cases h;rfl
 | .agg us,x,K,h=>by
  simp only [toF] at h
  cases hx:Bb H us with
  | none=>rw [hx] at h;cases h
  | some xs =>
   rw [hx] at h;cases h
   simp only [Jh]
   exact GS us xs _ hx
 | .tup us,x,K,h=>by
  simp only [toF] at h
  cases hx:Bb H us with
  | none=>rw [hx] at h;cases h
  | some xs =>
   rw [hx] at h;cases h
   simp only [Jh]
   exact GS us xs _ hx
 | .nils,x,K,h=>by cases h;rfl
 | .hs o gen off len,x,K,h=>by
  simp only [toF] at h
  split at h
  ·rename_i ho
   split at h
   ·rename_i hg
    cases h
    simp only [Jh,ho,decide_eq_true hg]
    rfl
   ·cases h
  ·cases h
 | .hp _ _,x,K,h=>by simp only [toF] at h;cases h
 | .ep _ _ _ _,x,K,h=>by simp only [toF] at h;cases h
 | .va _,x,K,h=>by simp only [toF] at h;cases h
 | .nilp,x,K,h=>by simp only [toF] at h;cases h
 | .fn _ _,x,K,h=>by simp only [toF] at h;cases h
 | .nilfn,x,K,h=>by simp only [toF] at h;cases h
 | .undef,x,K,h=>by simp only [toF] at h;cases h
 | .bad,x,K,h=>by simp only [toF] at h;cases h
theorem GS {ρ:Type} {H:List HO}:∀ (us:List U) (xs:List F) (K:List F→Option ρ),Bb H us=some xs→GT H us K=K xs
 | [],xs,K,h=>by cases h;rfl
 | u :: us,xs,K,h=>by
  simp only [Bb] at h
  split at h
  ·rename_i x xs' hx hxs
   cases h
   simp only [GT]
   rw [toFC_eq u x _ hx,GS us xs' _ hxs]
  ·cases h
end
theorem IZ {us:List U} (h:(As us).isEmpty=true) (H:List HO):Bh H (As us)=H:=by
 rw [List.isEmpty_iff.1 h];rfl
theorem I1 (hk:st.heap[k]?=some .free) (hk':st'.heap[k]?=some .free) (x:F) :
  ∃ ob,({ st with heap:=(Bv st.heap (some k) x).2 }:St)=⟨st.tmps,st.heap.set k ob⟩∧BS (Bv st'.heap (some k) x).1 ({ st' with heap:=(Bv st'.heap (some k) x).2 }:St)=some ((Bv st.heap (some k) x).1,(⟨st'.tmps,st'.heap.set k ob⟩:St)):=by
 have key:∀ obs:List HO,∃ ob,DJ st.heap (some k) obs=st.heap.set k ob∧DJ st'.heap (some k) obs=st'.heap.set k ob:=by
  intro obs
  match obs with
  | [ob]=>exact ⟨ob,rfl,rfl⟩
  | []=>exact ⟨.free,(Ej hk).symm,(Ej hk').symm⟩
  | _ :: _ :: _=>exact ⟨.free,(Ej hk).symm,(Ej hk').symm⟩
 have none':∃ ob,(⟨st.tmps,st.heap⟩:St)=⟨st.tmps,st.heap.set k ob⟩∧BS .bad (⟨st'.tmps,st'.heap⟩:St)=some (.bad,(⟨st'.tmps,st'.heap.set k ob⟩:St)):=⟨.free,by rw [Ej hk],by rw [Ej hk'];rfl⟩
 cases x with
 | tup es =>
  match es with
  | [e]=>obtain ⟨ob,h1,h2⟩:=key (Cx (DB [e]));exact ⟨ob,by simp only [Bv,h1],by simp only [Bv,h2,IW];rfl⟩
  | []=>obtain ⟨ob,h1,h2⟩:=key (Cx (DB []));exact ⟨ob,by simp only [Bv,h1],by simp only [Bv,h2,IW];rfl⟩
  | e1 :: e2 :: es=>obtain ⟨ob,h1,h2⟩:=key (Cx (DB (e1 :: e2 :: es)));exact ⟨ob,by simp only [Bv,h1],by simp only [Bv,h2,IW];rfl⟩
 | _=>exact none'
theorem XW (hH:IH st.heap st'.heap) (hk:st.heap[k]?=some .free) (hk':st'.heap[k]?=some .free) (f:FuncId) (us:List U):K8 k st st' fun st=>JF C (some k) f us st BS:=by
 intro v st1 h
 simp only at h ⊢
 unfold JF at h ⊢
 split at h
 ·cases h
 ·obtain ⟨xs,hxs,h⟩:=B0 _ _ h
  rw [GS us xs _ (E7 hH us xs hxs)]
  replace h:=AI h;obtain ⟨h1,h⟩:=h
  simp only [h1,AF]
  cases hs:Hz _ with
  | true =>
   rw [hs,AF] at h
   simp only [AF]
   exact Ah hk hk' h
  | false =>
   rw [hs,AJ] at h
   replace h:=AI h;obtain ⟨h2,h⟩:=h
   simp only [AJ,h2,AF]
   have h3:(As us).isEmpty=true:=by simpa using h2
   rw [IZ h3] at h
   rw [IZ h3]
   exact Ah hk hk' h
 ·replace h:=AI h;obtain ⟨h1,h⟩:=h
  simp at h1
 ·repeat' split at h
  all_goals first
   | cases h;done
   | (replace h:=AI h;obtain ⟨h1,h⟩:=h;simp at h1)
 ·split at h
  ·replace h:=AI h;obtain ⟨h1,h⟩:=h
   simp at h1
  ·cases h
 ·rename_i pre c r1 r2 he
  obtain ⟨xs,hxs,h⟩:=B0 _ _ h
  rw [GS us xs _ (E7 hH us xs hxs)]
  replace h:=AI h;obtain ⟨h1,h⟩:=h
  simp only [h1,AF]
  cases hc:c xs with
  | true =>
   rw [hc,AF] at h
   replace h:=AI h;obtain ⟨h2,h⟩:=h
   have h3:(As us).isEmpty=true:=by simpa using h2
   rw [IZ h3] at h
   rw [IZ h3]
   simp only [AF,h2]
   cases h
   exact I1 hk hk' (r1 xs)
  | false =>
   rw [hc,AJ] at h
   simp only [AJ]
   cases h
   exact I1 hk hk' (r2 xs)
 ·rename_i pre c r1 r2 he
  obtain ⟨xs,hxs,h⟩:=B0 _ _ h
  rw [GS us xs _ (E7 hH us xs hxs)]
  replace h:=AI h;obtain ⟨h1,h⟩:=h
  simp only [h1,AF]
  cases hc:c xs with
  | true =>
   rw [hc,AF] at h
   simp only [AF]
   cases h
   exact I1 hk hk' (r1 xs)
  | false =>
   rw [hc,AJ] at h
   simp only [AJ]
   cases h
   exact I1 hk hk' (r2 xs)
 ·repeat' split at h
  all_goals first
   | cases h;done
   | (replace h:=AI h;obtain ⟨h1,h⟩:=h;simp at h1)
 ·split at h
  ·split at h
   ·rename_i ho
    obtain ⟨xs,hxs,h⟩:=B0 _ _ h
    replace h:=AI h;obtain ⟨h1,h⟩:=h
    replace h:=AI h;obtain ⟨h2,h⟩:=h
    simp only [hH.arr ho]
    rw [GS _ xs _ hxs]
    simp only [h1,h2,AF]
    exact Ah hk hk' h
   ·cases h
  ·cases h
 ·repeat' split at h
  all_goals first
   | cases h;done
   | (replace h:=AI h;obtain ⟨h1,h⟩:=h;simp at h1)
theorem Ms (hH:IH st.heap st'.heap) (t:TypeId) (n:Nat) (ps:List (Nat × U)):K8 k st st' fun st=>C5 ty (some k) t n ps st BS:=by
 intro v st1 h
 simp only at h ⊢
 unfold C5 at h ⊢
 split at h
 ·split at h
  ·split at h
   ·split at h
    ·rename_i us hus
     obtain ⟨xs,hxs,h⟩:=B0 _ _ h
     rw [GS us xs _ (E7 hH us xs hxs)]
     replace h:=AI h;obtain ⟨h1,h⟩:=h
     have h3:(As us).isEmpty=true:=by
      simp only [Bool.and_eq_true] at h1
      simpa using h1.2
     simp only [IZ h3] at h ⊢
     simp only [h1,AF]
     cases h
     exact ⟨_,rfl,rfl⟩
    ·cases h
   ·cases h
  ·cases h
 ·cases h
end
end
noncomputable section
section
variable {P:Program} {ty:TypeId→Option TI} {C:Env} {st st' st1:St} {u:U} {k:Nat}
theorem gU (hH:IH st.heap st'.heap) (hk:st.heap[k]?=some .free) (hk':st'.heap[k]?=some .free) (o:Oper) (he:∀ x ∈ o.op.operands,st.ev x=st'.ev x):K8 k st st' fun st=>Cs P ty C (some k) o st BS:=by
 intro v st1 h
 obtain ⟨dst,op,type,pos,after,guard⟩:=o
 simp only at h he ⊢
 cases op with
 | move x =>
  have e:=he x (by simp [Op.operands])
  simp only [Cs] at h ⊢
  rw [e] at h
  exact Ah hk hk' h
 | assign x =>
  have e:=he x (by simp [Op.operands])
  simp only [Cs] at h ⊢
  rw [e] at h
  exact Ah hk hk' h
 | binOp op t x y n =>
  have e1:=he x (by simp [Op.operands])
  have e2:=he y (by simp [Op.operands])
  simp only [Cs] at h ⊢
  rw [e1,e2] at h
  split at h
  ·exact Tg hk hk' _ _ _ _ _ h
  ·exact Zb hH hk hk' _ _ _ _ _ _ h
 | unOp op t x =>
  have e:=he x (by simp [Op.operands])
  simp only [Cs] at h ⊢
  rw [e] at h
  exact gT hk hk' _ _ _ _ h
 | pick c x y =>
  have e1:=he c (by simp [Op.operands])
  have e2:=he x (by simp [Op.operands])
  have e3:=he y (by simp [Op.operands])
  simp only [Cs] at h ⊢
  rw [e1,e2,e3] at h
  split at h
  ·rename_i t ht
   cases t with
   | true=>exact Ah hk hk' h
   | false=>exact Ah hk hk' h
  ·cases h
 | alloc e =>
  simp only [Cs] at h ⊢
  split at h
  ·cases h;exact ⟨_,rfl,rfl⟩
  ·cases h
 | box t x =>
  have e:=he x (by simp [Op.operands])
  simp only [Cs] at h ⊢
  rw [e] at h
  split at h
  ·cases h
  ·cases h
  ·cases h
  ·cases h
  ·cases h;exact ⟨_,rfl,by rfl⟩
 | load t x =>
  have e:=he x (by simp [Op.operands])
  simp only [Cs] at h ⊢
  rw [e] at h
  split at h
  ·exact XS hH hk hk' _ _ _ _ h
  ·cases h
 | store t x y =>
  simp only [Cs] at h
  split at h
  ·cases h
  ·cases h
 | convert a b x =>
  have e:=he x (by simp [Op.operands])
  simp only [Cs] at h ⊢
  rw [e] at h
  exact QJ hH hk hk' _ _ _ _ _ h
 | makeSlice t x y =>
  have e1:=he x (by simp [Op.operands])
  have e2:=he y (by simp [Op.operands])
  simp only [Cs] at h ⊢
  rw [e1,e2] at h
  exact XR _ _ _ _ _ h
 | fieldAddr t x f =>
  have e:=he x (by simp [Op.operands])
  simp only [Cs] at h ⊢
  rw [e] at h
  exact Nj hH hk hk' _ _ _ _ _ h
 | field t x f =>
  have e:=he x (by simp [Op.operands])
  simp only [Cs] at h ⊢
  rw [e] at h
  exact Ti hk hk' _ _ _ _ _ h
 | indexAddr t x y =>
  have e1:=he x (by simp [Op.operands])
  have e2:=he y (by simp [Op.operands])
  simp only [Cs] at h ⊢
  rw [e1,e2] at h
  exact Ni hH hk hk' _ _ _ _ _ h
 | index t x y =>
  have e1:=he x (by simp [Op.operands])
  have e2:=he y (by simp [Op.operands])
  simp only [Cs] at h ⊢
  rw [e1,e2] at h
  exact Th hk hk' _ _ _ _ _ h
 | build t ps =>
  have e:(ps.toList.map fun p=>(p.1,st.ev p.2))=ps.toList.map fun p=>(p.1,st'.ev p.2) :=
   List.map_congr_left fun p hp=>by rw [he p.2 (by simp only [Op.operands];simpa using ⟨p.1,by simpa using hp⟩)]
  simp only [Cs] at h ⊢
  rw [e] at h
  exact Tj hk hk' _ _ _ _ h
 | buildSlice t n ps =>
  have e:(ps.toList.map fun p=>(p.1,st.ev p.2))=ps.toList.map fun p=>(p.1,st'.ev p.2) :=
   List.map_congr_left fun p hp=>by rw [he p.2 (by simp only [Op.operands];simpa using ⟨p.1,by simpa using hp⟩)]
  simp only [Cs] at h ⊢
  rw [e] at h
  exact Ms hH _ _ _ _ _ h
 | nilCheck x =>
  have e:=he x (by simp [Op.operands])
  simp only [Cs] at h ⊢
  rw [e] at h
  split at h
  ·split at h
   ·rename_i ho
    simp only [hH.box ho]
    exact Ah hk hk' h
   ·cases h
  ·split at h
   ·rename_i ho
    replace h:=AI h;obtain ⟨h1,h⟩:=h
    simp only [hH.arr ho,h1,AF]
    exact Ah hk hk' h
   ·cases h
  ·exact Ah hk hk' h
  ·exact Ah hk hk' h
  ·cases h
 | makeFunc f first captured =>
  cases f with
  | func f =>
   have e:captured.toList.map st.ev=captured.toList.map st'.ev:=List.map_congr_left fun x hx=>he x (by simp only [Op.operands];simp at hx ⊢;exact .inr hx)
   simp only [Cs] at h ⊢
   rw [e] at h
   replace h:=AI h;obtain ⟨h1,h⟩:=h
   simp only [h1,AF]
   exact Ah hk hk' h
  | _=>simp only [Cs] at h;cases h
 | slice t x lo hi mx =>
  have e:=he x (by simp [Op.operands])
  have e1:lo.map st.ev=lo.map st'.ev:=by cases lo with
   | none=>rfl
   | some y=>exact congrArg some (he y (by simp [Op.operands]))
  have e2:hi.map st.ev=hi.map st'.ev:=by cases hi with
   | none=>rfl
   | some y=>exact congrArg some (he y (by simp [Op.operands]))
  have e3:mx.map st.ev=mx.map st'.ev:=by cases mx with
   | none=>rfl
   | some y=>exact congrArg some (he y (by simp [Op.operands]))
  simp only [Cs] at h ⊢
  rw [e,e1,e2,e3] at h
  exact Tf hH hk hk' _ _ _ _ _ _ _ h
 | extract x i =>
  have e:=he x (by simp [Op.operands])
  simp only [Cs] at h ⊢
  rw [e] at h
  split at h
  ·split at h
   ·rename_i hu
    try simp only [hu]
    exact Ah hk hk' h
   ·cases h
  ·split at h
   ·rename_i hu
    try simp only [hu]
    exact Ah hk hk' h
   ·cases h
  ·cases h
 | call c =>
  have e:c.args.toList.map st.ev=c.args.toList.map st'.ev:=List.map_congr_left fun x hx=>he x (by simp only [Op.operands,Call.operands];simp at hx ⊢;exact .inr hx)
  simp only [Cs] at h ⊢
  rw [e] at h
  split at h
  ·rename_i hc ha ht
   try simp only [hc,ha,ht]
   split at h
   ·rename_i hti
    try simp only [hti]
    split at h
    ·rename_i h1
     try simp only [h1]
     exact Ah hk hk' h
    ·rename_i h1
     try simp only [h1]
     exact Ah hk hk' h
    ·rename_i h1
     try simp only [h1]
     exact Ah hk hk' h
    ·rename_i h1
     try simp only [h1]
     split at h
     ·rename_i ho
      replace h:=AI h;obtain ⟨h2,h⟩:=h
      simp only [hH.arr ho,h2,AF]
      exact Ah hk hk' h
     ·cases h
    ·rename_i h1
     try simp only [h1]
     exact Ah hk hk' h
    ·cases h
   ·cases h
  ·rename_i hc ha ht
   try simp only [hc,ha,ht]
   exact RD hH hk hk' _ _ _ _ _ _ h
  ·rename_i hc ha
   try simp only [hc,ha]
   split at h
   ·rename_i hm
    try simp only [hm]
    exact Ah hk hk' h
   ·cases h
  ·rename_i hc ha
   try simp only [hc,ha]
   split at h
   ·rename_i hm
    try simp only [hm]
    exact Ah hk hk' h
   ·cases h
  ·rename_i f hc
   have ef:=he f (by simp only [Op.operands,Call.operands,hc];simp)
   try simp only [hc]
   rw [ef] at h
   split at h
   ·rename_i hf
    try simp only [hf]
    exact XW hH hk hk' _ _ _ _ h
   ·cases h
  ·cases h
 | _=>simp only [Cs] at h;cases h
end
end
noncomputable section
def FEq (H H':List HO):Prop:=∀ (o:Nat) (ob:HO),ob ≠ .free→(H[o]?=some ob ↔ H'[o]?=some ob)
section
variable {w:World} {Z:Nat→Prop} {m:Nat→Nat} {H H':List HO}
theorem FEq.known (h:FEq H H') {o:Nat}:known H o→known H' o:=fun ⟨ob,h1,h2⟩=>⟨ob,(h o ob h2).1 h1,h2⟩
theorem FEq.live (h:FEq H H') {o:Nat}:Aw H' o→Aw H o:=fun ⟨ob,h1,h2⟩=>⟨ob,(h o ob (by rintro rfl;cases h2)).2 h1,h2⟩
theorem FEq.arr (h:FEq H H') {o sz n:Nat} {g:Nat→F} (e:H'[o]?=some (.arr sz n g)):H[o]?=some (.arr sz n g):=(h o _ (by intro h;cases h)).2 e
theorem FEq.box (h:FEq H H') {o:Nat} {cs:List U} (e:H'[o]?=some (.box cs)):H[o]?=some (.box cs):=(h o _ (by intro h;cases h)).2 e
theorem RepU.feq (hF:FEq H H') {u:U} {v:Value} (h:RepU w Z m H u v):RepU w Z m H' u v:=by
 induction h with
 | f x v h=>exact .f x v h
 | agg cs vs hl hr ih=>exact .agg cs vs hl ih
 | tup cs vs hl hr ih=>exact .tup cs vs hl ih
 | fn f us vs hl hr ih=>exact .fn f us vs hl ih
 | hs o gen off len v h1 ho hg hv=>exact .hs o gen off len v h1 (hF.known ho) (fun sz n g e=>hg _ _ _ (hF.arr e)) (fun sz n g e eg=>hv _ _ _ (hF.arr e) eg)
 | hp o off v h1 ho hv=>exact .hp o off v h1 (hF.known ho) (fun cs e=>hv _ (hF.box e))
 | ep o gen i off v h1 ho hg hv=>exact .ep o gen i off v h1 (hF.known ho) (fun sz n g e=>hg _ _ _ (hF.arr e)) (fun sz n g e eg=>hv _ _ _ (hF.arr e) eg)
 | va cs ad hZ V hV hr=>exact .va cs ad hZ V hV hr
 | nilp=>exact .nilp
 | nils A=>exact .nils A
 | nilfn=>exact .nilfn
 | undef=>exact .undef
 | bad v=>exact .bad v
theorem HOK.feq (hF:FEq H H') (hH:HOK w Z m H):HOK w Z m H':=by
 refine ⟨hH.zlt,fun o ho=>hH.apart o (hF.live ho),fun o o' h h'=>hH.inj o o' (hF.live h) (hF.live h'),fun o ob ho=>?_⟩
 cases ob with
 | dead=>trivial
 | free=>trivial
 | arr sz n g=>exact hH.ob o _ (hF.arr ho)
 | box cs =>
  obtain ⟨c,el,fr,h1,h2,h3,h4⟩:=hH.ob o _ (hF.box ho)
  refine ⟨c,el,fr,h1,h2,h3,fun j u hu=>?_⟩
  obtain ⟨v,hv,hr⟩:=h4 j u hu
  exact ⟨v,hv,hr.feq hF⟩
theorem Ext.feq {w0:World} {Z0:Nat→Prop} {m0:Nat→Nat} {H0:List HO} (hE:Ext w0 Z0 m0 H0 w Z m H) (hF:FEq H H') (hl:H0.length≤H'.length):Ext w0 Z0 m0 H0 w Z m H':=by
 refine ⟨hE.os,hE.tape,hE.output,hE.size,hE.sub,hE.back,hE.kept,hE.rest,hl,fun o ob ob' h h'=>?_,fun o ho=>hE.new o (hF.live ho),hE.drawn⟩
 have hlt:=(List.getElem?_eq_some_iff.1 h).1
 have hlt':o<H.length:=Nat.lt_of_lt_of_le hlt hE.len
 have hev:=hE.evol o ob _ h (List.getElem?_eq_getElem hlt')
 by_cases hfr:H[o]=.free
 ·rw [hfr] at hev
  cases ob <;> simp_all [Bu]
 ·have:=(hF o H[o] hfr).1 (List.getElem?_eq_getElem hlt')
  rw [h'] at this
  cases this
  exact hev
theorem AOK.feq {T:List U} {a:Act} (hF:FEq H H') (hA:AOK w Z m ⟨T,H⟩ a):AOK w Z m ⟨T,H'⟩ a :=
 ⟨hA.len,fun i u v hu hv=>(hA.rep i u v hu hv).feq hF,hA.hok.feq hF⟩
theorem FEq.app (X:List HO) (hX:∀ ob ∈ X,ob=.free):FEq H (H++X):=by
 intro o ob hob
 by_cases ho:o<H.length
 ·rw [List.getElem?_append_left ho]
 ·have ho:=Nat.le_of_not_lt ho
  rw [List.getElem?_append_right ho,List.getElem?_eq_none ho]
  constructor
  ·intro h;cases h
  ·intro h;exact absurd (hX _ (List.mem_of_getElem? h)) hob
theorem FEq.symm (h:FEq H H'):FEq H' H:=fun o ob hob=>(h o ob hob).symm
theorem No (w:World) (Z:Nat→Prop) (m:Nat→Nat) (H:List HO) (k:Nat) (hk:w.drawn≤k):Ext w Z m H { w with drawn:=k } Z m H :=
 ⟨rfl,rfl,rfl,Nat.le_refl _,fun _ h=>h,fun _ h=>.inl h,fun _ _=>rfl,fun _ _ _=>rfl,Nat.le_refl _,
  fun o ob ob' h h'=>by rw [h] at h';cases h';exact Bu.refl _ _ _,fun o h=>.inl ⟨h,rfl⟩,hk⟩
theorem iG (hH:HOK w Z m H) (k:Nat) (hk:w.drawn≤k):HOK { w with drawn:=k } Z m H:=by
 refine ⟨hH.zlt,hH.apart,hH.inj,fun o ob ho=>?_⟩
 have:=hH.ob o ob ho
 have hE:=No w Z m H k hk
 cases ob with
 | dead=>trivial
 | free=>trivial
 | arr sz n g =>
  obtain ⟨h0,c,el,fr,h1,h2,h3,h4,h5⟩:=this
  exact ⟨h0,c,el,fr,h1,h2,h3,h4,fun i j u hi hu=>⟨(h5 i j u hi hu).1,let ⟨v,hv,hr⟩:=(h5 i j u hi hu).2;⟨v,hv,hr.mono hE.sub hE.kept⟩⟩⟩
 | box cs =>
  obtain ⟨c,el,fr,h1,h2,h3,h4⟩:=this
  exact ⟨c,el,fr,h1,h2,h3,fun j u hu=>let ⟨v,hv,hr⟩:=h4 j u hu;⟨v,hv,hr.mono hE⟩⟩
theorem iH {st:St} {a:Act} (hA:AOK w Z m st a) (k:Nat) (hk:w.drawn≤k):AOK { w with drawn:=k } Z m st a :=
 ⟨hA.len,fun i u v hu hv=>(hA.rep i u v hu hv).mono (No w Z m st.heap k hk),iG hA.hok k hk⟩
end
def upd {α:Type} (f:Nat→α) (i:Nat) (x:α):Nat→α:=fun j=>if j=i then x else f j
theorem HF {α:Type} (f:Nat→α) (i:Nat) (x:α):upd f i x i=x:=if_pos rfl
theorem Hx {α:Type} (f:Nat→α) {i j:Nat} (x:α) (h:j ≠ i):upd f i x j=f j:=if_neg h
def tL (ops:Array Oper) (R:Nat→U) (L:Nat→Bool):Nat→List U→List U
 | 0,T=>T
 | k+1,T=>if L k then I0 (tL ops R L k T) ((ops[k]?).bind (·.dst)) (R k) else tL ops R L k T
section
variable {ops:Array Oper} {R R':Nat→U} {O O':Nat→HO} {L L':Nat→Bool} {T:List U}
theorem WO (t:List U) (d:Option Tmp) (u:U):(I0 t d u).length=t.length:=by cases d <;> simp [I0]
theorem Pf (t:List U) (d:Option Tmp) (u:U) (x:Nat) (h:d ≠ some x):(I0 t d u)[x]?=t[x]?:=by
 cases d with
 | none=>rfl
 | some d=>simp only [I0];rw [List.getElem?_set_ne (fun e=>h (by rw [e]))]
theorem LD (t:List U) (u:U) (x:Nat) (h:x<t.length):(I0 t (some x) u)[x]?=some u:=by simp [I0,h]
theorem Jt:∀ k,(tL ops R L k T).length=T.length
 | 0=>rfl
 | k+1=>by simp only [tL];split <;> simp [WO,Jt k]
theorem IK:∀ k,(∀ j,j<k→L j=L' j)→(∀ j,j<k→L j=true→R j=R' j)→tL ops R L k T=tL ops R' L' k T
 | 0,_,_=>rfl
 | k+1,h1,h2=>by
  simp only [tL]
  rw [IK k (fun j hj=>h1 j (by omega)) (fun j hj=>h2 j (by omega)),← h1 k (by omega)]
  split
  ·rename_i hL;rw [h2 k (by omega) hL]
  ·rfl
theorem Eh {t:Nat}:∀ k,(∀ j,j<k→L j=true→(ops[j]?).bind (·.dst) ≠ some t)→(tL ops R L k T)[t]?=T[t]?
 | 0,_=>rfl
 | k+1,h=>by
  simp only [tL]
  split
  ·rename_i hL
   rw [Pf _ _ _ _ (h k (by omega) hL)]
   exact Eh k fun j hj=>h j (by omega)
  ·exact Eh k fun j hj=>h j (by omega)
def Qz (ops:Array Oper):Prop:=∀ (i j:Nat) (t:Tmp),i ≠ j→(ops[i]?).bind (·.dst)=some t→(ops[j]?).bind (·.dst)=some t→False
theorem Iu (hd:Qz ops) {t j:Nat} (ht:t<T.length) (hj:(ops[j]?).bind (·.dst)=some t) (hL:L j=true):∀ k,j<k→(tL ops R L k T)[t]?=some (R j)
 | 0,h=>by omega
 | k+1,h=>by
  simp only [tL]
  by_cases hk:j=k
  ·subst hk
   rw [if_pos hL,hj]
   exact LD _ _ _ (by rw [Jt];exact ht)
  ·split
   ·rw [Pf _ _ _ _ fun e=>hd j k t hk hj e]
    exact Iu hd ht hj hL k (by omega)
   ·exact Iu hd ht hj hL k (by omega)
theorem eX (hd:Qz ops) {i n:Nat} (hi:i<n) (hL:L i=false) (hL':∀ j,L' j=(decide (j=i) || L j)) :
  tL ops R L' n T=I0 (tL ops R L n T) ((ops[i]?).bind (·.dst)) (R i):=by
 apply List.ext_getElem?
 intro t
 by_cases ht:t<T.length
 ·by_cases hx:(ops[i]?).bind (·.dst)=some t
  ·rw [Iu hd ht hx (by simp [hL']) n hi,hx,LD _ _ _ (by rw [Jt];exact ht)]
  ·rw [Pf _ _ _ _ hx]
   by_cases hy:∃ j,j<n∧L j=true∧(ops[j]?).bind (·.dst)=some t
   ·obtain ⟨j,hj,hLj,hdj⟩:=hy
    rw [Iu hd ht hdj (by simp [hL',hLj]) n hj,Iu hd ht hdj hLj n hj]
   ·rw [Eh n,Eh n]
    ·exact fun j hj hLj e=>hy ⟨j,hj,hLj,e⟩
    ·intro j hj hLj e
     rw [hL'] at hLj
     by_cases hji:j=i
     ·subst hji;exact hx e
     ·simp [hji] at hLj;exact hy ⟨j,hj,hLj,e⟩
 ·rw [List.getElem?_eq_none (by rw [Jt];omega),List.getElem?_eq_none (by rw [WO,Jt];omega)]
end
structure Plan (ops:Array Oper) (A:List Nat):Prop where
 dep:∀ (i:Nat) (o:Oper),ops[i]?=some o→∀ e ∈ o.after,Region.binds .any e=true→e.on<i
 anc:∀ (i:Nat) (o:Oper) (j:Nat),ops[i]?=some o→j<ops.size→(A.getD i 0).testBit j=true→∃ e ∈ o.after,Region.binds .any e=true∧(e.on=j ∨ (A.getD e.on 0).testBit j=true)
 read:∀ (i:Nat) (o:Oper) (t:Tmp) (j:Nat),ops[i]?=some o→.tmp t ∈ o.op.operands→(ops[j]?).bind (·.dst)=some t→(A.getD i 0).testBit j=true ∨ (A.getD j 0).testBit i=true
 guard:∀ (i:Nat) (o:Oper) (g:Nat) (b:Bool),ops[i]?=some o→o.guard=some (g,b)→(A.getD i 0).testBit g=true∧g<ops.size
 dist:Qz ops
theorem Plan.of {ops:Array Oper} {A:List Nat} (h:To ops A=true):Plan ops A:=by
 unfold To at h
 rw [List.all_eq_true] at h
 have key:∀ (i:Nat) (o:Oper),ops[i]?=some o→JG ops A i o=true:=fun i o ho=>by
  have hi:=(Array.getElem?_eq_some_iff.1 ho).1
  have:=h i (List.mem_range.2 hi)
  rwa [ho] at this
 have bind_lt:∀ {j t},(ops[j]?).bind (·.dst)=some t→j<ops.size:=fun {j t} hb=>by
  cases ho:ops[j]? with
  | none=>rw [ho] at hb;cases hb
  | some o=>exact (Array.getElem?_eq_some_iff.1 ho).1
 refine ⟨fun i o ho e he hb=>?_,fun i o j ho hj hA=>?_,fun i o t j ho ht hd=>?_,fun i o g b ho hg=>?_,fun i j t hij hi hj=>?_⟩
 ·have:=key i o ho
  simp only [JG,Bool.and_eq_true] at this
  have:=Array.all_eq_true'.1 this.1.1.1.1 e he
  simpa [hb] using this
 ·have:=key i o ho
  simp only [JG,Bool.and_eq_true] at this
  have:=List.all_eq_true.1 this.1.1.1.2 j (List.mem_range.2 hj)
  rw [hA] at this
  simp only [Bool.not_true,Bool.false_or] at this
  obtain ⟨e,he,h1⟩:=Array.any_eq_true'.1 this
  simp only [Bool.and_eq_true,Bool.or_eq_true,beq_iff_eq] at h1
  exact ⟨e,he,h1⟩
 ·have:=key i o ho
  simp only [JG,Bool.and_eq_true] at this
  have:=Array.all_eq_true'.1 this.1.1.2 _ ht
  have:=List.all_eq_true.1 this j (List.mem_range.2 (bind_lt hd))
  rw [hd] at this
  simpa using this
 ·have:=key i o ho
  simp only [JG,Bool.and_eq_true] at this
  have:=this.1.2
  rw [hg] at this
  simpa using this
 ·cases ho:ops[i]? with
  | none=>rw [ho] at hi;cases hi
  | some o =>
   have:=key i o ho
   simp only [JG,Bool.and_eq_true] at this
   have:=this.2
   rw [ho] at hi
   simp only [Option.bind_some] at hi
   rw [hi] at this
   have:=List.all_eq_true.1 this j (List.mem_range.2 (bind_lt hj))
   rw [hj] at this
   simp at this
   exact hij this.symm
theorem Plan.anc_lt {ops:Array Oper} {A:List Nat} (hP:Plan ops A) {j:Nat} (hj:j<ops.size):∀ i,i<ops.size→(A.getD i 0).testBit j=true→j<i:=by
 intro i
 induction i using Nat.strongRecOn with
 | ind i ih =>
  intro hi hA
  obtain ⟨e,he,hb,h⟩:=hP.anc i _ j (Array.getElem?_eq_getElem hi) hj hA
  have hlt:=hP.dep i _ (Array.getElem?_eq_getElem hi) e he hb
  rcases h with h | h
  ·omega
  ·have:=ih e.on hlt (by omega) h
   omega
def Want (ops:Array Oper) (T:List U) (R:Nat→U) (o:Oper):Prop :=
 o.guard=none ∨ ∃ g b d,o.guard=some (g,b)∧(ops[g]?).bind (·.dst)=some d∧d<T.length∧R g=.f (.bool b)
def rW (ops:Array Oper) (T:List U) (R:Nat→U) (o:Oper):Prop :=
 ∃ g b d,o.guard=some (g,b)∧(ops[g]?).bind (·.dst)=some d∧d<T.length∧(R g=.f (.bool !b) ∨ R g=.undef)
def Cu (L:Nat→Bool) (pl:Nat→Nat) (x:Nat):Nat→Option Nat
 | 0=>none
 | k+1=>if L k&&pl k==x then some k else Cu L pl x k
def hpL (O:Nat→HO) (L:Nat→Bool) (pl:Nat→Nat) (n:Nat) (base:List HO):List HO:=base.mapIdx fun x ob=>match Cu L pl x n with
 | some j=>O j
 | none=>ob
section
variable {L L':Nat→Bool} {pl:Nat→Nat} {x:Nat} {O O':Nat→HO} {n:Nat} {base:List HO}
theorem I8:(hpL O L pl n base).length=base.length:=by simp [hpL]
theorem Dd (x:Nat):(hpL O L pl n base)[x]?=base[x]?.map fun ob=>match Cu L pl x n with
 | some j=>O j
 | none=>ob:=by simp [hpL,List.getElem?_mapIdx]
theorem KF:∀ (k j:Nat),Cu L pl x k=some j→j<k∧L j=true∧pl j=x
 | 0,j,h=>by cases h
 | k+1,j,h=>by
  simp only [Cu] at h
  split at h
  ·rename_i hk
   simp only [Bool.and_eq_true,beq_iff_eq] at hk
   cases h
   exact ⟨by omega,hk.1,hk.2⟩
  ·obtain ⟨h1,h2,h3⟩:=KF k j h
   exact ⟨by omega,h2,h3⟩
theorem Hn:∀ k:Nat,(∀ j,j<k→L j=true→pl j ≠ x)→Cu L pl x k=none
 | 0,_=>rfl
 | k+1,h=>by
  simp only [Cu]
  split
  ·rename_i hk
   simp only [Bool.and_eq_true,beq_iff_eq] at hk
   exact absurd hk.2 (h k (by omega) hk.1)
  ·exact Hn k fun j hj=>h j (by omega)
theorem Eu:∀ k:Nat,(∀ j,j<k→pl j=x→L j=L' j)→Cu L pl x k=Cu L' pl x k
 | 0,_=>rfl
 | k+1,h=>by
  simp only [Cu]
  rw [Eu k fun j hj=>h j (by omega)]
  by_cases hx:pl k=x
  ·rw [h k (by omega) hx]
  ·simp [hx]
theorem P5 {i:Nat}:∀ k:Nat,i<k→L i=true→pl i=x→(∀ j,j<k→L j=true→pl j=x→j≤i)→Cu L pl x k=some i
 | 0,h,_,_,_=>by omega
 | k+1,h,h1,h2,h3=>by
  simp only [Cu]
  split
  ·rename_i hk
   simp only [Bool.and_eq_true,beq_iff_eq] at hk
   have:=h3 k (by omega) hk.1 hk.2
   congr 1;omega
  ·rename_i hk
   by_cases hik:i=k
   ·subst hik;simp [h1,h2] at hk
   ·exact P5 k (by omega) h1 h2 fun j hj=>h3 j (by omega)
theorem Ie (h:∀ j,j<n→L j=L' j∧(L j=true→O j=O' j)):hpL O L pl n base=hpL O' L' pl n base:=by
 apply List.ext_getElem?
 intro x
 rw [Dd,Dd]
 have e:Cu L pl x n=Cu L' pl x n:=Eu n fun j hj _=>(h j hj).1
 rw [← e]
 cases hl:Cu L pl x n with
 | none=>rfl
 | some j =>
  obtain ⟨h1,h2,_⟩:=KF n j hl
  simp only [(h j h1).2 h2]
theorem HR {junk:Nat} (hb:base[junk]?=some .free) (hj:∀ j,j<n→L j=true→pl j=junk→O j=.free):(hpL O L pl n base)[junk]?=some .free:=by
 rw [Dd,hb]
 cases hl:Cu L pl junk n with
 | none=>rfl
 | some j =>
  obtain ⟨h1,h2,h3⟩:=KF n j hl
  simp only [Option.map_some,hj j h1 h2 h3]
theorem QD {i junk:Nat} (hi:i<n) (hL':∀ j,L' j=(decide (j=i) || L j)) (ho:∀ j,j<n→L j=true→pl j=pl i→pl i ≠ junk→j≤i)
  (hb:base[junk]?=some .free) (hj:∀ j,j<n→L' j=true→pl j=junk→O j=.free) :
  hpL O L' pl n base=if pl i=junk then hpL O L pl n base else (hpL O L pl n base).set (pl i) (O i):=by
 have hLi:L' i=true:=by simp [hL']
 have hjL:∀ j,j<n→L j=true→pl j=junk→O j=.free:=fun j h1 h2 h3=>hj j h1 (by rw [hL',h2,Bool.or_true]) h3
 apply List.ext_getElem?
 intro x
 by_cases hxj:x=junk
 ·subst hxj
  rw [HR hb hj]
  split
  ·rw [HR hb hjL]
  ·rename_i hne
   rw [List.getElem?_set_ne hne,HR hb hjL]
 ·by_cases hxi:pl i=x
  ·have hne:pl i ≠ junk:=by rw [hxi];exact hxj
   rw [if_neg hne,Dd,P5 n hi hLi hxi fun j h1 h2 h3=>by
    rw [hL'] at h2
    by_cases hji:j=i
    ·omega
    ·exact ho j h1 (by simpa [hji] using h2) (by rw [h3,hxi]) hne]
   rw [hxi]
   by_cases hx:x<base.length
   ·rw [List.getElem?_eq_getElem hx,List.getElem?_set_self (by rw [I8];exact hx)];rfl
   ·rw [List.getElem?_eq_none (by omega),List.getElem?_eq_none (by rw [List.length_set,I8];omega)];rfl
  ·have e:Cu L' pl x n=Cu L pl x n:=Eu n fun j h1 h2=>by
    rw [hL']
    have:j ≠ i:=by rintro rfl;exact hxi h2
    simp [this]
   split
   ·rw [Dd,Dd,e]
   ·rw [List.getElem?_set_ne hxi,Dd,Dd,e]
end
theorem Wt (hid:List Nat) (junk:Nat):∀ (x:Nat) (l:List HO),(E5 hid junk x l).length=l.length
 | _,[]=>rfl
 | x,ob :: l=>by simp [E5,Wt hid junk (x+1) l]
theorem Py (hid:List Nat) (junk:Nat):∀ (l:List HO) (x k:Nat),(E5 hid junk x l)[k]?=l[k]?.map fun ob=>if hid.elem (x+k) && !((x+k)==junk) then .free else ob
 | [],x,k=>by simp [E5]
 | ob :: l,x,0=>by simp [E5]
 | ob :: l,x,k+1=>by
  simp only [E5,List.getElem?_cons_succ]
  rw [Py hid junk l (x+1) k,show x+1+k=x+(k+1) by omega]
structure Places (C:Env) (ops:Array Oper) (A pls:List Nat) (T:List U) (base:List HO) (junk:Nat):Prop where
 free:base[junk]?=some .free
 order:∀ (i j:Nat),i<ops.size→j<ops.size→i ≠ j→pls.getD i 0=pls.getD j 0→pls.getD i 0 ≠ junk→(A.getD i 0).testBit j=true ∨ (A.getD j 0).testBit i=true
 lt:∀ (i:Nat),i<ops.size→pls.getD i 0<base.length
 store:∀ (i:Nat) (o:Oper),ops[i]?=some o→isW C o.op=true→pls.getD i 0 ≠ junk
 alloc:∀ (i:Nat) (o:Oper),ops[i]?=some o→isW C o.op=false→base[pls.getD i 0]?=some .free∧(pls.getD i 0=junk ∨ ∀ j,j<ops.size→pls.getD j 0=pls.getD i 0→j=i ∨ (A.getD j 0).testBit i=true)
def isL (i:Nat):Nat→Bool:=fun j=>decide (j<i)
def Ny (P:Program) (ty:TypeId→Option TI) (C:Env) (ops:Array Oper) (A pls:List Nat) (junk:Nat) (T:List U) (base:List HO) (R:Nat→U) (O:Nat→HO) (i:Nat):Prop :=
 ∃ o,ops[i]?=some o ∧
  ((Want ops T R o∧(pls.getD i 0=junk→O i=.free)∧Vc C o.op (tL ops R (fun _=>true) i T) (pls.getD i 0)=true∧∃ s,Cs P ty C (Du C o.op (pls.getD i 0)) o ⟨tL ops R (fun _=>true) i T,E5 (DN A pls ops.size i) junk 0 (hpL O (isL i) (pls.getD · 0) ops.size base)⟩ BS=some (R i,s)∧s.heap[pls.getD i 0]?=some (O i)) ∨
   (rW ops T R o∧R i=.undef∧(hpL O (isL i) (pls.getD · 0) ops.size base)[pls.getD i 0]?=some (O i)))
section
variable {P:Program} {ty:TypeId→Option TI} {C:Env} {ops:Array Oper} {A pls:List Nat} {junk:Nat} {T:List U} {base:List HO} {R R':Nat→U} {O O':Nat→HO} {ρ:Type} {r:ρ}
theorem Ny.congr (hP:Plan ops A) {i:Nat} (hR:∀ j,j≤i→R j=R' j) (hO:∀ j,j≤i→O j=O' j) (h:Ny P ty C ops A pls junk T base R O i):Ny P ty C ops A pls junk T base R' O' i:=by
 obtain ⟨o,ho,h⟩:=h
 have hi:=(Array.getElem?_eq_some_iff.1 ho).1
 refine ⟨o,ho,?_⟩
 have e1:tL ops R (fun _=>true) i T=tL ops R' (fun _=>true) i T:=IK i (fun _ _=>rfl) fun j hj _=>hR j (by omega)
 have e2:hpL O (isL i) (pls.getD · 0) ops.size base=hpL O' (isL i) (pls.getD · 0) ops.size base:=Ie fun j _=>⟨rfl,fun hm=>hO j (by simp [isL] at hm;omega)⟩
 have eg:∀ g b,o.guard=some (g,b)→R g=R' g:=fun g b hg=>by
  obtain ⟨h1,h2⟩:=hP.guard i o g b ho hg
  have:=hP.anc_lt h2 i hi h1
  exact hR g (by omega)
 rcases h with ⟨h1,h2,hsa,h3⟩ | ⟨⟨g,b,d,hg,hb,hd,h1⟩,h2,h3⟩
 ·refine .inl ⟨?_,by rw [← hO i (Nat.le_refl _)];exact h2,by rw [← e1];exact hsa,by rw [← e1,← e2,← hO i (Nat.le_refl _),← hR i (Nat.le_refl _)];exact h3⟩
  rcases h1 with h1 | ⟨g,b,d,hg,hb,hd,h1⟩
  ·exact .inl h1
  ·exact .inr ⟨g,b,d,hg,hb,hd,by rw [← eg g b hg];exact h1⟩
 ·exact .inr ⟨⟨g,b,d,hg,hb,hd,by rw [← eg g b hg];exact h1⟩,by rw [← hR i (Nat.le_refl _)];exact h2,by rw [← e2,← hO i (Nat.le_refl _)];exact h3⟩
theorem Ia (hQ:Places C ops A pls T base junk):∀ (k:Nat),(∀ j,j<k→Ny P ty C ops A pls junk T base R O j)→∀ j,j<k→pls.getD j 0=junk→O j=.free:=by
 intro k hS j
 induction j using Nat.strongRecOn with
 | ind j ih =>
  intro hj hp
  obtain ⟨o,ho,⟨_,h2,_,_⟩ | ⟨_,_,h3⟩⟩:=hS j hj
  ·exact h2 hp
  ·rw [hp,HR (L:=isL j) (n:=ops.size) (O:=O) (pl:=(pls.getD · 0)) hQ.free fun l _ hl hlp=>ih l (of_decide_eq_true hl) (by have:=of_decide_eq_true hl;omega) hlp] at h3
   exact (Option.some.inj h3).symm
theorem Yr {x:Nat} {hp:List HO} {ob:Option HO} {K:List HO→Option ρ} (h:OI x junk hp ob K=some r):∃ y,ob=some y∧(x=junk→y=.free)∧K (if x=junk then hp else hp.set x y)=some r:=by
 unfold OI at h
 split at h
 ·rename_i y
  split at h
  ·rename_i hx
   split at h
   ·exact ⟨_,rfl,fun _=>rfl,by rw [if_pos hx];exact h⟩
   ·cases h
  ·rename_i hx
   exact ⟨y,rfl,fun h=>absurd h hx,by rw [if_neg hx];exact h⟩
 ·cases h
theorem bool_ne {c b:Bool} (h:¬ c=b):(!b)=c:=by cases c <;> cases b <;> simp_all
theorem getD_some {t:List U} {d:Nat} {x:U} (h:t.getD d .bad=x) (hx:x ≠ .bad):d<t.length∧t[d]?=some x:=by
 have hd:d<t.length:=by
  rcases Nat.lt_or_ge d t.length with h' | h'
  ·exact h'
  ·rw [List.getD,List.getElem?_eq_none h'] at h;exact absurd h.symm hx
 refine ⟨hd,?_⟩
 rw [List.getElem?_eq_getElem hd]
 simp only [List.getD,List.getElem?_eq_getElem hd,Option.getD_some] at h
 rw [h]
theorem Zj (hP:Plan ops A) (hQ:Places C ops A pls T base junk) {K:St→Option ρ}:∀ (k i:Nat),i+k=ops.size→∀ (R:Nat→U) (O:Nat→HO),(∀ j,j<i→Ny P ty C ops A pls junk T base R O j) →
  C4 P ty C ops A pls junk (List.range' i k) (tL ops R (fun _=>true) i T) (hpL O (isL i) (pls.getD · 0) ops.size base) K=some r →
  ∃ R O,(∀ j,j<ops.size→Ny P ty C ops A pls junk T base R O j)∧K ⟨tL ops R (fun _=>true) ops.size T,(hpL O (isL ops.size) (pls.getD · 0) ops.size base).take junk⟩=some r:=by
 intro k
 induction k with
 | zero =>
  intro i hi R O hS h
  have:i=ops.size:=by omega
  subst this
  simp only [List.range'_zero,C4] at h
  exact ⟨R,O,hS,h⟩
 | succ k ih =>
  intro i hi R O hS h
  have hlt:i<ops.size:=by omega
  have ho:ops[i]?=some ops[i]:=Array.getElem?_eq_getElem hlt
  generalize ops[i]=o at ho
  rw [List.range'_succ] at h
  simp only [C4,ho] at h
    -- one result more
  have more:∀ (u:U) (x:HO),(Ny P ty C ops A pls junk T base (upd R i u) (upd O i x) i) →
    C4 P ty C ops A pls junk (List.range' (i+1) k) (I0 (tL ops R (fun _=>true) i T) o.dst u) (if pls.getD i 0=junk then hpL O (isL i) (pls.getD · 0) ops.size base else (hpL O (isL i) (pls.getD · 0) ops.size base).set (pls.getD i 0) x) K=some r →
    ∃ R O,(∀ j,j<ops.size→Ny P ty C ops A pls junk T base R O j)∧K ⟨tL ops R (fun _=>true) ops.size T,(hpL O (isL ops.size) (pls.getD · 0) ops.size base).take junk⟩=some r:=by
   intro u x hs h
   have hS':∀ j,j<i+1→Ny P ty C ops A pls junk T base (upd R i u) (upd O i x) j:=fun j hj=>by
    by_cases hji:j=i
    ·subst hji;exact hs
    ·exact (hS j (by omega)).congr hP (fun l hl=>by rw [Hx _ _ (by omega)]) (fun l hl=>by rw [Hx _ _ (by omega)])
   refine ih (i+1) (by omega) (upd R i u) (upd O i x) hS' ?_
   have e1:tL ops (upd R i u) (fun _=>true) (i+1) T=I0 (tL ops R (fun _=>true) i T) o.dst u:=by
    simp only [tL,if_true,ho,Option.bind_some]
    rw [IK (R':=R) (L':=fun _=>true) i (fun _ _=>rfl) fun j hj _=>by rw [Hx _ _ (by omega)],HF]
   have e2:hpL (upd O i x) (isL (i+1)) (pls.getD · 0) ops.size base=if pls.getD i 0=junk then hpL O (isL i) (pls.getD · 0) ops.size base else (hpL O (isL i) (pls.getD · 0) ops.size base).set (pls.getD i 0) x:=by
    rw [QD (L:=isL i) (L':=isL (i+1)) (junk:=junk) (pl:=(pls.getD · 0)) hlt (fun j=>by simp only [isL];rw [← Bool.decide_or];exact decide_eq_decide.2 (by omega)) (fun j _ hj _ _=>Nat.le_of_lt (of_decide_eq_true hj)) hQ.free
     (fun j _ hj hjp=>Ia hQ (i+1) hS' j (of_decide_eq_true hj) hjp)]
    rw [Ie (O':=O) (L':=isL i) fun j _=>⟨rfl,fun hj=>by rw [Hx _ _ (by simp [isL] at hj;omega)]⟩,HF]
   rw [e1,e2];exact h
    -- an operation that is done
  have doit:Want ops T R o→AC (Vc C o.op (tL ops R (fun _=>true) i T) (pls.getD i 0)) (Cs P ty C (Du C o.op (pls.getD i 0)) o ⟨tL ops R (fun _=>true) i T,E5 (DN A pls ops.size i) junk 0 (hpL O (isL i) (pls.getD · 0) ops.size base)⟩ fun u st' =>
     OI (pls.getD i 0) junk (hpL O (isL i) (pls.getD · 0) ops.size base) (st'.heap[pls.getD i 0]?) fun hp=>C4 P ty C ops A pls junk (List.range' (i+1) k) (I0 (tL ops R (fun _=>true) i T) o.dst u) hp K) none=some r →
    ∃ R O,(∀ j,j<ops.size→Ny P ty C ops A pls junk T base R O j)∧K ⟨tL ops R (fun _=>true) ops.size T,(hpL O (isL ops.size) (pls.getD · 0) ops.size base).take junk⟩=some r:=by
   intro hw h
   replace h:=AI h;obtain ⟨hsa,h⟩:=h
   rw [XP] at h
   cases hp:Cs P ty C (Du C o.op (pls.getD i 0)) o ⟨tL ops R (fun _=>true) i T,E5 (DN A pls ops.size i) junk 0 (hpL O (isL i) (pls.getD · 0) ops.size base)⟩ BS with
   | none=>rw [hp] at h;cases h
   | some p =>
    obtain ⟨u,s⟩:=p
    rw [hp] at h
    simp only [Option.bind_some,unK] at h
    obtain ⟨x,hx,hfr,h⟩:=Yr h
    refine more u x ⟨o,ho,.inl ⟨?_,fun hl=>by rw [HF];exact hfr hl,?_,s,?_,by rw [HF];exact hx⟩⟩ h
    ·rcases hw with hw | ⟨g,b,d,hg,hb,hd,hw⟩
     ·exact .inl hw
     ·obtain ⟨h1,h2⟩:=hP.guard i o g b ho hg
      have:=hP.anc_lt h2 i hlt h1
      exact .inr ⟨g,b,d,hg,hb,hd,by rw [Hx _ _ (Nat.ne_of_lt this)];exact hw⟩
    ·rw [IK (R':=R) (L':=fun _=>true) i (fun _ _=>rfl) fun j hj _=>by rw [Hx _ _ (by omega)]]
     exact hsa
    ·rw [HF,IK (R':=R) (L':=fun _=>true) i (fun _ _=>rfl) fun j hj _=>by rw [Hx _ _ (by omega)],
      Ie (O':=O) (L':=isL i) fun j _=>⟨rfl,fun hm=>by rw [Hx _ _ (by simp [isL] at hm;omega)]⟩]
     exact hp
  have skip:rW ops T R o→C4 P ty C ops A pls junk (List.range' (i+1) k) (I0 (tL ops R (fun _=>true) i T) o.dst .undef) (hpL O (isL i) (pls.getD · 0) ops.size base) K=some r →
    ∃ R O,(∀ j,j<ops.size→Ny P ty C ops A pls junk T base R O j)∧K ⟨tL ops R (fun _=>true) ops.size T,(hpL O (isL ops.size) (pls.getD · 0) ops.size base).take junk⟩=some r:=by
   intro ⟨g,b,d,hg,hb,hd,hw⟩ h
   obtain ⟨h1,h2⟩:=hP.guard i o g b ho hg
   have:=hP.anc_lt h2 i hlt h1
   have hlen:pls.getD i 0<(hpL O (isL i) (pls.getD · 0) ops.size base).length:=by rw [I8];exact hQ.lt i hlt
   refine more .undef ((hpL O (isL i) (pls.getD · 0) ops.size base)[pls.getD i 0]) ⟨o,ho,.inr ⟨⟨g,b,d,hg,hb,hd,by rw [Hx _ _ (Nat.ne_of_lt this)];exact hw⟩,HF _ _ _,?_⟩⟩ ?_
   ·rw [HF,Ie (O':=O) (L':=isL i) fun j _=>⟨rfl,fun hm=>by rw [Hx _ _ (by simp [isL] at hm;omega)]⟩]
    exact List.getElem?_eq_getElem hlen
   ·have e:(if pls.getD i 0=junk then hpL O (isL i) (pls.getD · 0) ops.size base else (hpL O (isL i) (pls.getD · 0) ops.size base).set (pls.getD i 0) ((hpL O (isL i) (pls.getD · 0) ops.size base)[pls.getD i 0]))=hpL O (isL i) (pls.getD · 0) ops.size base:=by
     split
     ·rfl
     ·exact List.set_getElem_self _
    rw [e];exact h
  cases hg:o.guard with
  | none =>
   rw [hg] at h
   exact doit (.inl hg) h
  | some p =>
   obtain ⟨g,b⟩:=p
   rw [hg] at h
   simp only at h
   cases hb:(ops[g]?).bind (·.dst) with
   | none=>rw [hb] at h;cases h
   | some d =>
    rw [hb] at h
    simp only at h
    obtain ⟨h1,h2⟩:=hP.guard i o g b ho hg
    have hgi:=hP.anc_lt h2 i hlt h1
    have val:∀ x,(tL ops R (fun _=>true) i T).getD d .bad=x→x ≠ .bad→d<T.length∧R g=x:=by
     intro x hx hxb
     obtain ⟨h3,h4⟩:=getD_some hx hxb
     rw [Jt] at h3
     rw [Iu hP.dist h3 hb rfl i hgi] at h4
     exact ⟨h3,by cases h4;rfl⟩
    have same:∀ x,(tL ops R (fun _=>true) i T).getD d .bad=x→x ≠ .bad→(tL ops R (fun _=>true) i T).set d x=tL ops R (fun _=>true) i T:=by
     intro x hx hxb
     obtain ⟨h3,h4⟩:=getD_some hx hxb
     apply List.ext_getElem?
     intro t
     by_cases hdt:d=t
     ·subst hdt;rw [h4];simp [h3]
     ·rw [List.getElem?_set_ne hdt]
    split at h
    ·rename_i c hc
     obtain ⟨h3,h4⟩:=val _ hc (by intro h;cases h)
     by_cases hcb:c=b
     ·subst hcb
      simp only [beq_self_eq_true,AF] at h
      rw [same _ hc (by intro h;cases h)] at h
      exact doit (.inr ⟨g,c,d,hg,hb,h3,h4⟩) h
     ·have hf:(c==b)=false:=by simp [hcb]
      have hcn:(!b)=c:=bool_ne hcb
      rw [hf] at h
      simp only [AJ] at h
      rw [hcn,same _ hc (by intro h;cases h)] at h
      exact skip ⟨g,b,d,hg,hb,h3,.inl (by rw [hcn];exact h4)⟩ h
    ·rename_i hc
     obtain ⟨h3,h4⟩:=val _ hc (by intro h;cases h)
     exact skip ⟨g,b,d,hg,hb,h3,.inr h4⟩ h
    ·cases h
variable {w0:World} {Z0:Nat→Prop} {m0:Nat→Nat} {H0:List HO} {ds:List Deferred}
theorem Q2 {w:World} {Z:Nat→Prop} {m:Nat→Nat} {st:St} {a:Act} (hA:AOK w Z m st a) {g d:Nat} (hdst:(ops[g]?).bind (·.dst)=some d) (hc:st.tmps[d]?=some .undef):yielded ops a.tmps g=none:=by
 simp only [yielded,hdst,Option.bind_some]
 have hd:=(List.getElem?_eq_some_iff.1 hc).1
 have hd':d<a.tmps.size:=by rw [← hA.len];exact hd
 have hr:=hA.rep d _ _ hc (Array.getElem?_eq_getElem hd')
 rw [Array.getElem?_eq_getElem hd']
 generalize a.tmps[d]=q at hr
 cases hr
 rfl
theorem L7 {w:World} {Z:Nat→Prop} {m:Nat→Nat} {st:St} {a:Act} (hA:AOK w Z m st a) {g d:Nat} {b:Bool} (hdst:(ops[g]?).bind (·.dst)=some d) (hc:st.tmps[d]?=some (.f (.bool b))):yielded ops a.tmps g=some b:=by
 simp only [yielded,hdst,Option.bind_some]
 have hd:=(List.getElem?_eq_some_iff.1 hc).1
 have hd':d<a.tmps.size:=by rw [← hA.len];exact hd
 have hr:=Hb (hA.rep d _ _ hc (Array.getElem?_eq_getElem hd'))
 rw [Array.getElem?_eq_getElem hd',hr]
theorem lB {st st':St} {o:Oper} {x:Nat} (hinf:IH st.heap st'.heap) (hops:∀ y ∈ o.op.operands,st.ev y=st'.ev y) (hpt:OQ C o.op=true) (hsa:Vc C o.op st.tmps x=true)
  {u:U} {s:St} (hev:Cs P ty C none o st BS=some (u,s)) {ob:HO} (hob:s.heap[x]?=some ob):Cs P ty C none o st' BS=some (u,⟨st'.tmps,st'.heap.set x ob⟩):=by
 obtain ⟨dst,op,type,pos,after,guard⟩:=o
 simp only at hops hpt hsa
 cases op with
 | call c =>
  obtain ⟨callee,args,ats⟩:=c
  simp only [Vc,hpt] at hsa
  unfold OQ at hpt
  simp only at hpt
  split at hpt
  case h_2=>cases hpt
  rename_i f
  split at hpt
  case h_2=>cases hpt
  rename_i pre res hf
  have e:args.toList.map st.ev=args.toList.map st'.ev:=List.map_congr_left fun y hy=>hops y (by simp only [Op.operands,Call.operands];simp at hy ⊢;exact .inr hy)
  have e0:st.ev (.func f)=.fn f []:=rfl
  have e1:st'.ev (.func f)=.fn f []:=rfl
  simp only [Cs,e0,e1,JF,hf,List.append_nil] at hev ⊢
  rw [← e]
  cases ha:args.toList with
  | nil=>simp only [Md,ha] at hsa;cases hsa
  | cons a as =>
   cases a with
   | tmp t =>
    rw [ha] at hev
    simp only [Md,ha] at hsa
    split at hsa
    case h_2=>cases hsa
    rename_i b off hT
    have hbx:=Nat.eq_of_beq_eq_true hsa
    subst hbx
    have hT2:st.ev (.tmp t)=.hp b off:=hT
    simp only [List.map_cons,hT2] at hev ⊢
    split at hev
    case h_2=>cases hev
    rename_i o2 us2 hq
    cases hq
    split at hev
    case h_2=>cases hev
    rename_i cu hcu
    have hcu':=hinf.box hcu
    rw [hcu']
    split at hev
    case h_2=>cases hev
    rename_i cs xs hcs hxs
    simp only [hcs,hxs]
    replace hev:=AI hev;obtain ⟨h1,hev⟩:=hev
    rw [h1,AF]
    cases hev
    have hl:=(List.getElem?_eq_some_iff.1 hcu).1
    simp only at hob
    rw [List.getElem?_set_self hl] at hob
    cases hob
    rfl
   | _=>simp only [Md,ha] at hsa;cases hsa
 | _=>cases hpt
theorem op_more (hP:Plan ops A) (hQ:Places C ops A pls T base junk) (hS:∀ j,j<ops.size→Ny P ty C ops A pls junk T base R O j) {L:Nat→Bool} {i:Nat} {o:Oper} (ho:ops[i]?=some o) (hLi:L i=false)
  (hanc:∀ j,j<ops.size→(A.getD i 0).testBit j=true→L j=true) (hdesc:∀ j,j<ops.size→(A.getD j 0).testBit i=true→L j=false) (hsa:Vc C o.op (tL ops R (fun _=>true) i T) (pls.getD i 0)=true) {u:U} {s:St}
  (hev:Cs P ty C (Du C o.op (pls.getD i 0)) o ⟨tL ops R (fun _=>true) i T,E5 (DN A pls ops.size i) junk 0 (hpL O (isL i) (pls.getD · 0) ops.size base)⟩ BS=some (u,s)) {ob:HO} (hob:s.heap[pls.getD i 0]?=some ob) :
  De (hpL O L (pls.getD · 0) ops.size base) (Du C o.op (pls.getD i 0)) ∧
  Cs P ty C (Du C o.op (pls.getD i 0)) o ⟨tL ops R L ops.size T,hpL O L (pls.getD · 0) ops.size base⟩ BS=some (u,⟨tL ops R L ops.size T,(hpL O L (pls.getD · 0) ops.size base).set (pls.getD i 0) ob⟩):=by
 have hlt:=(Array.getElem?_eq_some_iff.1 ho).1
 have hjunk:∀ L:Nat→Bool,(hpL O L (pls.getD · 0) ops.size base)[junk]?=some .free:=fun L=>HR hQ.free fun j h1 _ h3=>Ia hQ ops.size hS j h1 h3
 have hinf:IH (E5 (DN A pls ops.size i) junk 0 (hpL O (isL i) (pls.getD · 0) ops.size base)) (hpL O L (pls.getD · 0) ops.size base):=by
  refine ⟨by rw [Wt,I8,I8],fun x ob1 h1=>?_⟩
  rw [Py] at h1
  cases hx:(hpL O (isL i) (pls.getD · 0) ops.size base)[x]? with
  | none=>rw [hx] at h1;cases h1
  | some y =>
   rw [hx,Option.map_some,Nat.zero_add] at h1
   by_cases hxj:x=junk
   ·subst hxj
    rw [hjunk] at hx
    cases hx
    have:(if ((DN A pls ops.size i).elem x && !(x==x))=true then HO.free else HO.free)=HO.free:=by split <;> rfl
    rw [this] at h1
    cases h1
    exact .inl rfl
   ·split at h1
    ·cases h1;exact .inl rfl
    ·rename_i hv
     cases h1
     right
     rw [← hx,Dd,Dd]
     have e:Cu (isL i) (pls.getD · 0) x ops.size=Cu L (pls.getD · 0) x ops.size:=Eu _ fun j h1 h2=>by
      by_cases hji:j=i
      ·subst hji;rw [hLi];simp [isL]
      ·by_cases ha:(A.getD i 0).testBit j=true
       ·rw [hanc j h1 ha];exact decide_eq_true (hP.anc_lt h1 i hlt ha)
       ·by_cases hb:(A.getD j 0).testBit i=true
        ·rw [hdesc j h1 hb];have:=hP.anc_lt hlt j h1 hb;exact decide_eq_false (by omega)
        ·exfalso
         apply hv
         have hm:(DN A pls ops.size i).elem x=true:=by
          rw [List.elem_eq_mem,decide_eq_true_eq]
          exact List.mem_filterMap.2 ⟨j,List.mem_range.2 h1,by
          have ha':(A.getD i 0).testBit j=false:=by simpa using ha
          have hb':(A.getD j 0).testBit i=false:=by simpa using hb
          have hc:(j==i)=false:=by simp [hji]
          simp only [ha',hb',hc,Bool.or_self,Bool.false_eq_true,if_false]
          exact congrArg some h2⟩
         rw [hm];simp [hxj]
     rw [e]
 have hops:∀ x ∈ o.op.operands,(St.mk (tL ops R (fun _=>true) i T) (E5 (DN A pls ops.size i) junk 0 (hpL O (isL i) (pls.getD · 0) ops.size base))).ev x=(St.mk (tL ops R L ops.size T) (hpL O L (pls.getD · 0) ops.size base)).ev x:=fun x hx=>by
  cases x with
  | tmp t =>
   simp only [St.ev]
   have:(tL ops R (fun _=>true) i T)[t]?=(tL ops R L ops.size T)[t]?:=by
    by_cases ht:t<T.length
    ·by_cases hy:∃ j:Nat,(ops[j]?).bind (·.dst)=some t
     ·obtain ⟨j,hj⟩:=hy
      have h1:=hP.read i o t j ho hx hj
      have h2:j<ops.size:=by
       cases hoj:ops[j]? with
       | none=>rw [hoj] at hj;cases hj
       | some o=>exact (Array.getElem?_eq_some_iff.1 hoj).1
      rcases h1 with h1 | h1
      ·have h3:=hP.anc_lt h2 i hlt h1
       rw [Iu hP.dist ht hj rfl i h3,Iu hP.dist ht hj (hanc j h2 h1) _ h2]
      ·have h3:=hP.anc_lt hlt j h2 h1
       have only:∀ l:Nat,(ops[l]?).bind (·.dst)=some t→l=j:=fun l e=>Classical.byContradiction fun hne=>hP.dist l j t hne e hj
       rw [Eh i fun l hl _ e=>by have:=only l e;omega,Eh _ fun l hl hLl e=>by
        have:=only l e
        subst this
        rw [hdesc l h2 h1] at hLl
        cases hLl]
     ·rw [Eh i fun j _ _ e=>hy ⟨j,e⟩,Eh _ fun j _ _ e=>hy ⟨j,e⟩]
    ·rw [List.getElem?_eq_none (by rw [Jt];exact Nat.le_of_not_lt ht),List.getElem?_eq_none (by rw [Jt];exact Nat.le_of_not_lt ht)]
   simp only [List.getD,this]
  | _=>rfl
 by_cases hw:isW C o.op=true
 ·have hslot:Du C o.op (pls.getD i 0)=none:=by simp [Du,hw]
  have hnj:=hQ.store i o ho hw
  rw [hslot] at hev ⊢
  refine ⟨fun k hk=>(by cases hk),?_⟩
  cases hpt:OQ C o.op with
  | true=>exact lB hinf hops hpt hsa hev hob
  | false =>
  have hst:O6 o.op=true:=by simpa [isW,hpt] using hw
  cases hop:o.op with
  | store t a x =>
   simp only [Vc,hpt] at hsa
   rw [hop] at hsa
   obtain ⟨tm,rfl,hT⟩:∃ tm,a=.tmp tm∧((∃ off,(tL ops R (fun _=>true) i T).getD tm .bad=.hp (pls.getD i 0) off) ∨ ∃ g k off,(tL ops R (fun _=>true) i T).getD tm .bad=.ep (pls.getD i 0) g k off):=by
    cases a with
    | tmp tm =>
     refine ⟨tm,rfl,?_⟩
     simp only at hsa
     split at hsa
     ·rename_i b off hT
      rw [Nat.eq_of_beq_eq_true hsa] at hT
      exact .inl ⟨_,hT⟩
     ·rename_i b g k off hT
      rw [Nat.eq_of_beq_eq_true hsa] at hT
      exact .inr ⟨_,_,_,hT⟩
     ·cases hsa
    | const v=>cases hsa
    | func f=>cases hsa
    | global g=>cases hsa
   have ex:=hops x (by rw [hop];simp [Op.operands])
   have ea:=hops (.tmp tm) (by rw [hop];simp [Op.operands])
   simp only [Cs,hop] at hev ⊢
   rw [← ex,← ea]
   simp only [St.ev] at hev ea ⊢
   split at hev
   ·simp only [Option.isNone_none,AF] at hev ⊢
    generalize (St.mk (tL ops R (fun _=>true) i T) (E5 (DN A pls ops.size i) junk 0 (hpL O (isL i) (pls.getD · 0) ops.size base))).ev x=v at hev
    rcases hT with ⟨off,hT⟩ | ⟨gg,kk,off,hT⟩
    ·rw [hT] at hev ⊢
     simp only [Hp] at hev ⊢
     split at hev
     ·rename_i cs hc
      replace hev:=AI hev;obtain ⟨h1,hev⟩:=hev
      replace hev:=AI hev;obtain ⟨h2,hev⟩:=hev
      replace hev:=AI hev;obtain ⟨h3,hev⟩:=hev
      rw [hinf.box hc]
      simp only [h1,h2,h3,AF,BS]
      cases hev
      have hl:=(List.getElem?_eq_some_iff.1 hc).1
      simp only at hob
      rw [List.getElem?_set_self hl] at hob
      cases hob
      rfl
     ·cases hev
    ·rw [hT] at hev ⊢
     simp only [Hp] at hev ⊢
     split at hev
     ·rename_i sz n g xs hc hxs
      replace hev:=AI hev;obtain ⟨h1,hev⟩:=hev
      replace hev:=AI hev;obtain ⟨h2,hev⟩:=hev
      replace hev:=AI hev;obtain ⟨h3,hev⟩:=hev
      replace hev:=AI hev;obtain ⟨h4,hev⟩:=hev
      replace hev:=AI hev;obtain ⟨h5,hev⟩:=hev
      replace hev:=AI hev;obtain ⟨h6,hev⟩:=hev
      rw [hinf.arr hc,hxs]
      simp only [h1,h2,h3,h4,h5,h6,AF,BS]
      cases hev
      have hl:=(List.getElem?_eq_some_iff.1 hc).1
      simp only at hob
      rw [List.getElem?_set_self hl] at hob
      cases hob
      rfl
     ·cases hev
   ·cases hev
  | _=>rw [hop] at hst;cases hst
 ·have hslot:Du C o.op (pls.getD i 0)=some (pls.getD i 0):=by simp [Du,hw]
  rw [hslot] at hev ⊢
  obtain ⟨hbf,hun⟩:=hQ.alloc i o ho (by simpa using hw)
  have free:∀ L:Nat→Bool,L i=false→(∀ j,j<ops.size→(A.getD j 0).testBit i=true→L j=false)→(hpL O L (pls.getD · 0) ops.size base)[pls.getD i 0]?=some .free:=fun L hL hLd=>by
   rcases hun with hun | hun
   ·rw [hun];exact hjunk L
   ·rw [Dd,hbf,Hn _ fun j h1 h2 h3=>by
     rcases hun j h1 h3 with h4 | h4
     ·subst h4
      rw [hL] at h2;cases h2
     ·rw [hLd j h1 h4] at h2;cases h2]
    rfl
  have hk:=free L hLi hdesc
  refine ⟨fun k hk'=>by cases hk';exact hk,?_⟩
  have hkm:(E5 (DN A pls ops.size i) junk 0 (hpL O (isL i) (pls.getD · 0) ops.size base))[pls.getD i 0]?=some .free:=by
   rw [Py,free (isL i) (by simp [isL]) fun j hj hA=>by have:=hP.anc_lt hlt j hj hA;exact decide_eq_false (by omega)]
   simp only [Option.map_some]
   split <;> rfl
  obtain ⟨ob1,hs1,hs2⟩:=gU (P:=P) (ty:=ty) (C:=C) (st:=⟨tL ops R (fun _=>true) i T,E5 (DN A pls ops.size i) junk 0 (hpL O (isL i) (pls.getD · 0) ops.size base)⟩) (st':=⟨tL ops R L ops.size T,hpL O L (pls.getD · 0) ops.size base⟩) hinf hkm hk o hops _ _ hev
  subst hs1
  have hl:=(List.getElem?_eq_some_iff.1 hkm).1
  simp only at hob
  rw [List.getElem?_set_self hl] at hob
  cases hob
  exact hs2
theorem pU (hty:Gl P ty) (hC:Ax P C) (hP:Plan ops A) (hQ:Places C ops A pls T base junk) (hS:∀ j,j<ops.size→Ny P ty C ops A pls junk T base R O j) {K:St→Option ρ}
  (hK:K ⟨tL ops R (fun _=>true) ops.size T,(hpL O (isL ops.size) (pls.getD · 0) ops.size base).take junk⟩=some r) (hbl:base.length=junk+1) (hH0:H0.length≤junk) :
  ∀ (fuel:Nat) (listed:Array Bool) (a:Act) (w:World) (Z:Nat→Prop) (m:Nat→Nat),listed.size=ops.size→(∃ l:List Nat,l.length≤fuel∧∀ i,i<ops.size→listed.getD i true=false→i ∈ l) →
   (∀ i j,i<ops.size→j<ops.size→listed.getD i false=true→(A.getD i 0).testBit j=true→listed.getD j false=true) →
   AOK w Z m ⟨tL ops R (fun j=>listed.getD j false) ops.size T,hpL O (fun j=>listed.getD j false) (pls.getD · 0) ops.size base⟩ a→a.defers=ds →
   Ext w0 Z0 m0 H0 w Z m (hpL O (fun j=>listed.getD j false) (pls.getD · 0) ops.size base) →
   wpAny P .any ops (fun e a' w'=>e=.normal∧∃ st',K st'=some r∧OA w0 Z0 m0 H0 ds st' a' w') fuel listed a w:=by
 have fin:∀ (listed:Array Bool) (a:Act) (w:World) (Z:Nat→Prop) (m:Nat→Nat),listed.size=ops.size →
   AOK w Z m ⟨tL ops R (fun j=>listed.getD j false) ops.size T,hpL O (fun j=>listed.getD j false) (pls.getD · 0) ops.size base⟩ a→a.defers=ds →
   Ext w0 Z0 m0 H0 w Z m (hpL O (fun j=>listed.getD j false) (pls.getD · 0) ops.size base)→Region.ready .any ops listed=[] →
   (Exit.normal=Exit.normal)∧∃ st',K st'=some r∧OA w0 Z0 m0 H0 ds st' a w:=by
  intro listed a w Z m hsz hA hd hE hr
  have all:∀ i,i<ops.size→listed.getD i false=true:=by
   intro i
   induction i using Nat.strongRecOn with
   | ind i ih =>
    intro hi
    rcases hb:listed.getD i false with _ | _
    ·exfalso
     have:i ∈ Region.ready .any ops listed:=by
      rw [mem_ready]
      refine ⟨?_,ops[i],Array.getElem?_eq_getElem hi,fun e he hbd=>?_⟩
      ·have:i<listed.size:=by omega
       simp [this] at hb ⊢;exact hb
      ·have:=hP.dep i _ (Array.getElem?_eq_getElem hi) e he hbd
       exact ih e.on this (by omega)
     rw [hr] at this
     cases this
    ·rfl
  have e1:tL ops R (fun j=>listed.getD j false) ops.size T=tL ops R (fun _=>true) ops.size T:=IK _ (fun j hj=>all j hj) fun _ _ _=>rfl
  have e2:hpL O (fun j=>listed.getD j false) (pls.getD · 0) ops.size base=hpL O (isL ops.size) (pls.getD · 0) ops.size base:=Ie fun j hj=>⟨by rw [all j hj];exact (decide_eq_true hj).symm,fun _=>rfl⟩
  rw [e1,e2] at hA
  rw [e2] at hE
  have hjunk:(hpL O (isL ops.size) (pls.getD · 0) ops.size base)[junk]?=some .free:=HR hQ.free fun j h1 _ h3=>Ia hQ ops.size hS j h1 h3
  have hF:FEq (hpL O (isL ops.size) (pls.getD · 0) ops.size base) ((hpL O (isL ops.size) (pls.getD · 0) ops.size base).take junk):=by
   intro x ob hob
   rw [List.getElem?_take]
   split
   ·exact Iff.rfl
   ·rename_i hx
    by_cases hxj:x=junk
    ·subst hxj
     rw [hjunk]
     constructor
     ·intro h;cases h;exact absurd rfl hob
     ·intro h;cases h
    ·rw [List.getElem?_eq_none (by rw [I8];omega)]
  exact ⟨rfl,_,hK,hd,Z,m,hA.feq hF,hE.feq hF (by rw [List.length_take,I8];omega)⟩
 intro fuel
 induction fuel with
 | zero =>
  intro listed a w Z m hsz hl hcl hA hd hE
  have hr:Region.ready .any ops listed=[]:=by
   apply List.eq_nil_iff_forall_not_mem.2
   intro i hi
   obtain ⟨h1,o,ho,_⟩:=mem_ready.1 hi
   obtain ⟨l,h2,h3⟩:=hl
   have:=h3 i (Array.getElem?_eq_some_iff.1 ho).1 h1
   have:l=[]:=List.length_eq_zero_iff.1 (by omega)
   simp_all
  exact ⟨hr,fin listed a w Z m hsz hA hd hE hr⟩
 | succ fuel ih =>
  intro listed a w Z m hsz hl hcl hA hd hE
  refine ⟨fun hr=>fin listed a w Z m hsz hA hd hE hr,fun i hi=>?_⟩
  obtain ⟨hun,o,ho,hdep⟩:=mem_ready.1 hi
  have hlt:=(Array.getElem?_eq_some_iff.1 ho).1
  have hLi:listed.getD i false=false:=by
   have:i<listed.size:=by omega
   simp [this] at hun ⊢;exact hun
  have hanc:∀ j,j<ops.size→(A.getD i 0).testBit j=true→listed.getD j false=true:=by
   intro j hj hA
   obtain ⟨e,he,hb,h⟩:=hP.anc i o j ho hj hA
   rcases h with h | h
   ·rw [← h];exact hdep e he hb
   ·exact hcl e.on j (by have:=hP.dep i o ho e he hb;omega) hj (hdep e he hb) h
  have hdesc:∀ j,j<ops.size→(A.getD j 0).testBit i=true→listed.getD j false=false:=by
   intro j hj hA
   rcases hb:listed.getD j false with _ | _
   ·rfl
   ·rw [hcl j i hj hlt hb hA] at hLi;cases hLi
  have hL':∀ j,(listed.setIfInBounds i true).getD j false=(decide (j=i) || listed.getD j false):=by
   intro j
   by_cases hji:j=i
   ·subst hji
    have:j<listed.size:=by omega
    simp [this]
   ·rw [getD_set_ne false (fun h=>hji h.symm)];simp [hji]
  have hord:∀ j,j<ops.size→listed.getD j false=true→pls.getD j 0=pls.getD i 0→pls.getD i 0 ≠ junk→j<i∧(A.getD i 0).testBit j=true:=fun j hj hjl hjp hne=>by
   have hji:j ≠ i:=by rintro rfl;rw [hLi] at hjl;cases hjl
   rcases hQ.order i j hlt hj (fun h=>hji h.symm) hjp.symm hne with h | h
   ·exact ⟨hP.anc_lt hj i hlt h,h⟩
   ·rw [hdesc j hj h] at hjl;cases hjl
    -- what comes next
  have next:∀ (a':Act) (w':World) (Z':Nat→Prop) (m':Nat→Nat),
    AOK w' Z' m' ⟨I0 (tL ops R (fun j=>listed.getD j false) ops.size T) o.dst (R i),(if pls.getD i 0=junk then hpL O (fun j=>listed.getD j false) (pls.getD · 0) ops.size base else (hpL O (fun j=>listed.getD j false) (pls.getD · 0) ops.size base).set (pls.getD i 0) (O i))⟩ a'→a'.defers=ds →
    Ext w0 Z0 m0 H0 w' Z' m' (if pls.getD i 0=junk then hpL O (fun j=>listed.getD j false) (pls.getD · 0) ops.size base else (hpL O (fun j=>listed.getD j false) (pls.getD · 0) ops.size base).set (pls.getD i 0) (O i)) →
    wpAny P .any ops (fun e a' w'=>e=.normal∧∃ st',K st'=some r∧OA w0 Z0 m0 H0 ds st' a' w') fuel (listed.setIfInBounds i true) a' w':=by
   intro a' w' Z' m' hA' hd' hE'
   have e1:=eX (R:=R) (T:=T) hP.dist hlt hLi hL'
   rw [ho,Option.bind_some] at e1
   have e2:=QD (O:=O) (base:=base) (pl:=(pls.getD · 0)) (L:=fun j=>listed.getD j false) (L':=fun j=>(listed.setIfInBounds i true).getD j false) (junk:=junk) hlt hL' (fun j h1 h2 h3 h4=>Nat.le_of_lt (hord j h1 h2 h3 h4).1) hQ.free (fun j h1 _ h3=>Ia hQ ops.size hS j h1 h3)
   refine ih _ a' w' Z' m' (by simpa using hsz) ?_ ?_ (by rw [e1,e2];exact hA') hd' (by rw [e2];exact hE')
   ·obtain ⟨l,h2,h3⟩:=hl
    have hil:=h3 i hlt hun
    refine ⟨l.erase i,by rw [List.length_erase_of_mem hil];omega,fun j hj hjn=>?_⟩
    have hji:j ≠ i:=by
     rintro rfl
     have:j<listed.size:=by omega
     simp [this] at hjn
    rw [getD_set_ne true (fun h=>hji h.symm)] at hjn
    exact (List.mem_erase_of_ne hji).2 (h3 j hj hjn)
   ·intro p q hp hq hpl hpq
    rw [hL'] at hpl
    rw [hL']
    by_cases hpi:p=i
    ·subst hpi;simp [hanc q hq hpq]
    ·have hpl:listed.getD p false=true:=by simpa [hpi] using hpl
     rw [hcl p q hp hq hpl hpq,Bool.or_true]
  have hgd:∀ (g:Nat) (b:Bool) (d:Nat) (x:U),o.guard=some (g,b)→(ops[g]?).bind (·.dst)=some d→d<T.length→R g=x→(tL ops R (fun j=>listed.getD j false) ops.size T)[d]?=some x:=by
   intro g b d x hg hb hdl hx
   obtain ⟨h1,h2⟩:=hP.guard i o g b ho hg
   rw [Iu hP.dist hdl hb (hanc g h2 h1) ops.size h2,hx]
  have hjk:(hpL O (fun j=>listed.getD j false) (pls.getD · 0) ops.size base)[junk]?=some .free:=HR hQ.free fun j h1 _ h3=>Ia hQ ops.size hS j h1 h3
  have hset:∀ x:HO,(pls.getD i 0=junk→x=.free)→(hpL O (fun j=>listed.getD j false) (pls.getD · 0) ops.size base).set (pls.getD i 0) x=if pls.getD i 0=junk then hpL O (fun j=>listed.getD j false) (pls.getD · 0) ops.size base else (hpL O (fun j=>listed.getD j false) (pls.getD · 0) ops.size base).set (pls.getD i 0) x:=fun x hx=>by
   split
   ·rename_i h
    rw [h,hx h]
    exact Ej hjk
   ·rfl
  obtain ⟨o',ho',hs⟩:=hS i hlt
  rw [ho] at ho'
  cases ho'
  unfold wpOp
  rw [ho]
  simp only []
  rcases hs with ⟨hw,hfr,hsa,s,hev,hob⟩ | ⟨⟨g,b,d,hg,hb,hdl,hv⟩,hR,hO⟩
  ·have hwant:Region.wanted o (yielded ops a.tmps)=true:=by
    rcases hw with hw | ⟨g,b,d,hg,hb,hdl,hv⟩
    ·simp [Region.wanted,hw]
    ·have:=L7 hA hb (hgd g b d _ hg hb hdl hv)
     simp [Region.wanted,hg,this]
   rw [if_pos hwant]
   refine .inl ?_
   obtain ⟨hslot,hs2⟩:=op_more (L:=fun j=>listed.getD j false) hP hQ hS ho hLi hanc hdesc hsa hev hob
   obtain ⟨u,st1,hk,ht,hdo⟩:=Wh hty hC hA (slot:=Du C o.op (pls.getD i 0)) hslot hs2
   cases hk
   refine hdo.wp fun v w' ⟨Z',m',hE',hH',hr⟩=>?_
   have hA':=hA.put ht hE' hH' hr o.dst
   simp only at hE'
   rw [hset _ hfr] at hE'
   have est:(St.put ⟨tL ops R (fun j=>listed.getD j false) ops.size T,(hpL O (fun j=>listed.getD j false) (pls.getD · 0) ops.size base).set (pls.getD i 0) (O i)⟩ o.dst (R i)) =
     ⟨I0 (tL ops R (fun j=>listed.getD j false) ops.size T) o.dst (R i),(if pls.getD i 0=junk then hpL O (fun j=>listed.getD j false) (pls.getD · 0) ops.size base else (hpL O (fun j=>listed.getD j false) (pls.getD · 0) ops.size base).set (pls.getD i 0) (O i))⟩:=by
    have e:=hset (O i) hfr
    cases o.dst <;> exact congrArg (St.mk _) e
   exact next _ w' Z' m' (by rw [← est];exact hA') (by rw [GW];exact hd) (hE.trans hE')
  ·have hwant:Region.wanted o (yielded ops a.tmps)=false:=by
    rcases hv with hv | hv
    ·have:=L7 hA hb (hgd g b d _ hg hb hdl hv)
     simp [Region.wanted,hg,this]
    ·have:=Q2 hA hb (hgd g b d _ hg hb hdl hv)
     simp [Region.wanted,hg,this]
   rw [hwant]
   simp only [Bool.false_eq_true,if_false]
   have hsame:(if pls.getD i 0=junk then hpL O (fun j=>listed.getD j false) (pls.getD · 0) ops.size base else (hpL O (fun j=>listed.getD j false) (pls.getD · 0) ops.size base).set (pls.getD i 0) (O i))=hpL O (fun j=>listed.getD j false) (pls.getD · 0) ops.size base:=by
    split
    ·rfl
    ·rename_i hne
     have e:Cu (isL i) (pls.getD · 0) (pls.getD i 0) ops.size=Cu (fun j=>listed.getD j false) (pls.getD · 0) (pls.getD i 0) ops.size:=Eu _ fun j h1 h2=>by
      by_cases hji:j=i
      ·subst hji;rw [hLi];simp [isL]
      ·rcases hQ.order i j hlt h1 (fun h=>hji h.symm) (Eq.symm h2) hne with h | h
       ·rw [hanc j h1 h];exact decide_eq_true (hP.anc_lt h1 i hlt h)
       ·rw [hdesc j h1 h];have:=hP.anc_lt hlt j h1 h;exact decide_eq_false (by omega)
     rw [Dd,e,← Dd] at hO
     apply List.ext_getElem?
     intro x
     by_cases hx:pls.getD i 0=x
     ·subst hx
      rw [hO,List.getElem?_set_self (List.getElem?_eq_some_iff.1 hO).1]
     ·rw [List.getElem?_set_ne hx]
   have hA':=hA.put (st':=⟨tL ops R (fun j=>listed.getD j false) ops.size T,hpL O (fun j=>listed.getD j false) (pls.getD · 0) ops.size base⟩) rfl (Ext.refl _ _ _ _) hA.hok .undef o.dst
   have est:(St.put ⟨tL ops R (fun j=>listed.getD j false) ops.size T,hpL O (fun j=>listed.getD j false) (pls.getD · 0) ops.size base⟩ o.dst .undef) =
     ⟨I0 (tL ops R (fun j=>listed.getD j false) ops.size T) o.dst (R i),(if pls.getD i 0=junk then hpL O (fun j=>listed.getD j false) (pls.getD · 0) ops.size base else (hpL O (fun j=>listed.getD j false) (pls.getD · 0) ops.size base).set (pls.getD i 0) (O i))⟩:=by
    rw [hsame,hR]
    cases o.dst <;> rfl
   exact next _ w Z m (by rw [← est];exact hA') (by rw [GW];exact hd) (by rw [hsame];exact hE)
theorem EV (n j:Nat):(Array.replicate n false).getD j false=false:=by
 rw [Array.getD_eq_getD_getElem?,Array.getElem?_replicate]
 split <;> rfl
theorem Rw {T:List U} {hl:Nat} {sl:List Nat}:∀ (l:List Nat) (pls:List Nat),WZ C T hl ops sl l=some pls→∀ (k i:Nat),l[k]?=some i→lK C T hl ops sl i=some (pls.getD k 0)
 | [],pls,h,k,i,hk=>by simp at hk
 | a :: l,pls,h,k,i,hk=>by
  simp only [WZ] at h
  split at h
  ·rename_i x xs h1 h2
   cases h
   cases k with
   | zero=>simp at hk;subst hk;simpa using h1
   | succ k=>simp at hk;simpa using Rw l xs h2 k i hk
  ·cases h
theorem Places.of {H:List HO} (h1:WZ C T H.length ops (Bq C ops) (List.range ops.size)=some pls) (h2:Wa A pls (H.length+(Bq C ops).length) ops.size=true) (h3:cY C ops A pls (H.length+(Bq C ops).length)=true) :
  Places C ops A pls T (H++((Bq C ops).map (fun _=>.free)++[.free])) (H.length+(Bq C ops).length):=by
 have hpl:∀ i,i<ops.size→lK C T H.length ops (Bq C ops) i=some (pls.getD i 0):=fun i hi=>Rw _ _ h1 i i (by rw [List.getElem?_range hi])
 have hfree:∀ x,H.length≤x→x≤H.length+(Bq C ops).length→(H++((Bq C ops).map (fun _=>HO.free)++[HO.free]))[x]?=some .free:=fun x hx hx2=>by
  rw [List.getElem?_append_right hx]
  by_cases hlt:x-H.length<(Bq C ops).length
  ·rw [List.getElem?_append_left (by simpa using hlt),List.getElem?_map,List.getElem?_eq_getElem hlt];rfl
  ·rw [List.getElem?_append_right (by simp;omega)]
   have:x-H.length-((Bq C ops).map fun _=>HO.free).length=0:=by simp;omega
   rw [this];rfl
  -- what is known of a Bv, by the kind of operation
 have hst:∀ (i:Nat) (o:Oper),ops[i]?=some o→isW C o.op=true→pls.getD i 0<H.length+(Bq C ops).length:=by
  intro i o ho hw
  have:=hpl i (Array.getElem?_eq_some_iff.1 ho).1
  unfold lK at this
  rw [ho] at this
  simp only at this
  cases hpt:OQ C o.op with
  | true =>
   rw [hpt] at this
   simp only at this
   split at this
   ·split at this
    ·split at this
     ·rename_i hb
      simp only [Option.some.injEq] at this
      rw [← this]
      exact hb
     ·cases this
    ·cases this
   ·cases this
  | false =>
   rw [hpt] at this
   have hs:O6 o.op=true:=by simpa [isW,hpt] using hw
   cases hop:o.op with
   | store t a x =>
    rw [hop] at this
    cases a with
    | tmp tm =>
     simp only at this
     split at this
     ·split at this
      ·rename_i hb
       simp only [Option.some.injEq] at this
       rw [← this]
       exact hb
      ·cases this
     ·cases this
    | const v=>cases this
    | func f=>cases this
    | global g=>cases this
   | _=>rw [hop] at hs;cases hs
 have hal:∀ (i:Nat) (o:Oper),ops[i]?=some o→isW C o.op=false→pls.getD i 0=H.length+(Bq C ops).idxOf i:=by
  intro i o ho hw
  have:=hpl i (Array.getElem?_eq_some_iff.1 ho).1
  unfold lK at this
  rw [ho] at this
  simp only at this
  obtain ⟨hs,hpt⟩:O6 o.op=false∧OQ C o.op=false:=by simpa [isW] using hw
  rw [hpt] at this
  cases hop:o.op with
  | store t a x=>rw [hop] at hs;cases hs
  | _=>rw [hop] at this;simp only [Option.some.injEq] at this;exact this.symm
 refine ⟨hfree _ (by omega) (Nat.le_refl _),fun i j hi hj hij hp hne=>?_,fun i hi=>?_,fun i o ho hw=>?_,fun i o ho hs=>?_⟩
 ·have:=List.all_eq_true.1 (List.all_eq_true.1 h2 i (List.mem_range.2 hi)) j (List.mem_range.2 hj)
  simp only [Bool.or_eq_true,beq_iff_eq,Bool.not_eq_true',beq_eq_false_iff_ne] at this
  rcases this with (((h | h) | h) | h) | h
  ·exact absurd h hij
  ·exact absurd hp h
  ·exact absurd h hne
  ·exact .inl h
  ·exact .inr h
 ·have ho:ops[i]?=some ops[i]:=Array.getElem?_eq_getElem hi
  rw [List.length_append,List.length_append,List.length_map,List.length_singleton]
  cases hs:isW C ops[i].op with
  | true=>have:=hst i _ ho hs;omega
  | false =>
   have:=hal i _ ho hs
   have:=List.idxOf_le_length (a:=i) (l:=Bq C ops)
   omega
 ·have:=hst i o ho hw
  omega
 ·have e:=hal i o ho hs
  have hle:=List.idxOf_le_length (a:=i) (l:=Bq C ops)
  refine ⟨by rw [e];exact hfree _ (by omega) (by omega),?_⟩
  by_cases hlt:(Bq C ops).idxOf i<(Bq C ops).length
  ·right
   intro j hj hp
   have h4:=List.all_eq_true.1 h3 i (List.mem_range.2 (Array.getElem?_eq_some_iff.1 ho).1)
   rw [ho] at h4
   simp only [hs,Bool.false_or] at h4
   have h5:=List.all_eq_true.1 h4 j (List.mem_range.2 hj)
   simp only [Bool.or_eq_true,beq_iff_eq,Bool.not_eq_true',beq_eq_false_iff_ne] at h5
   rcases h5 with ((h5 | h5) | h5) | h5
   ·exact .inl h5.symm
   ·exact absurd hp h5
   ·omega
   ·exact .inr h5
  ·left;omega
theorem HX (hty:Gl P ty) (hC:Ax P C) {K:St→Option ρ} {st:St} {a:Act} {w:World} {Z:Nat→Prop} {m:Nat→Nat}
  (hA:AOK w Z m st a) (hd:a.defers=ds) (hE:Ext w0 Z0 m0 H0 w Z m st.heap) (h:HU P ty C ops st K=some r) :
  wpAny P .any ops (fun e a' w'=>e=.normal∧∃ st',K st'=some r∧OA w0 Z0 m0 H0 ds st' a' w') ops.size (Array.replicate ops.size false) a { w with drawn:=w.drawn+1 }:=by
 simp only [HU] at h
 split at h
 ·rename_i pls hok hpls
  split at h
  ·rename_i hpo
   rw [Bool.and_eq_true] at hpo
   have hP:=Plan.of hok
   have hQ:=Places.of (A:=X8 ops) hpls hpo.1 hpo.2
   rw [List.range_eq_range'] at h
   have e0:(st.heap++((Bq C ops).map (fun _=>HO.free)++[HO.free]))=hpL (fun _=>.free) (isL 0) (pls.getD · 0) ops.size (st.heap++((Bq C ops).map (fun _=>.free)++[.free])):=by
    apply List.ext_getElem?
    intro x
    rw [Dd,Hn _ fun j _ hj=>by simp [isL] at hj]
    simp
   rw [e0] at h
   obtain ⟨R,O,hS,hK⟩:=Zj hP hQ ops.size 0 (by omega) (fun _=>.undef) (fun _=>.free) (fun j hj=>by omega) h
   have eH:hpL O (fun j=>(Array.replicate ops.size false).getD j false) (pls.getD · 0) ops.size (st.heap++((Bq C ops).map (fun _=>.free)++[.free]))=st.heap++((Bq C ops).map (fun _=>.free)++[.free]):=by
    apply List.ext_getElem?
    intro x
    rw [Dd,Hn _ fun j _ hj=>by simp only [EV] at hj;cases hj]
    simp
   have hF:FEq st.heap (hpL O (fun j=>(Array.replicate ops.size false).getD j false) (pls.getD · 0) ops.size (st.heap++((Bq C ops).map (fun _=>.free)++[.free]))):=by
    rw [eH]
    refine FEq.app _ fun ob hob=>?_
    rw [List.mem_append] at hob
    rcases hob with hob | hob
    ·rw [List.mem_map] at hob
     obtain ⟨j,_,rfl⟩:=hob
     rfl
    ·simpa using hob
   have eT:tL ops R (fun j=>(Array.replicate ops.size false).getD j false) ops.size st.tmps=st.tmps:=by
    apply List.ext_getElem?
    intro t
    exact Eh _ fun j hj hL=>by simp only [EV] at hL;cases hL
   refine pU hty hC hP hQ hS hK (by simp;omega) (by have:=hE.len;omega) ops.size _ a _ Z m (by simp) ⟨List.range ops.size,by simp,fun i hi _=>List.mem_range.2 hi⟩ (fun i j hi hj hL=>by simp only [EV] at hL;cases hL) ?_ hd ?_
   ·rw [eT]
    exact AOK.feq hF (iH hA _ (Nat.le_succ _))
   ·exact (hE.trans (No w Z m st.heap _ (Nat.le_succ _))).feq hF (by rw [eH,List.length_append];have:=hE.len;omega)
  ·cases h
 ·cases h
end
end
noncomputable section
section
variable {P:Program} {ops:Array Oper} {A:List Nat} {Q Q0:Exit→Act→World→Prop}
theorem wp_q {o:Oper} {a:Act} {w:World} {K:Act→World→Prop} (hQ:∀ e a w,e ≠ .normal→Q0 e a w→Q e a w) (hh:o.wp P a w K Q0):o.wp P a w K Q:=by
 unfold Oper.wp at *
 generalize (execOp a.eval o).run P w=r at *
 cases r with
 | ok n w' =>
  cases n <;> simp only [Oper.upon] at hh ⊢ <;>
   first
    | exact hh
    | exact Calls.mono hh (fun e w'' he=>by
      cases e with
      | returned v=>exact he
      | panicked c=>exact hQ _ _ _ (by simp) he
      | outgrown=>obtain ⟨a,w,h⟩:=he;exact ⟨a,w,hQ _ _ _ (by simp) h⟩)
 | halt x w'=>cases x <;> simp only [Oper.upon] at hh ⊢ <;> first | exact hh | exact hQ _ _ _ (by simp) hh
def OB (ops:Array Oper) (A:List Nat) (L:Array Bool):Prop:=∀ i j,i<ops.size→j<ops.size→L.getD i false=true→(A.getD i 0).testBit j=true→L.getD j false=true
theorem NL (hP:Plan ops A) {L:Array Bool} (hcl:OB ops A L) {i:Nat} (hi:i ∈ Region.ready .any ops L):∀ j,j<ops.size→(A.getD i 0).testBit j=true→L.getD j false=true:=by
 obtain ⟨hun,o,ho,hdep⟩:=mem_ready.1 hi
 have hlt:=(Array.getElem?_eq_some_iff.1 ho).1
 intro j hj hA
 obtain ⟨e,he,hb,h⟩:=hP.anc i o j ho hj hA
 rcases h with h | h
 ·rw [← h];exact hdep e he hb
 ·exact hcl e.on j (by have:=hP.dep i o ho e he hb;omega) hj (hdep e he hb) h
theorem JA {L:Array Bool} {i:Nat} (hi:i<L.size):L.getD i true=L.getD i false:=by simp [hi]
theorem NM {p:Array Oper} (hdep:∀ i o,p[i]?=some o→∀ e ∈ o.after,Region.binds .any e=true→e.on<i) {L:Array Bool} (hsz:L.size=p.size) (hr:Region.ready .any p L=[]):∀ i,i<p.size→L.getD i false=true:=by
 intro i
 induction i using Nat.strongRecOn with
 | ind i ih =>
  intro hi
  rcases hb:L.getD i false with _ | _
  ·exfalso
   have:i ∈ Region.ready .any p L:=by
    rw [mem_ready]
    refine ⟨by rw [JA (by omega)];exact hb,p[i],Array.getElem?_eq_getElem hi,fun e he hbd=>?_⟩
    have:=hdep i _ (Array.getElem?_eq_getElem hi) e he hbd
    exact ih e.on this (by omega)
   rw [hr] at this
   cases this
  ·rfl
theorem X6:∀ (f:Nat) (L:Array Bool) (a:Act) (w:World),wpAny P .any ops Q f L a w→wpAny P .any ops Q (f+1) L a w
 | 0,L,a,w,h=>⟨fun _=>h.2,fun i hi=>by rw [h.1] at hi;cases hi⟩
 | f+1,L,a,w,h=>⟨h.1,fun i hi=>wpOp_mono (fun a w=>X6 f _ a w) (h.2 i hi)⟩
theorem iS (n:Nat) {f:Nat} {L:Array Bool} {a:Act} {w:World} (h:wpAny P .any ops Q f L a w):wpAny P .any ops Q (n+f) L a w:=by
 induction n with
 | zero=>rw [Nat.zero_add];exact h
 | succ n ih=>rw [show n+1+f=n+f+1 by omega];exact X6 _ _ _ _ ih
theorem MJ {L:Array Bool} {i:Nat} (hi:i<L.size) (j:Nat):(L.setIfInBounds i true).getD j false=(decide (j=i) || L.getD j false):=by
 by_cases hji:j=i
 ·subst hji;simp [hi]
 ·rw [getD_set_ne false (fun h=>hji h.symm)];simp [hji]
theorem Qd (hP:Plan ops A) {L:Array Bool} (hsz:L.size=ops.size) (hcl:OB ops A L) {i:Nat} (hi:i ∈ Region.ready .any ops L) (hlt:i<ops.size):OB ops A (L.setIfInBounds i true):=by
 intro p q hp hq hpl hpq
 rw [MJ (by omega)] at hpl ⊢
 by_cases hpi:p=i
 ·subst hpi;rw [NL hP hcl hi q hq hpq,Bool.or_true]
 ·have hpl:L.getD p false=true:=by simpa [hpi] using hpl
  rw [hcl p q hp hq hpl hpq,Bool.or_true]
def Qm (ops:Array Oper) (A:List Nat) (k:Nat):Prop:=∀ i,k≤i→i<ops.size→∀ j,j<i→(A.getD i 0).testBit j=true
theorem X5 (hP:Plan ops A) {k:Nat} (ht:Qm ops A k):∀ (d i:Nat) (L:Array Bool) (a:Act) (w:World),i+d=ops.size→k≤i→L.size=ops.size→(∀ j,j<ops.size→L.getD j false=decide (j<i))→OB ops A L →
  wpOps P ops Q (List.range' i d) a w→wpAny P .any ops Q d L a w
 | 0,i,L,a,w,hi,hk,hsz,hL,hcl,h=>by
  have hr:Region.ready .any ops L=[]:=by
   refine List.eq_nil_iff_forall_not_mem.2 fun j hj=>?_
   obtain ⟨hun,o,ho,_⟩:=mem_ready.1 hj
   have hlt:=(Array.getElem?_eq_some_iff.1 ho).1
   rw [JA (by omega),hL j hlt] at hun
   simp at hun
   omega
  exact ⟨hr,h⟩
 | d+1,i,L,a,w,hi,hk,hsz,hL,hcl,h=>by
  have hlt:i<ops.size:=by omega
  have hmem:i ∈ Region.ready .any ops L:=by
   rw [mem_ready]
   refine ⟨by rw [JA (by omega),hL i hlt];simp,ops[i],Array.getElem?_eq_getElem hlt,fun e he hbd=>?_⟩
   have:=hP.dep i _ (Array.getElem?_eq_getElem hlt) e he hbd
   rw [hL e.on (by omega)]
   simpa using this
  have hne:Region.ready .any ops L=[]→Q .normal a w:=fun hr=>by
   rw [hr] at hmem
   cases hmem
  refine ⟨hne,fun i' hi'=>?_⟩
  obtain ⟨hun,o,ho,_⟩:=mem_ready.1 hi'
  have hlt':=(Array.getElem?_eq_some_iff.1 ho).1
  have hge:i≤i':=by
   rw [JA (by omega),hL i' hlt'] at hun
   simpa using hun
  have heq:i'=i:=by
   rcases Nat.lt_or_ge i i' with h1 | h1
   ·have:=NL hP hcl hi' i hlt (ht i' (by omega) hlt' i h1)
    rw [hL i hlt] at this
    simp at this
   ·omega
  subst heq
  rw [List.range'_succ,wpOps_cons] at h
  refine wpOp_mono (fun a w=>X5 hP ht d (i'+1) _ a w (by omega) (by omega) (by simpa using hsz) (fun j hj=>?_) (Qd hP hsz hcl hi' hlt)) h
  rw [MJ (by omega),hL j hj]
  by_cases h1:j=i'
  ·subst h1;simp
  ·by_cases h2:j<i'
   ·simp [h1,h2,Nat.lt_succ_of_lt h2]
   ·have:¬ j<i'+1:=by omega
    simp [h1,h2,this]
theorem GG {k:Nat} (hk:k≤ops.size):(EQ ops k).size=k:=by simp [EQ];omega
theorem Mo {k:Nat} (hk:k≤ops.size) {i:Nat} (hi:i<k):(EQ ops k)[i]?=ops[i]?:=by
 simp [EQ,List.getElem?_take,hi]
theorem qK (hP:Plan ops A) {k:Nat} (hk:k≤ops.size) (ht:Qm ops A k) {f2:Nat} (hQ:∀ e a w,e ≠ .normal→Q0 e a w→Q e a w)
  (hT:∀ (L:Array Bool) (a:Act) (w:World),L.size=ops.size→(∀ j,j<ops.size→L.getD j false=decide (j<k))→OB ops A L→Q0 .normal a w→wpAny P .any ops Q f2 L a w) :
  ∀ (f:Nat) (L' L:Array Bool) (a:Act) (w:World),L'.size=k→L.size=ops.size→(∀ j,j<k→L.getD j false=L'.getD j false)→(∀ j,k≤j→j<ops.size→L.getD j false=false)→OB ops A L →
   wpAny P .any (EQ ops k) Q0 f L' a w→wpAny P .any ops Q (f+f2) L a w:=by
 have hdep:∀ i o,(EQ ops k)[i]?=some o→∀ e ∈ o.after,Region.binds .any e=true→e.on<i:=by
  intro i o ho
  have hi:=(Array.getElem?_eq_some_iff.1 ho).1
  rw [GG hk] at hi
  rw [Mo hk hi] at ho
  exact hP.dep i o ho
 have full:∀ {L' L:Array Bool},L'.size=k→(∀ j,j<k→L.getD j false=L'.getD j false)→(∀ j,k≤j→j<ops.size→L.getD j false=false)→(∀ j,j<k→L'.getD j false=true)→∀ j,j<ops.size→L.getD j false=decide (j<k):=by
  intro L' L _ h1 h2 h3 j hj
  by_cases hjk:j<k
  ·rw [h1 j hjk,h3 j hjk];simp [hjk]
  ·rw [h2 j (by omega) hj];simp [hjk]
 intro f
 induction f with
 | zero =>
  intro L' L a w hs' hs h1 h2 hcl h
  rw [Nat.zero_add]
  exact hT L a w hs (full hs' h1 h2 fun j hj=>NM hdep (by rw [GG hk];exact hs') h.1 j (by rw [GG hk];exact hj)) hcl h.2
 | succ f ih =>
  intro L' L a w hs' hs h1 h2 hcl h
  by_cases hall:Region.ready .any (EQ ops k) L'=[]
  ·exact iS (f+1) (hT L a w hs (full hs' h1 h2 fun j hj=>NM hdep (by rw [GG hk];exact hs') hall j (by rw [GG hk];exact hj)) hcl (h.1 hall))
  ·have some_un:∃ j,j<k∧L.getD j false=false:=by
    obtain ⟨j,hj⟩:=List.exists_mem_of_ne_nil _ hall
    obtain ⟨hun,o,ho,_⟩:=mem_ready.1 hj
    have hlt:=(Array.getElem?_eq_some_iff.1 ho).1
    rw [GG hk] at hlt
    exact ⟨j,hlt,by rw [h1 j hlt,← JA (by omega)];exact hun⟩
   obtain ⟨j0,hj0,hu0⟩:=some_un
   rw [show f+1+f2=f+f2+1 by omega]
   refine ⟨fun hr=>?_,fun i hi=>?_⟩
   ·have:=NM (fun i o ho=>hP.dep i o ho) hs hr j0 (by omega)
    rw [hu0] at this
    cases this
   ·obtain ⟨hun,o,ho,hde⟩:=mem_ready.1 hi
    have hlt:=(Array.getElem?_eq_some_iff.1 ho).1
    have hik:i<k:=by
     rcases Nat.lt_or_ge i k with h3 | h3
     ·exact h3
     ·have:=NL hP hcl hi j0 (by omega) (ht i h3 hlt j0 (by omega))
      rw [hu0] at this
      cases this
    have hi':i ∈ Region.ready .any (EQ ops k) L':=by
     rw [mem_ready]
     refine ⟨by rw [JA (by omega),← h1 i hik,← JA (by omega)];exact hun,o,by rw [Mo hk hik];exact ho,fun e he hb=>?_⟩
     have:=hP.dep i o ho e he hb
     rw [← h1 e.on (by omega)]
     exact hde e he hb
    have hw:=h.2 i hi'
    have go:∀ (a:Act) (w:World),wpAny P .any (EQ ops k) Q0 f (L'.setIfInBounds i true) a w→wpAny P .any ops Q (f+f2) (L.setIfInBounds i true) a w:=fun a w hw=>by
     refine ih _ _ a w (by simpa using hs') (by simpa using hs) (fun j hj=>?_) (fun j hj1 hj2=>?_) (Qd hP hs hcl hi hlt) hw
     ·rw [MJ (by omega),MJ (by omega),h1 j hj]
     ·rw [MJ (by omega),h2 j hj1 hj2]
      have:j ≠ i:=by omega
      simp [this]
    unfold wpOp at hw ⊢
    rw [Mo hk hik,ho] at hw
    rw [ho]
    simp only [] at hw ⊢
    have hy:Region.wanted o (yielded (EQ ops k) a.tmps)=Region.wanted o (yielded ops a.tmps):=by
     unfold Region.wanted
     cases hg:o.guard with
     | none=>rfl
     | some p =>
      obtain ⟨g,b⟩:=p
      have hgb:=(hP.guard i o g b ho hg).1
      have hgi:=hP.anc_lt (hP.guard i o g b ho hg).2 i hlt hgb
      have:yielded (EQ ops k) a.tmps g=yielded ops a.tmps g:=by
       unfold yielded
       rw [Mo hk (show g<k by omega)]
      simp only [this]
    rw [hy] at hw
    split
    ·rename_i hwt
     rw [if_pos hwt] at hw
     rcases hw with hw | ⟨hw1,hw2⟩
     ·exact .inl (Oper.wp_mono go (wp_q hQ hw))
     ·obtain ⟨a1,w1,h3⟩:=hw2
      exact .inr ⟨hw1,a1,w1,hQ _ _ _ (by simp) h3⟩
    ·rename_i hwt
     rw [if_neg hwt] at hw
     exact go _ _ hw
end
end
noncomputable section
section
variable {ρ:Type} {P:Program} {ty:TypeId→Option TI} {C:Env} {r:ρ} {ops:Array Oper} {w0:World} {Z0:Nat→Prop} {m0:Nat→Nat} {H0:List HO} {ds:List Deferred}
theorem Qm.of {A:List Nat} {k:Nat} (h:Oz ops A k=true):k≤ops.size∧Qm ops A k:=by
 unfold Oz at h
 rw [Bool.and_eq_true,decide_eq_true_eq,List.all_eq_true] at h
 refine ⟨h.1,fun i hi hlt j hj=>?_⟩
 have:=h.2 i (List.mem_range.2 hlt)
 rw [decide_eq_false (by omega),Bool.false_or,List.all_eq_true] at this
 exact this j (List.mem_range.2 hj)
theorem Ph {x junk:Nat} {hp:List HO} {ob:Option HO} {K K':List HO→Option ρ} (hk:∀ l,K l=some r→K' l=some r) (h:OI x junk hp ob K=some r):OI x junk hp ob K'=some r:=by
 unfold OI at h ⊢
 split at h
 ·split at h
  ·split at h
   ·rename_i hx _;simp only [hx,if_true];exact hk _ h
   ·cases h
  ·rename_i hx;simp only [hx,if_false];exact hk _ h
 ·cases h
theorem Nv {b:Bool} {x x' y y':Option ρ} (h1:x=some r→x'=some r) (h2:y=some r→y'=some r) (h:AC b x y=some r):AC b x' y'=some r:=by
 cases b with
 | true=>exact h1 h
 | false=>exact h2 h
theorem EF {A pls:List Nat} {junk:Nat} {K K':St→Option ρ} (hk:∀ s,K s=some r→K' s=some r):∀ (l:List Nat) (t:List U) (hp:List HO),C4 P ty C ops A pls junk l t hp K=some r→C4 P ty C ops A pls junk l t hp K'=some r
 | [],t,hp,h=>hk _ h
 | i :: l,t,hp,h=>by
  simp only [C4] at h ⊢
  cases ho:ops[i]? with
  | none=>rw [ho] at h;cases h
  | some o =>
   rw [ho] at h
   simp only at h ⊢
   split at h
   ·exact Nv (fun h=>SL (fun u s hs=>Ph (fun l' hl=>EF hk l _ _ hl) hs) h) (fun h=>by cases h) h
   ·rename_i g b _
    split at h
    ·cases h
    ·rename_i d _
     split at h
     ·exact Nv (fun h=>Nv (fun h=>SL (fun u s hs=>Ph (fun l' hl=>EF hk l _ _ hl) hs) h) (fun h=>by cases h) h) (fun h=>EF hk l _ _ h) h
     ·exact EF hk l _ _ h
     ·cases h
theorem XV {K K':St→Option ρ} {st:St} (hk:∀ s,K s=some r→K' s=some r) (h:HU P ty C ops st K=some r):HU P ty C ops st K'=some r:=by
 simp only [HU] at h ⊢
 split at h
 ·split at h
  ·exact EF hk _ _ _ h
  ·cases h
 ·cases h
mutual
theorem fT {H:List HO}:∀ (u:U) (x:F),toF H u=some x→∀ o ∈ Cp u,∃ sz n g,H[o]?=some (.arr sz n g)
 | .agg us,x,h,o,ho=>by
  simp only [toF] at h
  cases hx:Bb H us with
  | none=>rw [hx] at h;cases h
  | some xs=>exact Ky us xs hx o (by simpa [Cp] using ho)
 | .tup us,x,h,o,ho=>by
  simp only [toF] at h
  cases hx:Bb H us with
  | none=>rw [hx] at h;cases h
  | some xs=>exact Ky us xs hx o (by simpa [Cp] using ho)
 | .hs o' gen off len,x,h,o,ho=>by
  simp only [Cp,List.mem_singleton] at ho
  subst ho
  simp only [toF] at h
  split at h
  ·rename_i sz n g he;exact ⟨_,_,_,he⟩
  ·cases h
 | .f _,_,_,_,ho=>by simp [Cp] at ho
 | .hp _ _,_,_,_,ho=>by simp [Cp] at ho
 | .ep _ _ _ _,_,_,_,ho=>by simp [Cp] at ho
 | .va _,_,_,_,ho=>by simp [Cp] at ho
 | .nilp,_,_,_,ho=>by simp [Cp] at ho
 | .nils,_,_,_,ho=>by simp [Cp] at ho
 | .fn _ _,_,_,_,ho=>by simp [Cp] at ho
 | .nilfn,_,_,_,ho=>by simp [Cp] at ho
 | .undef,_,_,_,ho=>by simp [Cp] at ho
 | .bad,_,_,_,ho=>by simp [Cp] at ho
theorem Ky {H:List HO}:∀ (us:List U) (xs:List F),Bb H us=some xs→∀ o ∈ As us,∃ sz n g,H[o]?=some (.arr sz n g)
 | [],_,_,o,ho=>by simp [As] at ho
 | u :: us,xs,h,o,ho=>by
  simp only [Bb] at h
  split at h
  ·rename_i x xs' hx hxs
   simp only [As,List.mem_append] at ho
   rcases ho with ho | ho
   ·exact fT u x hx o ho
   ·exact Ky us xs' hxs o ho
  ·cases h
end
section
variable {w:World} {Z:Nat→Prop} {m:Nat→Nat} {H:List HO}
theorem frz_one (hH:HOK w Z m H) {o:Nat} {cu:List U} {xs:List F} (ho:H[o]?=some (.box cu)) (hx:Bb H cu=some xs) :
  ∃ Z',Ext w Z m H w Z' m ((Bh H (As cu)).set o (BE xs))∧HOK w Z' m ((Bh H (As cu)).set o (BE xs)):=by
 obtain ⟨c,el,fr,h1,h2,h3,h4⟩:=hH.ob o _ ho
 have hR:CP w Z m H cu c.toList:=⟨by simp [h3],fun j u v hu hv=>by
  obtain ⟨v',hv',hr⟩:=h4 j u hu
  rw [Array.getElem?_toList] at hv
  rw [hv'] at hv;cases hv
  exact hr⟩
 obtain ⟨Z',hE,hH',hL,_⟩:=G0 hH hR hx
 have hkl:∀ (os:List Nat) (H:List HO),(Bh H os).length=H.length:=by
  intro os
  induction os with
  | nil=>intro H;rfl
  | cons o os ih=>intro H;simp only [Bh,ih,List.length_set]
 have hlt0:=(List.getElem?_eq_some_iff.1 ho).1
 have hlt:o<(Bh H (As cu)).length:=by rw [hkl];exact hlt0
 have hbox:(Bh H (As cu))[o]?=some (.box cu):=by
  have hno:∀ k ∈ As cu,k ≠ o:=fun k hk e=>by
   subst e
   obtain ⟨sz,n,g,h⟩:=Ky cu xs hx k hk
   rw [ho] at h;cases h
  have:∀ (os:List Nat) (H:List HO),H[o]?=some (.box cu)→(∀ k ∈ os,k ≠ o)→(Bh H os)[o]?=some (.box cu):=by
   intro os
   induction os with
   | nil=>intro H h _;exact h
   | cons k os ih =>
    intro H h hn
    simp only [Bh]
    refine ih _ ?_ fun k' hk'=>hn k' (List.mem_cons_of_mem _ hk')
    rw [List.getElem?_set_ne (hn k (List.mem_cons_self ..))]
    exact h
  exact this _ _ ho hno
 generalize hK:Bh H (As cu)=H1 at hE hH' hlt hbox
 have hlen:xs.length=cu.length:=by
  obtain ⟨hl,_⟩:=Bf cu xs hx
  exact hl.symm
 have hE2:Ext w Z' m H1 w Z' m (H1.set o (BE xs)):=by
  refine ⟨rfl,rfl,rfl,Nat.le_refl _,fun _ h=>h,fun b hb=>.inl hb,fun _ _=>rfl,fun _ _ _=>rfl,by simp,fun k ob ob' hk hk'=>?_,fun k hk=>?_,Nat.le_refl _⟩
  ·by_cases hko:o=k
   ·subst hko
    rw [List.getElem?_set_self hlt] at hk'
    rw [hbox] at hk
    cases hk;cases hk'
    exact ⟨by simp [hlen],rfl⟩
   ·rw [List.getElem?_set_ne hko,hk] at hk'
    cases hk'
    exact Bu.refl _ _ _
  ·obtain ⟨ob,hk,hl⟩:=hk
   by_cases hko:o=k
   ·subst hko
    exact .inl ⟨⟨_,hbox,rfl⟩,rfl⟩
   ·rw [List.getElem?_set_ne hko] at hk
    exact .inl ⟨⟨ob,hk,hl⟩,rfl⟩
 have hlive:∀ k,Aw (H1.set o (BE xs)) k→Aw H1 k:=fun k hk=>by
  rcases hE2.new k hk with h | h
  ·exact h.1
  ·obtain ⟨ob,hk,hl⟩:=hk
   by_cases hko:o=k
   ·subst hko;exact ⟨_,hbox,rfl⟩
   ·rw [List.getElem?_set_ne hko] at hk;exact ⟨ob,hk,hl⟩
 refine ⟨Z',hE.trans hE2,hH'.zlt,fun k hk=>hH'.apart k (hlive k hk),fun k k' hk hk'=>hH'.inj k k' (hlive k hk) (hlive k' hk'),fun k ob hk=>?_⟩
 by_cases hko:o=k
 ·subst hko
  rw [List.getElem?_set_self hlt] at hk
  cases hk
  obtain ⟨c',el',fr',g1,g2,g3,g4⟩:=hH'.ob o _ hbox
  rw [h1] at g1
  cases g1
  refine ⟨c,el,fr,h1,h2,by simp [hlen,h3],fun j u hu=>?_⟩
  rw [List.getElem?_map] at hu
  cases hxj:xs[j]? with
  | none=>rw [hxj] at hu;cases hu
  | some x =>
   rw [hxj] at hu;cases hu
   have hj:=(List.getElem?_eq_some_iff.1 hxj).1
   have hjc:j<c.size:=by omega
   have hv:c.toList[j]?=some c[j]:=by rw [Array.getElem?_toList];exact Array.getElem?_eq_getElem hjc
   exact ⟨c[j],Array.getElem?_eq_getElem hjc,.f _ _ (hL.2 j x _ hxj hv)⟩
 ·rw [List.getElem?_set_ne hko] at hk
  exact (hH'.ob k ob hk).mono hE2 rfl
theorem nS {K:List HO→Option ρ}:∀ (os:List Nat) (H:List HO) (Z:Nat→Prop),HOK w Z m H→cM os H K=some r→∃ Z' H',Ext w Z m H w Z' m H'∧HOK w Z' m H'∧K H'=some r∧H'.length=H.length
 | [],H,Z,hH,h=>⟨Z,H,Ext.refl _ _ _ _,hH,h,rfl⟩
 | o :: os,H,Z,hH,h=>by
  simp only [cM] at h
  split at h
  ·rename_i cu ho
   obtain ⟨xs,hx,h⟩:=B0 _ _ h
   obtain ⟨Z1,hE1,hH1⟩:=frz_one hH ho hx
   obtain ⟨Z2,H2,hE2,hH2,hK,hl⟩:=nS os _ Z1 hH1 h
   refine ⟨Z2,H2,hE1.trans hE2,hH2,hK,?_⟩
   have hkl:∀ (os:List Nat) (H:List HO),(Bh H os).length=H.length:=by
    intro os
    induction os with
    | nil=>intro H;rfl
    | cons o os ih=>intro H;simp only [Bh,ih,List.length_set]
   rw [hl,List.length_set,hkl]
  ·cases h
end
theorem gP (hty:Gl P ty) (hC:Ax P C) {K:St→Option ρ} {st:St} {a:Act} {w:World} {Z:Nat→Prop} {m:Nat→Nat}
  (hA:AOK w Z m st a) (hd:a.defers=ds) (hE:Ext w0 Z0 m0 H0 w Z m st.heap) (h:nY P ty C ops st K=some r) :
  wpAny P .any ops (fun e a' w'=>e=.normal∧∃ st',K st'=some r∧OA w0 Z0 m0 H0 ds st' a' w') ops.size (Array.replicate ops.size false) a { w with drawn:=w.drawn+1 }:=by
 unfold nY at h
 split at h
 ·exact HX hty hC hA hd hE h
 ·split at h
  ·exact HX hty hC hA hd hE h
  ·by_cases hn:HU P ty C ops st K=some r
   ·exact HX hty hC hA hd hE hn
   ·obtain ⟨Z',H',hE',hH',hK,_⟩:=nS _ _ _ hA.hok h
    have hK2:=XV (K':=K) (fun s hs=>by
     split at hs
     ·exact absurd hs hn
     ·exact hs) hK
    exact HX hty hC (st:={ st with heap:=H' }) ⟨hA.len,fun i u v hu hv=>(hA.rep i u v hu hv).mono hE',hH'⟩ hd (hE.trans hE') hK2
theorem Zi (hty:Gl P ty) (hC:Ax P C) {K:St→Option ρ} {st:St} {a:Act} {w:World} {Z:Nat→Prop} {m:Nat→Nat} {id:Nat}
  (hA:AOK w Z m st a) (hd:a.defers=ds) (hE:Ext w0 Z0 m0 H0 w Z m st.heap) (h:XO P ty C ops true st K=some r) :
  (Code.region id ops true).wp P (fun e a' w'=>e=.normal∧∃ st',K st'=some r∧OA w0 Z0 m0 H0 ds st' a' w') a w:=by
 simp only [XO] at h
 refine wp_region_any hty.1 ?_
 split at h
 ·exact gP hty hC hA hd hE h
 ·rename_i k hk
  split at h
  ·rename_i hok
   rw [Bool.and_eq_true] at hok
   have hP:=Plan.of hok.1
   obtain ⟨hks,ht⟩:=Qm.of hok.2
   have hs:=HX hty hC hA hd hE h
   rw [GG hks] at hs
   have:=qK (Q:=fun e a' w'=>e=.normal∧∃ st',K st'=some r∧OA w0 Z0 m0 H0 ds st' a' w') (f2:=ops.size-k) hP hks ht (fun e a w he h=>absurd h.1 he)
    (fun L a w hsz hL hcl ⟨_,st',h1,hd',Z',m',hA',hE'⟩=>X5 hP ht (ops.size-k) k L a w (by omega) (Nat.le_refl _) hsz hL hcl (HA hty hC _ st' a w Z' m' hA' hd' hE' h1))
    k (Array.replicate k false) (Array.replicate ops.size false) a _ (by simp) (by simp) (fun j hj=>by rw [EV,EV]) (fun j _ _=>EV _ _) (fun i j _ _ hL=>by rw [EV] at hL;cases hL) hs
   rw [show k+(ops.size-k)=ops.size by omega] at this
   exact this
  ·cases h
end
end
end Go.Proofs.YtlefbocihikaoaaGreat.R
