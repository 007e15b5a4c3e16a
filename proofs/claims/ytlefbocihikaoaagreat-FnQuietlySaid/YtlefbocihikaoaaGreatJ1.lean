/-
 The own walk and what it shows,part 1 of 10.
-/
import Derived.Calls
import Derived.Orders
import Derived.Below
import Derived.Laws.Sem
import Derived.Laws.Cells
set_option linter.unusedVariables false
set_option linter.unusedSimpArgs false
set_option exponentiation.threshold 30000
namespace Go.Proofs.YtlefbocihikaoaaGreat.R
open Go
noncomputable section
inductive F where
 | bool (b:Bool)
 | int (k:IntKind) (n:Int)
 | str (s:ByteArray)
 | sl (n:Nat) (g:Nat→F)
  /-- a slice that has no room, if it has no elements -/
 | cl (n:Nat) (g:Nat→F)
 | agg (cs:List F)
 | tup (vs:List F)
def F.cells:F→List F
 | .agg cs=>cs
 | x=>[x]
inductive U where
 | f (x:F)
 | agg (cs:List U)
 | tup (vs:List U)
 | hs (o gen off len:Nat)
 | hp (o off:Nat)
 | ep (o gen i off:Nat)
 | va (cs:List F)
 | nilp
 | nils
 | fn (f:FuncId) (cap:List U)
 | nilfn
 | undef
 | bad
def U.cells:U→List U
 | .agg cs=>cs
 | .f (.agg cs)=>cs.map .f
 | x=>[x]
inductive HO where
 | dead
 | free
 | box (cs:List U)
 | arr (sz n:Nat) (g:Nat→F)
structure St where
 tmps:List U
 heap:List HO
inductive UK where
 | bool | int (k:IntKind) | str
 | slice (e:TypeId) | struct (fs:List (Nat × TypeId)) | array (n:Nat) (e:TypeId) | ptr (e:TypeId)
 | other
structure TI where
 uk:UK
 size:Nat
 bytes:Nat
 zero:List Value
def MD:TypeDesc→UK
 | .bool=>.bool
 | .int k=>.int k
 | .string=>.str
 | .slice e=>.slice e
 | .struct fs=>.struct (fs.toList.map fun f=>(f.offset,f.type))
 | .array n e=>.array n e
 | .pointer e=>.ptr e
 | _=>.other
def It (P:Program) (t:TypeId):Option TI :=
 match P.underlying t,P.info? t with
 | some d,some i=>match i.zero with
  | some z=>some ⟨MD d,i.size,i.bytes,z.cells.toList⟩
  | none=>none
 | _,_=>none
def TI.isAgg (ti:TI):Bool:=match ti.uk with | .struct _ | .array _ _=>true | _=>false
def cv:Value→U
 | .bool b=>.f (.bool b)
 | .int k n=>.f (.int k n)
 | .string s=>.f (.str s)
 | .slice none 0 0=>.nils
 | .pointer none=>.nilp
 | .nilFunc=>.nilfn
 | _=>.bad
def St.ev (st:St):Operand→U
 | .tmp t=>st.tmps.getD t .bad
 | .const v=>cv v
 | .func f=>.fn f []
 | .global _=>.bad
def St.put (st:St) (d:Option Tmp) (u:U):St :=
 match d with
 | some d=>{ st with tmps:=st.tmps.set d u }
 | none=>st
def St.new (st:St) (slot:Option Nat) (ob:HO):Nat × St :=
 match slot with
 | some k=>(k,{ st with heap:=st.heap.set k ob })
 | none=>(st.heap.length,{ st with heap:=st.heap++[ob] })
def F.dflt:F:=.bool false
def Aj (l:List F) (i:Nat):F:=l.getD i .dflt
def B3 (off:Nat) (g:Nat→F):Nat→F:=match off with
 | 0=>g
 | o+1=>fun j=>g (o+1+j)
theorem Mc (off:Nat) (g:Nat→F) (j:Nat):B3 off g j=g (off+j):=by
 cases off with
 | zero=>simp [B3]
 | succ o=>rfl
mutual
def toF (H:List HO):U→Option F
 | .f x=>some x
 | .agg us=>(Bb H us).map .agg
 | .tup us=>(Bb H us).map .tup
 | .nils=>some (.sl 0 fun _=>.bool false)
 | .hs o gen off len=>match H[o]? with
  | some (.arr _ n g)=>if gen=n then some (.sl len (B3 off g)) else none
  | _=>none
 | _=>none
def Bb (H:List HO):List U→Option (List F)
 | []=>some []
 | u :: us=>match toF H u,Bb H us with
  | some x,some xs=>some (x :: xs)
  | _,_=>none
end
def AC {ρ:Type} (b:Bool) (x y:Option ρ):Option ρ:=cond b x y
mutual
def Jh {ρ:Type} (H:List HO):U→(F→Option ρ)→Option ρ
 | .f x,K=>K x
 | .agg us,K=>GT H us fun xs=>K (.agg xs)
 | .tup us,K=>GT H us fun xs=>K (.tup xs)
 | .nils,K=>K (.sl 0 fun _=>.bool false)
 | .hs o gen off len,K=>match H[o]? with
  | some (.arr _ n g)=>AC (decide (gen=n)) (K (.sl len (B3 off g))) none
  | _=>none
 | _,_=>none
def GT {ρ:Type} (H:List HO):List U→(List F→Option ρ)→Option ρ
 | [],K=>K []
 | u :: us,K=>Jh H u fun x=>GT H us fun xs=>K (x :: xs)
end
mutual
theorem eV {ρ:Type} {H:List HO} {r:ρ}:∀ (u:U) (K:F→Option ρ),Jh H u K=some r→∃ x,toF H u=some x∧K x=some r
 | .f x,K,h=>⟨x,rfl,h⟩
 | .agg us,K,h=>by
  obtain ⟨xs,h1,h2⟩:=B0 us _ h
  exact ⟨.agg xs,by simp only [toF,h1,Option.map_some],h2⟩
 | .tup us,K,h=>by
  obtain ⟨xs,h1,h2⟩:=B0 us _ h
  exact ⟨.tup xs,by simp only [toF,h1,Option.map_some],h2⟩
 | .nils,K,h=>⟨_,rfl,h⟩
 | .hs o gen off len,K,h=>by
  simp only [Jh] at h
  split at h
  ·rename_i sz n g he
   by_cases hg:gen=n
   ·rw [decide_eq_true hg] at h
    exact ⟨_,by simp only [toF,he,if_pos hg],h⟩
   ·rw [decide_eq_false hg] at h;cases h
  ·cases h
 | .hp _ _,K,h=>by simp only [Jh] at h;cases h
 | .ep _ _ _ _,K,h=>by simp only [Jh] at h;cases h
 | .va _,K,h=>by simp only [Jh] at h;cases h
 | .nilp,K,h=>by simp only [Jh] at h;cases h
 | .fn _ _,K,h=>by simp only [Jh] at h;cases h
 | .nilfn,K,h=>by simp only [Jh] at h;cases h
 | .undef,K,h=>by simp only [Jh] at h;cases h
 | .bad,K,h=>by simp only [Jh] at h;cases h
theorem B0 {ρ:Type} {H:List HO} {r:ρ}:∀ (us:List U) (K:List F→Option ρ),GT H us K=some r→∃ xs,Bb H us=some xs∧K xs=some r
 | [],K,h=>⟨[],rfl,h⟩
 | u :: us,K,h=>by
  obtain ⟨x,h1,h2⟩:=eV u _ h
  obtain ⟨xs,h3,h4⟩:=B0 us _ h2
  exact ⟨x :: xs,by simp only [Bb,h1,h3],h4⟩
end
mutual
def Cp:U→List Nat
 | .agg us=>As us
 | .tup us=>As us
 | .hs o _ _ _=>[o]
 | _=>[]
def As:List U→List Nat
 | []=>[]
 | u :: us=>Cp u++As us
end
mutual
def Hz:F→Bool
 | .bool _ | .int _ _ | .str _=>true
 | .sl _ _=>false
 | .cl _ _=>false
 | .agg cs=>Ko cs
 | .tup cs=>Ko cs
def Ko:List F→Bool
 | []=>true
 | x :: xs=>Hz x&&Ko xs
end
def Be:F→Bool
 | .bool _ | .int _ _ | .str _ | .sl _ _ | .cl _ _=>true
 | _=>false
def KW:U→Bool
 | .f x=>Be x
 | .agg _ | .tup _ | .undef | .bad=>false
 | _=>true
def Bh (H:List HO):List Nat→List HO
 | []=>H
 | o :: os=>Bh (H.set o .dead) os
inductive Sp where
 | none
 | pure (pre:List F→Bool) (res:List F→F)
 | shared (pre:List U→List HO→Bool) (res:List U→List HO→U × List HO)
  /-- a method of a box that is lent: by the box's fields and the arguments, the answer and the fields -/
 | ptr (pre:List F→List F→Bool) (res:List F→List F→F × List F)
  /-- a new box: its fields -/
 | new (pre:List F→Bool) (res:List F→List F)
  /-- the answer holds at most one slice, and that is the caller's own: told by `Bv` -/
 | own (pre:List F→Bool) (c:List F→Bool) (r1 r2:List F→F)
  /-- the same, and data beside it, where the condition holds; where not, nothing but Ko -/
 | ownd (pre:List F→Bool) (c:List F→Bool) (r1 r2:List F→F)
  /-- writes into a slice that is lent, anywhere among the arguments (its object is told as 0); or with no slice at all -/
 | lent (sz:Nat) (pre:List U→Nat→(Nat→F)→Bool) (res:List U→Nat→(Nat→F)→F × (Nat→F)) (pre0:List F→Bool) (res0:List F→F)
  /-- reads a slice that is lent, the second argument; the answer is data, and nothing of that slice -/
 | lentd (sz:Nat) (pre:List F→Nat→(Nat→F)→Bool) (res:List F→Nat→(Nat→F)→F)
  /-- writes into a slice that is lent: by its length, elements and the other arguments, the answer and the elements -/
 | arrw (sz:Nat) (pre:Nat→(Nat→F)→List F→Bool) (res:Nat→(Nat→F)→List F→F × (Nat→F))
abbrev Env:=FuncId→Sp
theorem AF {ρ:Type} (x y:Option ρ):AC true x y=x:=rfl
theorem AJ {ρ:Type} (x y:Option ρ):AC false x y=y:=rfl
theorem AI {ρ:Type} {b:Bool} {x:Option ρ} {r:ρ} (h:AC b x Option.none=some r):b=true∧x=some r:=by
 cases b with
 | true=>exact ⟨rfl,h⟩
 | false=>cases h
def ZP:F→Bool | .int .u8 _=>true | _=>false
def Gg (n:Nat) (g:Nat→F):ByteArray :=
 ⟨((List.range n).map fun i=>match g i with | .int .u8 b=>UInt8.ofNat b.toNat | _=>0).toArray⟩
theorem Wu:∃ n:Nat,n=2 ^ 44:=⟨_,rfl⟩
def BC:Nat:=Classical.choose Wu
theorem DL:(BC:Int)=17592186044416:=by
 have h:=Classical.choose_spec Wu
 unfold BC
 rw [h]
 decide
def Jc (cs:List F) (off:Nat):List F→List F
 | []=>cs
 | v :: vs=>Jc (cs.set off v) (off+1) vs
def Jx (cs:List U) (off:Nat):List U→List U
 | []=>cs
 | v :: vs=>Jx (cs.set off v) (off+1) vs
def mkF (agg:Bool) (cs:List F):F:=if agg then .agg cs else cs.headD (.bool false)
def Lp (agg:Bool) (sz:Nat):Nat→List F→List F
 | 0,_=>[]
 | n+1,xs=>mkF agg (xs.take sz) :: Lp agg sz n (xs.drop sz)
theorem Qe (agg:Bool) (sz:Nat):∀ (n:Nat) (xs:List F) (i:Nat),i<n→Aj (Lp agg sz n xs) i=mkF agg ((xs.drop (i*sz)).take sz)
 | 0,_,i,h=>by omega
 | n+1,xs,0,_=>by simp [Lp,Aj]
 | n+1,xs,i+1,h=>by
  have:=Qe agg sz n (xs.drop sz) i (by omega)
  simp only [Lp,Aj,List.getD_cons_succ] at this ⊢
  rw [this,List.drop_drop]
  congr 3
  rw [Nat.add_mul];omega
def mkU (agg:Bool) (cs:List U):U:=if agg then .agg cs else cs.headD .bad
def CO:F→Bool | .agg _=>true | _=>false
def Cd:U→Bool | .agg _=>true | .f (.agg _)=>true | _=>false
def B5 (s:ByteArray) (i:Int):Int:=(s.data.toList.getD i.toNat 0).toNat
def Bz (op:BinOp) (k:IntKind) (x y:Int):Int :=
 let a:=BitVec.ofInt k.bits x
 let b:=BitVec.ofInt k.bits y
 match op with
 | .and=>k.wrap (a &&& b).toNat
 | .or=>k.wrap (a ||| b).toNat
 | .xor=>k.wrap (a ^^^ b).toNat
 | _=>k.wrap (a &&& ~~~b).toNat
def partF (P:Program) (t:TypeId) (xs:List F) (off:Nat):List F:=(xs.drop off).take (P.cellsOf t)
def nZ (P:Program) (E:TypeId→List F→List F→Option Bool):List Field→List F→List F→Option Bool
 | [],_,_=>some true
 | f :: fs,xs,ys =>
  if f.name == "_" || decide (xs.length < f.offset + P.cellsOf f.type) || decide (ys.length < f.offset + P.cellsOf f.type) then none else
  match E f.type (partF P f.type xs f.offset) (partF P f.type ys f.offset),nZ P E fs xs ys with
  | some a,some b=>some (a&&b)
  | _,_=>none
def eqV (P:Program):Nat→TypeId→List F→List F→Option Bool
 | 0,_,_,_=>none
 | d+1,t,xs,ys=>match P.underlying t,xs,ys with
  | some .bool,[.bool a],[.bool b]=>some (a==b)
  | some (.int _),[.int k a],[.int k' b]=>if k=k' then some (a==b) else none
  | some .string,[.str a],[.str b]=>some (a==b)
  | some (.struct fs),xs,ys=>if P.stoodInHeld t || xs.length != P.cellsOf t || ys.length != P.cellsOf t then none else nZ P (eqV P d) fs.toList xs ys
  | _,_,_=>none
def Ex:F→Int | .int _ n=>n | _=>0
def boolOf:F→Bool | .bool b=>b | _=>false
def strOf:F→ByteArray | .str s=>s | _=>⟨#[]⟩
def lenOf:F→Nat | .sl n _=>n | .cl n _=>n | _=>0
def elOf:F→Nat→F | .sl _ g=>g | .cl _ g=>g | _=>fun _=>.dflt
def slV:F→F | .cl n g=>.cl n g | x=>.sl (lenOf x) (elOf x)
def okV:Value→F→Bool
 | .int k _,.int k' _=>decide (k=k')
 | .bool _,.bool _=>true
 | .string _,.str _=>true
 | .slice _ _ _,.sl _ _=>true
 | .slice _ _ _,.cl _ _=>true
 | _,_=>false
def coV:Value→F→F
 | .int k _,x=>.int k (Ex x)
 | .bool _,x=>.bool (boolOf x)
 | .string _,x=>.str (strOf x)
 | .slice _ _ _,x=>slV x
 | _,x=>x
theorem coV_eq {z:Value} {x:F} (h:okV z x=true):coV z x=x:=by
 unfold okV at h
 split at h
 ·have:=of_decide_eq_true h;subst this;rfl
 ·rfl
 ·rfl
 ·rfl
 ·rfl
 ·cases h
def Mb:List Value→List F→Bool
 | [],_=>true
 | z :: zs,cs=>okV z (cs.headD .dflt)&&Mb zs cs.tail
def K6:List Value→List F→List F
 | [],_=>[]
 | z :: zs,cs=>coV z (cs.headD .dflt) :: K6 zs cs.tail
theorem Ln:∀ (zs:List Value) (cs:List F),zs.length≤cs.length→Mb zs cs=true→K6 zs cs=cs.take zs.length
 | [],cs,_,_=>by simp [K6]
 | z :: zs,[],h,_=>by simp at h
 | z :: zs,c :: cs,h,ho=>by
  simp only [Mb,Bool.and_eq_true,List.headD_cons,List.tail_cons] at ho
  simp only [K6,List.headD_cons,List.tail_cons,List.length_cons,List.take_succ_cons]
  rw [coV_eq ho.1,Ln zs cs (by simpa using h) ho.2]
mutual
def Q8:U→List Nat
 | .agg us=>Dw us
 | .tup us=>Dw us
 | .fn _ us=>Dw us
 | .hs o _ _ _=>[o]
 | .hp o _=>[o]
 | .ep o _ _ _=>[o]
 | _=>[]
def Dw:List U→List Nat
 | []=>[]
 | u :: us=>Q8 u++Dw us
end
def idx:List Nat→Nat→Nat
 | [],_=>0
 | x :: xs,o=>if Nat.beq x o then 0 else idx xs o+1
def Ji:List Nat→Nat→Bool
 | [],_=>false
 | x :: xs,o=>Nat.beq x o || Ji xs o
mutual
def renU (ks:List Nat):U→U
 | .agg us=>.agg (D7 ks us)
 | .tup us=>.tup (D7 ks us)
 | .fn f us=>.fn f (D7 ks us)
 | .hs o g f l=>.hs (idx ks o) g f l
 | .hp o f=>.hp (idx ks o) f
 | .ep o g i f=>.ep (idx ks o) g i f
 | .f x=>.f x
 | .va cs=>.va cs
 | .nilp=>.nilp
 | .nils=>.nils
 | .nilfn=>.nilfn
 | .undef=>.undef
 | .bad=>.bad
def D7 (ks:List Nat):List U→List U
 | []=>[]
 | u :: us=>renU ks u :: D7 ks us
end
mutual
def Gp:F→Bool
 | .bool _ | .int _ _ | .str _=>true
 | .sl n _=>Nat.beq n 0
 | .cl n _=>Nat.beq n 0
 | .agg cs=>S8 cs
 | .tup _=>false
def S8:List F→Bool
 | []=>true
 | x :: xs=>Gp x&&S8 xs
end
section
variable {ρ:Type}
def HT (ti:TI) (u:U) (st:St) (K:U→St→Option ρ):Option ρ :=
 match u with
 | .hp o off=>match st.heap[o]? with
  | some (.box cs)=>AC (decide (off+ti.size≤cs.length)) (AC (ti.isAgg || ti.size==1) (K (mkU ti.isAgg ((cs.drop off).take ti.size)) st) none) none
  | _=>none
 | .va cs=>AC (decide (ti.size≤cs.length)) (AC (ti.isAgg || ti.size==1) (AC (ti.zero.length==ti.size&&Mb ti.zero cs) (K (.f (mkF ti.isAgg (K6 ti.zero cs))) st) none) none) none
 | .ep o gen i off=>match st.heap[o]? with
  | some (.arr sz n g) =>
   AC (decide (gen=n)) (AC (decide (i<n)) (AC (decide (off+ti.size≤sz)) (AC (decide ((g i).cells.length=sz)) (AC (ti.isAgg || ti.size==1)
    (AC (ti.zero.length==ti.size&&Mb ti.zero ((g i).cells.drop off)) (K (.f (mkF ti.isAgg (K6 ti.zero ((g i).cells.drop off)))) st) none) none) none) none) none) none
  | _=>none
 | _=>none
def putCells (x:F) (off:Nat) (xs:List F):F:=match x with
 | .agg cs=>.agg (Jc cs off xs)
 | _=>xs.headD .dflt
def WQ (ag whole:Bool) (x:F) (off:Nat) (xs:List F):F:=match whole with
 | true=>mkF ag xs
 | false=>putCells x off xs
def Hp (ti:TI) (u x:U) (st:St) (K:U→St→Option ρ):Option ρ :=
 match u with
 | .hp o off=>match st.heap[o]? with
  | some (.box cs)=>AC (decide (off+ti.size≤cs.length)) (AC (decide (x.cells.length=ti.size)) (AC (x.cells.all KW) (K .undef { st with heap:=st.heap.set o (.box (Jx cs off x.cells)) }) none) none) none
  | _=>none
 | .ep o gen i off=>match st.heap[o]?,Bb [] x.cells with
  | some (.arr sz n g),some xs =>
   AC (decide (gen=n)) (AC (decide (i<n)) (AC (decide (off+ti.size≤sz)) (AC (decide ((g i).cells.length=sz)) (AC (decide (xs.length=ti.size)) (AC ((CO (g i) || (sz==1&&ti.size==1))&&xs.all Be)
    (K .undef { st with heap:=st.heap.set o (.arr sz n fun j=>if j=i then WQ ti.isAgg (Nat.beq ti.size sz&&(ti.isAgg || Nat.beq sz 1)) (g i) off xs else g j) }) none) none) none) none) none) none
  | _,_=>none
 | _=>none
def DU (ty:TypeId→Option TI) (t:TypeId) (x ix:U) (st:St) (K:U→St→Option ρ):Option ρ :=
 match ty t,ix with
 | some ti,.f (.int _ i) =>
  match ti.uk with
  | .slice e=>match ty e,x with
   | some te,.f (.sl n g) =>
    AC (decide (0≤i)) (AC (decide (i<n)) (AC (decide ((g i.toNat).cells.length=te.size)) (K (.va (g i.toNat).cells) st) none) none) none
   | some te,.f (.cl n g) =>
    AC (decide (0≤i)) (AC (decide (i<n)) (AC (decide ((g i.toNat).cells.length=te.size)) (K (.va (g i.toNat).cells) st) none) none) none
   | some te,.hs o gen off len=>match st.heap[o]? with
    | some (.arr sz n _) =>
     AC (decide (gen=n)) (AC (decide (0≤i)) (AC (decide (i<len)) (AC (decide (sz=te.size)) (K (.ep o gen (off+i.toNat) 0) st) none) none) none) none
    | _=>none
   | _,_=>none
  | .array n e=>match ty e,x with
   | some te,.hp o off=>match st.heap[o]? with
    | some (.box _)=>AC (decide (0≤i)) (AC (decide (i<n)) (K (.hp o (off+i.toNat*te.size)) st) none) none
    | _=>none
   | some te,.va cs=>AC (decide (0≤i)) (AC (decide (i<n)) (AC (decide (i.toNat*te.size<cs.length)) (K (.va (cs.drop (i.toNat*te.size))) st) none) none) none
   | _,_=>none
  | _=>none
 | _,_=>none
def DV (ty:TypeId→Option TI) (s:TypeId) (x:U) (f:Nat) (st:St) (K:U→St→Option ρ):Option ρ :=
 match ty s with
 | some ti=>match ti.uk with
  | .struct fs=>match fs[f]? with
   | some (off,ft)=>match ty ft with
    | some tf=>AC (tf.size != 0) (match x with
     | .hp o k=>match st.heap[o]? with
      | some (.box _)=>K (.hp o (k+off)) st
      | _=>none
     | .va cs=>AC (decide (off<cs.length)) (K (.va (cs.drop off)) st) none
     | .ep o gen i k=>match st.heap[o]? with
      | some (.arr _ n _)=>AC (decide (gen=n)) (K (.ep o gen i (k+off)) st) none
      | _=>none
     | _=>none) none
    | none=>none
   | none=>none
  | _=>none
 | none=>none
def bnd:Option U→Int→Option Int
 | none,d=>some d
 | some (.f (.int _ i)),_=>some i
 | _,_=>none
def Hq (ty:TypeId→Option TI) (t:TypeId) (x:U) (lo hi mx:Option U) (st:St) (K:U→St→Option ρ):Option ρ :=
 match ty t with
 | none=>none
 | some ti =>
 match ti.uk,x with
 | .str,.f (.str s)=>match mx,bnd lo 0,bnd hi s.size with
  | none,some l,some h=>AC (decide (0≤l)) (AC (decide (l≤h)) (AC (decide (h≤s.size)) (K (.f (.str (s.extract l.toNat h.toNat))) st) none) none) none
  | _,_,_=>none
 | .slice e,.f (.sl n g)=>match ty e,mx,bnd lo 0,bnd hi n with
  | some te,none,some l,some h=>AC (decide (0≤l)) (AC (decide (l≤h)) (AC (decide (h≤n)) (AC (decide ((g l.toNat).cells.length=te.size) || decide (l=h) || decide (l=0))
    (K (.f (.sl (h.toNat-l.toNat) fun j=>g (l.toNat+j))) st) none) none) none) none
  | some _,some (.f (.int _ 0)),some l,some h=>AC hi.isSome (AC (decide (l=0)) (AC (decide (h=0)) (K .nils st) none) none) none
  | _,_,_,_=>none
 | .slice e,.hs o gen off len=>match st.heap[o]?,ty e with
  | some (.arr sz n _),some te=>AC (decide (gen=n)) (AC (decide (sz=te.size)) (match mx,bnd lo 0,bnd hi len with
   | none,some l,some h=>AC (decide (0≤l)) (AC (decide (l≤h)) (AC (decide (h≤len)) (K (.hs o gen (off+l.toNat) (h.toNat-l.toNat)) st) none) none) none
   | some (.f (.int _ 0)),some l,some h=>AC hi.isSome (AC (decide (l=0)) (AC (decide (h=0)) (K .nils st) none) none) none
   | _,_,_=>none) none) none
  | _,_=>none
 | .slice e,.nils=>match ty e,mx,bnd lo 0,bnd hi 0 with
  | some _,none,some l,some h=>AC (decide (l=0)) (AC (decide (h=0)) (K .nils st) none) none
  | some _,some (.f (.int _ 0)),some l,some h=>AC hi.isSome (AC (decide (l=0)) (AC (decide (h=0)) (K .nils st) none) none) none
  | _,_,_,_=>none
 | _,_=>none
def XC (ag:Bool) (z:F):Bool:=z.cells.all Be&&(ag || Be z)
def VO (te:TI):Option F:=(Bb [] (te.zero.map cv)).map (mkF te.isAgg)
def KJ (ty:TypeId→Option TI) (slot:Option Nat) (t:TypeId) (l c:U) (st:St) (K:U→St→Option ρ):Option ρ :=
 match ty t,l,c with
 | some ti,.f (.int _ l),.f (.int _ c)=>match ti.uk with
  | .slice e=>match ty e with
   | some te=>match VO te with
    | some z =>
     AC (te.size != 0&&te.zero.length==te.size&&(te.isAgg || te.size==1)&&XC te.isAgg z) (AC (decide (0≤l)) (AC (decide (l≤c)) (AC (decide (c*(te.bytes+1)≤BC))
      (K (.hs (st.new slot .dead).1 l.toNat 0 l.toNat) (st.new slot (.arr te.size l.toNat fun _=>z)).2) none) none) none) none
    | none=>none
   | none=>none
  | _=>none
 | _,_,_=>none
def Il (H:List HO):U→Option (Nat × (Nat→F))
 | .f (.sl n g)=>some (n,g)
 | .f (.str s)=>some (s.size,fun i=>.int .u8 (B5 s i))
 | .hs o gen off len=>match H[o]? with
  | some (.arr _ n g)=>if gen=n then some (len,B3 off g) else none
  | _=>none
 | .nils=>some (0,fun _=>.dflt)
 | _=>none
def KP (H:List HO) (x:U) (K:Nat→(Nat→F)→Option ρ):Option ρ:=match x with
 | .f (.sl n g)=>K n g
 | .hs o gen off len=>match H[o]? with
  | some (.arr _ n g)=>AC (decide (gen=n)) (K len (B3 off g)) none
  | _=>none
 | .nils=>K 0 fun _=>.dflt
 | _=>none
theorem Xo {H:List HO} {x:U} {K:Nat→(Nat→F)→Option ρ} {r:ρ} (h:KP H x K=some r):∃ n g,Il H x=some (n,g)∧(∀ s,x=.f (.str s)→False)∧K n g=some r:=by
 unfold KP at h
 split at h
 ·exact ⟨_,_,rfl,fun s e=>(by cases e),h⟩
 ·split at h
  ·rename_i he
   replace h:=AI h;obtain ⟨h1,h⟩:=h
   exact ⟨_,_,by simp only [Il,he,if_pos (of_decide_eq_true h1)],fun s e=>(by cases e),h⟩
  ·cases h
 ·exact ⟨_,_,rfl,fun s e=>(by cases e),h⟩
 ·cases h
def DP (te tj:TI) (H:List HO) (x:U):Option (Nat × (Nat→F)) :=
 match tj.uk,x with
 | .int _,.f (.int _ m)=>if 0≤m then (VO te).bind fun z=>if XC te.isAgg z then some (m.toNat,fun _=>z) else none else none
 | .int _,_=>none
 | _,_=>Il H x
def one (m:Nat) (g:Nat→F):Nat→F:=match m with
 | 1=>fun _=>g 0
 | _=>g
def Ed (te tj:TI) (H:List HO) (x:U) (K:Nat→(Nat→F)→Option ρ):Option ρ:=match x with
 | .hs o gen off len=>match tj.uk with
  | .int _=>none
  | _=>match H[o]? with
   | some (.arr _ n g)=>AC (decide (gen=n)) (K len (B3 off g)) none
   | _=>none
 | x=>match DP te tj H x with
  | none=>none
  | some (m,g)=>K m g
theorem KZ {te tj:TI} {H:List HO} {x:U} {K:Nat→(Nat→F)→Option ρ} {r:ρ} (h:Ed te tj H x K=some r):∃ m g,DP te tj H x=some (m,g)∧K m g=some r:=by
 unfold Ed at h
 split at h
 ·rename_i o gen off len
  split at h
  ·cases h
  ·rename_i hk
   split at h
   ·rename_i sz n g ho
    replace h:=AI h;obtain ⟨h1,h⟩:=h
    refine ⟨len,B3 off g,?_,h⟩
    have e:DP te tj H (.hs o gen off len)=Il H (.hs o gen off len):=by
     unfold DP
     cases hu:tj.uk <;> first | rfl | exact absurd hu (hk _)
    rw [e]
    simp only [Il,ho,if_pos (of_decide_eq_true h1)]
   ·cases h
 ·split at h
  ·cases h
  ·rename_i m g he
   exact ⟨m,g,he,h⟩
theorem Tu {te tj:TI} {H:List HO} {x:U} {m:Nat} {g:Nat→F} (h:DP te tj H x=some (m,g)) (K:Nat→(Nat→F)→Option ρ):Ed te tj H x K=K m g:=by
 unfold Ed
 split
 ·rename_i o gen off len
  split
  ·rename_i k hk
   unfold DP at h
   rw [hk] at h
   cases h
  ·rename_i hk
   have e:DP te tj H (.hs o gen off len)=Il H (.hs o gen off len):=by
    unfold DP
    cases hu:tj.uk <;> first | rfl | exact absurd hu (hk _)
   rw [e] at h
   simp only [Il] at h
   split at h
   ·rename_i sz n g' ho
    by_cases hg:gen=n
    ·rw [if_pos hg] at h
     cases h
     simp only [decide_eq_true hg,AF]
    ·rw [if_neg hg] at h;cases h
   ·cases h
 ·rw [h]
theorem Qh {α β:Type} (b:Bool) (x:Option α) (f:α→Option β):(AC b x none).bind f=AC b (x.bind f) none:=by cases b <;> rfl
theorem Ql {α β:Type} {te tj:TI} {H:List HO} {x:U} (K:Nat→(Nat→F)→Option α) (f:α→Option β):(Ed te tj H x K).bind f=Ed te tj H x fun m g=>(K m g).bind f:=by
 unfold Ed
 split
 ·split
  ·rfl
  ·split
   ·exact Qh _ _ f
   ·rfl
 ·split <;> rfl
def Gc (ty:TypeId→Option TI) (slot:Option Nat) (ts tx:TypeId) (s x:U) (st:St) (K:U→St→Option ρ):Option ρ :=
 match ty ts,ty tx with
 | some ti,some tj=>match ti.uk with
  | .slice e=>match ty e with
   | some te =>
    Ed te tj st.heap x fun m g' =>
     AC (te.size != 0&&te.zero.length==te.size&&(te.isAgg || te.size==1)&&decide (te.bytes≤65536)) (AC (decide ((g' 0).cells.length=te.size) || decide (m=0)) (match s with
     | .nils=>AC (decide (m=0)) (K .nils st) (AC (decide (((m:Nat):Int)*(te.bytes+1)≤BC))
       (K (.hs (st.new slot .dead).1 m 0 m) (st.new slot (.arr te.size m (one m g'))).2) none)
     | .f (.cl n0 _)=>AC (decide (n0=0)) (AC (decide (m=0)) (K .nils st) (AC (decide (((m:Nat):Int)*(te.bytes+1)≤BC))
       (K (.hs (st.new slot .dead).1 m 0 m) (st.new slot (.arr te.size m (one m g'))).2) none)) none
     | .hs o gen off len=>match st.heap[o]? with
      | some (.arr sz n g)=>AC slot.isNone (AC (decide (gen=n)) (AC (decide (off=0)) (AC (decide (len=n)) (AC (decide (sz=te.size)) (AC (decide (((n+m:Nat):Int)*(te.bytes+1)≤BC))
        (K (.hs o (n+m) 0 (n+m)) { st with heap:=st.heap.set o (.arr sz (n+m) fun j=>if j<n then g j else one m g' (j-n)) }) none) none) none) none) none) none
      | _=>none
     | _=>none) none) none
   | none=>none
  | _=>none
 | _,_=>none
def Eb (ty:TypeId→Option TI) (slot:Option Nat) (src dst:TypeId) (x:U) (st:St) (K:U→St→Option ρ):Option ρ :=
 match ty src,ty dst with
 | some ts,some td=>match ts.uk,td.uk,x with
  | .int _,.int k,.f (.int _ n)=>K (.f (.int k (k.wrap n))) st
  | .str,.str,.f (.str s)=>K (.f (.str s)) st
  | .str,.slice e,.f (.str s)=>match ty e with
   | some te=>match te.uk with
    | .int .u8=>AC (te.size==1) (AC (decide ((s.size:Int)≤BC)) (K (.hs (st.new slot .dead).1 s.size 0 s.size) (st.new slot (.arr 1 s.size fun i=>.int .u8 (B5 s i))).2) none) none
    | _=>none
   | none=>none
  | .slice e,.str,x=>match ty e with
   | some te=>match te.uk with
    | .int .u8=>KP st.heap x fun n g=>AC (te.size==1) (AC ((List.range n).all fun i=>ZP (g i)) (K (.f (.str (Gg n g))) st) none) none
    | _=>none
   | none=>none
  | _,_,_=>none
 | _,_=>none
def OU (P:Program) (op:BinOp) (t:TypeId) (x y:U) (st:St) (K:U→St→Option ρ):Option ρ :=
 match x,y with
 | .f (.int k a),.f (.int k' b) =>
  match op with
  | .shl=>AC (decide (0≤b)) (K (.f (.int k (k.wrap (a*2 ^ (min b.toNat k.bits))))) st) none
  | .shr=>AC (decide (0≤b)) (K (.f (.int k (a.fdiv (2 ^ (min b.toNat k.bits))))) st) none
  | _=>AC (decide (k=k')) (match op with
   | .add=>K (.f (.int k (k.wrap (a+b)))) st
   | .sub=>K (.f (.int k (k.wrap (a-b)))) st
   | .mul=>K (.f (.int k (k.wrap (a*b)))) st
   | .quo=>AC (b != 0) (K (.f (.int k (k.wrap (a.tdiv b)))) st) none
   | .rem=>AC (b != 0) (K (.f (.int k (a.tmod b))) st) none
   | .eql=>K (.f (.bool (a==b))) st
   | .neq=>K (.f (.bool (a != b))) st
   | .lss=>K (.f (.bool (decide (a<b)))) st
   | .leq=>K (.f (.bool (decide (a≤b)))) st
   | .gtr=>K (.f (.bool (decide (a > b)))) st
   | .geq=>K (.f (.bool (decide (a ≥ b)))) st
   | .and | .or | .xor | .andNot=>K (.f (.int k (Bz op k a b))) st
   | _=>none) none
 | .f (.str a),.f (.str b) =>
  match op with
  | .add=>AC (decide (((a.size+b.size:Nat):Int)≤BC)) (K (.f (.str (a++b))) st) none
  | .eql=>K (.f (.bool (a.toList==b.toList))) st
  | .neq=>K (.f (.bool (!(a.toList==b.toList)))) st
  | .lss=>K (.f (.bool (Op.bytesLess a.toList b.toList))) st
  | .leq=>K (.f (.bool (Op.bytesLess a.toList b.toList || a.toList==b.toList))) st
  | .gtr=>K (.f (.bool (!(Op.bytesLess a.toList b.toList || a.toList==b.toList)))) st
  | .geq=>K (.f (.bool (!Op.bytesLess a.toList b.toList))) st
  | _=>none
 | .f (.bool a),.f (.bool b)=>AC (match P.underlying t with | some .bool=>true | _=>false) (match op with
  | .eql=>K (.f (.bool (a==b))) st
  | .neq=>K (.f (.bool (!(a==b)))) st
  | _=>none) none
 | .nilp,.nilp=>AC (match P.underlying t with | some (.pointer _)=>true | _=>false) (match op with
  | .eql=>K (.f (.bool true)) st
  | .neq=>K (.f (.bool false)) st
  | _=>none) none
 | .nilp,.hp o _=>match st.heap[o]? with
  | some (.box _)=>AC (match P.underlying t with | some (.pointer _)=>true | _=>false) (match op with
   | .eql=>K (.f (.bool false)) st
   | .neq=>K (.f (.bool true)) st
   | _=>none) none
  | _=>none
 | .hp o _,.nilp=>match st.heap[o]? with
  | some (.box _)=>AC (match P.underlying t with | some (.pointer _)=>true | _=>false) (match op with
   | .eql=>K (.f (.bool false)) st
   | .neq=>K (.f (.bool true)) st
   | _=>none) none
  | _=>none
 | x,y=>AC (Cd x&&Cd y && !P.eqGuardType P.depth t) (match Bb [] x.cells,Bb [] y.cells with
  | some xs,some ys=>match P.underlying t,eqV P 20 t xs ys with
   | some (.struct _),some b=>(match op with
    | .eql=>K (.f (.bool b)) st
    | .neq=>K (.f (.bool (!b))) st
    | _=>none)
   | _,_=>none
  | _,_=>none) none
def ZR:Operand→Bool
 | .const (.slice none 0 0)=>true
 | _=>false
def Hr (P:Program) (op:BinOp) (t:TypeId) (x:U) (st:St) (K:U→St→Option ρ):Option ρ :=
 match x with
 | .f (.sl n _)=>AC (match P.underlying t with | some (.slice _)=>true | _=>false) (AC (decide (0<n)) (match op with
   | .eql=>K (.f (.bool false)) st
   | .neq=>K (.f (.bool true)) st
   | _=>none) none) none
 | _=>none
def XM (op:UnOp) (x:U) (st:St) (K:U→St→Option ρ):Option ρ :=
 match op,x with
 | .neg,.f (.int k n)=>K (.f (.int k (k.wrap (0-n)))) st
 | .xor,.f (.int k n)=>K (.f (.int k (Bz .xor k (if k.signed then -1 else k.max) n))) st
 | .not,.f (.bool b)=>K (.f (.bool !b)) st
 | _,_=>none
def QI (Bv:Nat→Option (Nat × Nat)) (cells:List U):List (Nat × U)→Option (List U)
 | []=>some cells
 | (i,v) :: rest=>match Bv i with
  | none=>none
  | some (off,size)=>if v.cells.length=size∧off+size≤cells.length∧v.cells.all KW=true then QI Bv (Jx cells off v.cells) rest else none
def J5 (ty:TypeId→Option TI):List (Nat × TypeId)→Option (List (Nat × Nat))
 | []=>some []
 | (off,t) :: fs=>match ty t,J5 ty fs with
  | some ti,some ps=>some ((off,ti.size) :: ps)
  | _,_=>none
def Hu (ty:TypeId→Option TI) (t:TypeId) (parts:List (Nat × U)) (st:St) (K:U→St→Option ρ):Option ρ :=
 match ty t with
 | some ti=>match ti.uk with
  | .struct fs=>match J5 ty fs with
   | some ps=>match QI (ps[·]?) (ti.zero.map cv) parts with
    | some cs=>K (.agg cs) st
    | none=>none
   | none=>none
  | .array _ e=>match ty e with
   | some te=>match QI (fun i=>some (i*te.size,te.size)) (ti.zero.map cv) parts with
    | some cs=>K (.agg cs) st
    | none=>none
   | none=>none
  | _=>none
 | none=>none
def C5 (ty:TypeId→Option TI) (slot:Option Nat) (t:TypeId) (len:Nat) (parts:List (Nat × U)) (st:St) (K:U→St→Option ρ):Option ρ :=
 match ty t with
 | some ti=>match ti.uk with
  | .slice e=>match ty e with
   | some te=>match QI (fun i=>some (i*te.size,te.size)) ((List.replicate len (te.zero.map cv)).flatten) parts with
    | some us=>GT st.heap us fun xs=>AC (te.size != 0&&te.zero.length==te.size&&decide (len*te.size≤2 ^ 24)&&(te.isAgg || te.size==1)&&xs.all Be&&(slot.isNone || (As us).isEmpty))
       (K (.hs (st.new slot .dead).1 len 0 len) ({ st with heap:=Bh st.heap (As us) }.new slot (.arr te.size len (Aj (Lp te.isAgg te.size len xs)))).2) none
    | none=>none
   | none=>none
  | _=>none
 | none=>none
def Ht (ty:TypeId→Option TI) (t:TypeId) (x:U) (f:Nat) (st:St) (K:U→St→Option ρ):Option ρ :=
 match ty t with
 | some ti=>match ti.uk with
  | .struct fs=>match fs[f]? with
   | some (off,ft)=>match ty ft with
    | some tf=>AC (Cd x&&(tf.isAgg || tf.size==1)&&decide (off+tf.size≤x.cells.length)) (K (mkU tf.isAgg ((x.cells.drop off).take tf.size)) st) none
    | none=>none
   | none=>none
  | _=>none
 | none=>none
def Hs (ty:TypeId→Option TI) (t:TypeId) (x ix:U) (st:St) (K:U→St→Option ρ):Option ρ :=
 match ty t,x,ix with
 | some ti,.f (.str s),.f (.int _ i)=>match ti.uk with
  | .str=>AC (decide (0≤i)) (AC (decide (i<s.size)) (K (.f (.int .u8 (B5 s i))) st) none) none
  | _=>none
 | _,_,_=>none
def KC (mx:Bool):Int→List U→IntKind→Option Int
 | a,[],_=>some a
 | a,.f (.int k' b) :: us,k=>if k=k' then KC mx (if mx then (if b > a then b else a) else (if b<a then b else a)) us k else none
 | _,_,_=>none
def BE (xs:List F):HO:=.box (xs.map .f)
/-! An answer whose slice is the caller's own: `.tup []` is no slice, `.tup [sz, slice]` a new one. -/
def lN (b:Nat):F→U
 | .tup []=>.nils
 | .tup [.int _ _,.sl n _]=>.hs b n 0 n
 | x=>.f x
def RA (b:Nat):F→U
 | .agg es=>.agg (es.map (lN b))
 | x=>lN b x
def Cx:List F→List HO
 | []=>[]
 | .tup [.int _ sz,.sl n g] :: es=>.arr sz.toNat n g :: Cx es
 | _ :: es=>Cx es
def DB:List F→List F
 | []=>[]
 | .agg cs :: es=>cs++DB es
 | e :: es=>e :: DB es
def IW (H:List HO) (slot:Option Nat):Nat:=match slot with
 | some k=>k
 | none=>H.length
def DJ (H:List HO) (slot:Option Nat):List HO→List HO
 | [ob]=>match slot with
  | some k=>H.set k ob
  | none=>H++[ob]
 | _=>H
def Bv (H:List HO) (slot:Option Nat):F→U × List HO
 | .tup [e]=>(RA (IW H slot) e,DJ H slot (Cx (DB [e])))
 | .tup es=>(.tup (es.map (RA (IW H slot))),DJ H slot (Cx (DB es)))
 | _=>(.bad,H)
def JF (C:Env) (slot:Option Nat) (f:FuncId) (us:List U) (st:St) (K:U→St→Option ρ):Option ρ :=
 match C f with
 | .none=>none
 | .pure pre res=>GT st.heap us fun xs=>AC (pre xs) (AC (Hz (res xs)) (K (.f (res xs)) st) (AC (slot.isNone || (As us).isEmpty) (K (.f (res xs)) { st with heap:=Bh st.heap (As us) }) none)) none
 | .shared pre res=>AC (slot.isNone&&pre us st.heap) (K (res us st.heap).1 { st with heap:=(res us st.heap).2 }) none
 | .ptr pre res=>match us with
  | .hp o 0 :: us'=>match st.heap[o]? with
   | some (.box cu)=>match Bb [] cu,Bb [] us' with
    | some cs,some xs=>AC (slot.isNone&&pre cs xs) (K (.f (res cs xs).1) { st with heap:=st.heap.set o (BE (res cs xs).2) }) none
    | _,_=>none
   | _=>none
  | _=>none
 | .new pre res=>match Bb [] us with
  | some xs=>AC (slot.isNone&&pre xs) (K (.hp st.heap.length 0) { st with heap:=st.heap++[BE (res xs)] }) none
  | none=>none
 | .ownd pre c r1 r2=>GT st.heap us fun xs=>AC (pre xs) (AC (c xs) (AC (slot.isNone || (As us).isEmpty) (K (Bv (Bh st.heap (As us)) slot (r1 xs)).1 { st with heap:=(Bv (Bh st.heap (As us)) slot (r1 xs)).2 }) none) (K (Bv st.heap slot (r2 xs)).1 { st with heap:=(Bv st.heap slot (r2 xs)).2 })) none
 | .own pre c r1 r2=>GT st.heap us fun xs=>AC (pre xs) (AC (c xs) (K (Bv st.heap slot (r1 xs)).1 { st with heap:=(Bv st.heap slot (r1 xs)).2 }) (K (Bv st.heap slot (r2 xs)).1 { st with heap:=(Bv st.heap slot (r2 xs)).2 })) none
 | .lent sz0 pre res pre0 res0=>match Dw us with
  | [o]=>match st.heap[o]? with
   | some (.arr sz n g)=>AC (slot.isNone&&Nat.beq sz sz0) (AC (pre (D7 [o] us) n g) (K (.f (res (D7 [o] us) n g).1) { st with heap:=st.heap.set o (.arr sz n (res (D7 [o] us) n g).2) }) none) none
   | _=>none
  | []=>match Bb [] us with
   | some xs=>AC (slot.isNone&&pre0 xs) (K (.f (res0 xs)) st) none
   | none=>none
  | _=>none
 | .lentd sz0 pre res=>match us with
  | u0 :: .hs o gen off len :: us'=>match st.heap[o]? with
   | some (.arr sz n g)=>GT [] (u0 :: us') fun xs=>AC (Nat.beq sz sz0&&decide (gen=n)&&decide (off=0)&&decide (len=n)) (AC (pre xs n g) (K (.f (res xs n g)) st) none) none
   | _=>none
  | _=>none
 | .arrw sz0 pre res=>match us with
  | .hs o gen off len :: us'=>match st.heap[o]?,Bb [] us' with
   | some (.arr sz n g),some xs=>AC (slot.isNone&&(Nat.beq sz sz0&&decide (gen=n)&&decide (off=0)&&decide (len=n))) (AC (pre n g xs) (K (.f (res n g xs).1) { st with heap:=st.heap.set o (.arr sz n (res n g xs).2) }) none) none
   | _,_=>none
  | .nils :: us'=>match Bb [] us' with
   | some xs=>AC (slot.isNone&&pre 0 (fun _=>.dflt) xs) (K (.f (res 0 (fun _=>.dflt) xs).1) st) none
   | none=>none
  | .f (.sl n _) :: us'=>match Bb [] us' with
   | some xs=>AC (slot.isNone&&Nat.beq n 0) (AC (pre 0 (fun _=>.dflt) xs) (K (.f (res 0 (fun _=>.dflt) xs).1) st) none) none
   | none=>none
  | _=>none
def Cs (P:Program) (ty:TypeId→Option TI) (C:Env) (slot:Option Nat) (o:Oper) (st:St) (K:U→St→Option ρ):Option ρ :=
 match o.op with
 | .move x | .assign x=>K (st.ev x) st
 | .pick c a b=>match st.ev c with
  | .f (.bool t)=>AC t (K (st.ev a) st) (K (st.ev b) st)
  | _=>none
 | .alloc e=>match ty e with
  | some te=>K (.hp (st.new slot .dead).1 0) (st.new slot (.box (te.zero.map cv))).2
  | none=>none
 | .box _ x=>match st.ev x with
  | .bad | .undef | .tup _ | .f (.tup _)=>none
  | u=>K (.hp (st.new slot .dead).1 0) (st.new slot (.box u.cells)).2
 | .build t parts=>Hu ty t (parts.toList.map fun p=>(p.1,st.ev p.2)) st K
 | .buildSlice t len parts=>C5 ty slot t len (parts.toList.map fun p=>(p.1,st.ev p.2)) st K
 | .load t a=>match ty t with
  | some ti=>HT ti (st.ev a) st K
  | none=>none
 | .store t a x=>match ty t with
  | some ti=>AC slot.isNone (Hp ti (st.ev a) (st.ev x) st K) none
  | none=>none
 | .nilCheck x=>match st.ev x with
  | .hp o k=>match st.heap[o]? with
   | some (.box _)=>K (.hp o k) st
   | _=>none
  | .ep o gen i k=>match st.heap[o]? with
   | some (.arr _ n _)=>AC (decide (gen=n)) (K (.ep o gen i k) st) none
   | _=>none
  | .va cs=>K (.va cs) st
  | .fn f cap=>K (.fn f cap) st
  | _=>none
 | .binOp op t x y _=>match ZR y with
  | true=>Hr P op t (st.ev x) st K
  | false=>OU P op t (st.ev x) (st.ev y) st K
 | .unOp op _ x=>XM op (st.ev x) st K
 | .convert s d x=>Eb ty slot s d (st.ev x) st K
 | .makeFunc (.func f) first captured=>AC (first.size==0) (K (.fn f (captured.toList.map st.ev)) st) none
 | .makeSlice t l c=>KJ ty slot t (st.ev l) (st.ev c) st K
 | .slice t x lo hi mx=>Hq ty t (st.ev x) (lo.map st.ev) (hi.map st.ev) (mx.map st.ev) st K
 | .fieldAddr s x f=>DV ty s (st.ev x) f st K
 | .field t x f=>Ht ty t (st.ev x) f st K
 | .indexAddr t x ix=>DU ty t (st.ev x) (st.ev ix) st K
 | .index t x ix=>Hs ty t (st.ev x) (st.ev ix) st K
 | .extract t i=>match st.ev t with
  | .tup us=>match us[i]? with
   | some u=>K u st
   | none=>none
  | .f (.tup xs)=>match xs[i]? with
   | some x=>K (.f x) st
   | none=>none
  | _=>none
 | .call c=>match c.callee,c.args.toList.map st.ev,c.argTypes.toList with
  | .builtin .len,[x],[t]=>match ty t with
   | some ti=>match ti.uk,x with
    | .str,.f (.str s)=>K (.f (.int .i64 s.size)) st
    | .slice _,.f (.sl n _)=>K (.f (.int .i64 n)) st
    | .slice _,.f (.cl n _)=>K (.f (.int .i64 n)) st
    | .slice _,.hs o gen _ len=>match st.heap[o]? with
     | some (.arr _ n _)=>AC (decide (gen=n)) (K (.f (.int .i64 len)) st) none
     | _=>none
    | .slice _,.nils=>K (.f (.int .i64 0)) st
    | _,_=>none
   | none=>none
  | .builtin .append,[s,x],[ts,tx]=>Gc ty slot ts tx s x st K
  | .builtin .max,.f (.int k a) :: us,_=>match KC true a us k with
   | some r=>K (.f (.int k r)) st
   | none=>none
  | .builtin .min,.f (.int k a) :: us,_=>match KC false a us k with
   | some r=>K (.f (.int k r)) st
   | none=>none
  | .value f,us,_=>match st.ev f with
   | .fn f cap=>JF C slot f (us++cap) st K
   | _=>none
  | _,_,_=>none
 | _=>none
end
end
inductive RepF (w:World) (Z:Nat→Prop):F→Value→Prop
 | bool (b:Bool):RepF w Z (.bool b) (.bool b)
 | int (k:IntKind) (n:Int):RepF w Z (.int k n) (.int k n)
 | str (s:ByteArray):RepF w Z (.str s) (.string s)
 | sl (n:Nat) (g:Nat→F) (A:Option Addr) (c sz:Nat) (a:Addr) (V:Nat→Value) (hc:n≤c)
   (hs:∀ i,i<n→(g i).cells.length=sz) (hk:∀ (i j:Nat) (u:F),i<n→(g i).cells[j]?=some u→Be u=true) (hA:n ≠ 0→A=some a∧Z a.block∧a.spot=none)
   (hV:∀ (i j:Nat) (u:F),i<n→(g i).cells[j]?=some u→w.cell? ⟨a.block,a.off+(i*sz+j),none⟩=some (V (i*sz+j)))
   (hr:∀ (i j:Nat) (u:F),i<n→(g i).cells[j]?=some u→RepF w Z u (V (i*sz+j))) :
   RepF w Z (.sl n g) (.slice A n c)
 | cl (n:Nat) (g:Nat→F) (v:Value) (h:RepF w Z (.sl n g) v) (h0:n=0→∃ A,v=.slice A 0 0):RepF w Z (.cl n g) v
 | agg (cs:List F) (vs:List Value) (hl:cs.length=vs.length) (hr:∀ (j:Nat) (u:F) (v:Value),cs[j]?=some u→vs[j]?=some v→RepF w Z u v):RepF w Z (.agg cs) (.agg vs.toArray)
 | tup (cs:List F) (vs:List Value) (hl:cs.length=vs.length) (hr:∀ (j:Nat) (u:F) (v:Value),cs[j]?=some u→vs[j]?=some v→RepF w Z u v):RepF w Z (.tup cs) (.tuple vs.toArray)
theorem RepF.mono {w w':World} {Z Z':Nat→Prop} (hZ:∀ b,Z b→Z' b) (hw:∀ b,Z b→w'.heap[b]?=w.heap[b]?) {x:F} {v:Value}
  (h:RepF w Z x v):RepF w' Z' x v:=by
 induction h with
 | bool b=>exact .bool b
 | int k n=>exact .int k n
 | str s=>exact .str s
 | sl n g A c sz a V hc hs hk hA hV hr ih =>
  refine .sl n g A c sz a V hc hs hk (fun h0=>⟨(hA h0).1,hZ _ (hA h0).2.1,(hA h0).2.2⟩) (fun i j u hi hu=>?_) ih
  have hz:=(hA (by omega)).2.1
  have:=hV i j u hi hu
  unfold World.cell? at *
  rw [hw _ hz]
  exact this
 | cl n g v h h0 ih=>exact .cl n g v ih h0
 | agg cs vs hl hr ih=>exact .agg cs vs hl ih
 | tup cs vs hl hr ih=>exact .tup cs vs hl ih
theorem RepF.scalar_any {w w':World} {Z Z':Nat→Prop} {x:F} {v:Value} (h:RepF w Z x v):Hz x=true→RepF w' Z' x v:=by
 have key:∀ cs:List F,Ko cs=true→∀ (j:Nat) (u:F),cs[j]?=some u→Hz u=true:=by
  intro cs
  induction cs with
  | nil=>intro _ j u hu;simp at hu
  | cons c cs ih =>
   intro hs j u hu
   simp only [Ko,Bool.and_eq_true] at hs
   cases j with
   | zero=>simp at hu;exact hu ▸ hs.1
   | succ j=>simp at hu;exact ih hs.2 j u hu
 induction h with
 | bool b=>intro _;exact .bool b
 | int k n=>intro _;exact .int k n
 | str s=>intro _;exact .str s
 | sl n g A c sz a V hc hs hk hA hV hr ih=>intro h;simp [Hz] at h
 | cl n g v h h0 ih=>intro h;simp [Hz] at h
 | agg cs vs hl hr ih=>intro h;exact .agg cs vs hl fun j u v hu hv=>ih j u v hu hv (key cs (by simpa [Hz] using h) j u hu)
 | tup cs vs hl hr ih=>intro h;exact .tup cs vs hl fun j u v hu hv=>ih j u v hu hv (key cs (by simpa [Hz] using h) j u hu)
def HO.live:HO→Bool
 | .dead | .free=>false
 | _=>true
def Aw (H:List HO) (o:Nat):Prop:=∃ ob,H[o]?=some ob∧ob.live=true
def known (H:List HO) (o:Nat):Prop:=∃ ob,H[o]?=some ob∧ob ≠ .free
def Az (w:World) (b:Nat):Nat:=match w.heap[b]? with | some (.cells c _ _)=>c.size | _=>0
inductive RepU (w:World) (Z:Nat→Prop) (m:Nat→Nat) (H:List HO):U→Value→Prop
 | f (x:F) (v:Value) (h:RepF w Z x v):RepU w Z m H (.f x) v
 | agg (cs:List U) (vs:List Value) (hl:cs.length=vs.length) (hr:∀ (j:Nat) (u:U) (v:Value),cs[j]?=some u→vs[j]?=some v→RepU w Z m H u v):RepU w Z m H (.agg cs) (.agg vs.toArray)
 | tup (cs:List U) (vs:List Value) (hl:cs.length=vs.length) (hr:∀ (j:Nat) (u:U) (v:Value),cs[j]?=some u→vs[j]?=some v→RepU w Z m H u v):RepU w Z m H (.tup cs) (.tuple vs.toArray)
 | hs (o gen off len:Nat) (v:Value) (h1:v.oneCell'=true) (ho:known H o) (hg:∀ sz n g,H[o]?=some (.arr sz n g)→gen≤n)
   (hv:∀ sz n g,H[o]?=some (.arr sz n g)→gen=n→off+len≤n∧∃ A c,v=.slice A len c∧len≤c∧(c ≠ 0→A=some ⟨m o,off*sz,none⟩)∧(off+c)*sz≤Az w (m o)) :
   RepU w Z m H (.hs o gen off len) v
 | hp (o off:Nat) (v:Value) (h1:v.oneCell'=true) (ho:known H o) (hv:∀ cs,H[o]?=some (.box cs)→v=.pointer (some ⟨m o,off,none⟩)):RepU w Z m H (.hp o off) v
 | ep (o gen i off:Nat) (v:Value) (h1:v.oneCell'=true) (ho:known H o) (hg:∀ sz n g,H[o]?=some (.arr sz n g)→gen≤n)
   (hv:∀ sz n g,H[o]?=some (.arr sz n g)→gen=n→v=.pointer (some ⟨m o,i*sz+off,none⟩)):RepU w Z m H (.ep o gen i off) v
 | va (cs:List F) (a:Addr) (hZ:cs ≠ []→Z a.block∧a.spot=none) (V:Nat→Value) (hV:∀ (j:Nat) (u:F),cs[j]?=some u→w.cell? ⟨a.block,a.off+j,none⟩=some (V j)) (hr:∀ (j:Nat) (u:F),cs[j]?=some u→RepF w Z u (V j)) :
   RepU w Z m H (.va cs) (.pointer (some a))
 | nilp:RepU w Z m H .nilp (.pointer none)
 | nils (A:Option Addr):RepU w Z m H .nils (.slice A 0 0)
 | fn (f:FuncId) (us:List U) (vs:List Value) (hl:us.length=vs.length) (hr:∀ (j:Nat) (u:U) (v:Value),us[j]?=some u→vs[j]?=some v→RepU w Z m H u v):RepU w Z m H (.fn f us) (.func (.func f) #[] vs.toArray)
 | nilfn:RepU w Z m H .nilfn .nilFunc
 | undef:RepU w Z m H .undef Go.undef
 | bad (v:Value):RepU w Z m H .bad v
def Bu (w w':World) (ob:HO) (b:Nat) (ob':HO) (b':Nat):Prop :=
 match ob,ob' with
 | .free,_=>True
 | _,.dead=>True
 | .box cs,.box cs'=>cs'.length=cs.length∧b'=b
 | .arr sz n _,.arr sz' n' _=>sz'=sz∧n≤n'∧(n'=n→b'=b∧Az w' b=Az w b)
 | _,_=>False
structure Ext (w:World) (Z:Nat→Prop) (m:Nat→Nat) (H:List HO) (w':World) (Z':Nat→Prop) (m':Nat→Nat) (H':List HO):Prop where
 os:w'.os=w.os
 tape:w'.tape=w.tape
 output:w'.output=w.output
 size:w.heap.size≤w'.heap.size
 sub:∀ b,Z b→Z' b
 back:∀ b,Z' b→Z b ∨ w.heap.size≤b ∨ ∃ o,Aw H o∧m o=b
 kept:∀ b,Z b→w'.heap[b]?=w.heap[b]?
 rest:∀ b,b<w.heap.size→(∀ o,Aw H o→m o ≠ b)→w'.heap[b]?=w.heap[b]?
 len:H.length≤H'.length
 evol:∀ o ob ob',H[o]?=some ob→H'[o]?=some ob'→Bu w w' ob (m o) ob' (m' o)
 new:∀ o,Aw H' o→(Aw H o∧m' o=m o) ∨ w.heap.size≤m' o
 drawn:w.drawn≤w'.drawn
theorem Bu.refl (w:World) (ob:HO) (b:Nat):Bu w w ob b ob b:=by
 cases ob <;> simp [Bu]
theorem Ext.refl (w:World) (Z:Nat→Prop) (m:Nat→Nat) (H:List HO):Ext w Z m H w Z m H :=
 ⟨rfl,rfl,rfl,Nat.le_refl _,fun _ h=>h,fun _ h=>.inl h,fun _ _=>rfl,fun _ _ _=>rfl,Nat.le_refl _,
  fun o ob ob' h h'=>by rw [h] at h';cases h';exact Bu.refl _ _ _,fun o h=>.inl ⟨h,rfl⟩,Nat.le_refl _⟩
theorem Bu.trans {w w1 w2:World} {a b c:HO} {ba bb bc:Nat} (h:Bu w w1 a ba b bb) (k:Bu w1 w2 b bb c bc):Bu w w2 a ba c bc:=by
 cases a <;> cases b <;> cases c <;> simp_all [Bu]
 obtain ⟨_,h2,h3⟩:=h
 obtain ⟨_,k2,k3⟩:=k
 refine ⟨by omega,fun e=>?_⟩
 obtain ⟨p,q⟩:=h3 (by omega)
 obtain ⟨p',q'⟩:=k3 (by omega)
 exact ⟨by rw [p',p],by rw [← q,← p];exact q'⟩
theorem Bu.known {w w':World} {Z Z':Nat→Prop} {m m':Nat→Nat} {H H':List HO} (hE:Ext w Z m H w' Z' m' H') {o:Nat} (h:known H o):known H' o:=by
 obtain ⟨ob,ho,hn⟩:=h
 have hlt:=(List.getElem?_eq_some_iff.1 ho).1
 have hlt':o<H'.length:=Nat.lt_of_lt_of_le hlt hE.len
 refine ⟨H'[o],List.getElem?_eq_getElem hlt',?_⟩
 have:=hE.evol o ob _ ho (List.getElem?_eq_getElem hlt')
 intro e
 rw [e] at this
 cases ob <;> simp_all [Bu]
theorem Ext.trans {w w1 w2:World} {Z Z1 Z2:Nat→Prop} {m m1 m2:Nat→Nat} {H H1 H2:List HO}
  (h:Ext w Z m H w1 Z1 m1 H1) (k:Ext w1 Z1 m1 H1 w2 Z2 m2 H2):Ext w Z m H w2 Z2 m2 H2:=by
 have hback:∀ o,Aw H1 o→(Aw H o∧m1 o=m o) ∨ w.heap.size≤m1 o:=h.new
 refine ⟨k.os.trans h.os,k.tape.trans h.tape,k.output.trans h.output,Nat.le_trans h.size k.size,fun b hb=>k.sub _ (h.sub _ hb),?_,?_,?_,Nat.le_trans h.len k.len,?_,?_,Nat.le_trans h.drawn k.drawn⟩
 ·intro b hb
  rcases k.back b hb with hb | hb | ⟨o,ho,rfl⟩
  ·exact h.back b hb
  ·exact .inr (.inl (Nat.le_trans h.size hb))
  ·rcases hback o ho with ⟨ho',e⟩ | e
   ·exact .inr (.inr ⟨o,ho',e.symm⟩)
   ·exact .inr (.inl e)
 ·intro b hb
  exact (k.kept b (h.sub _ hb)).trans (h.kept b hb)
 ·intro b hb hm
  refine (k.rest b (Nat.lt_of_lt_of_le hb h.size) fun o ho e=>?_).trans (h.rest b hb hm)
  rcases hback o ho with ⟨ho',e'⟩ | e'
  ·exact hm o ho' (e'.symm.trans e)
  ·omega
 ·intro o ob ob2 ho ho2
  have hlt:o<H.length:=(List.getElem?_eq_some_iff.1 ho).1
  have hlt1:o<H1.length:=Nat.lt_of_lt_of_le hlt h.len
  exact (h.evol o ob H1[o] ho (List.getElem?_eq_getElem hlt1)).trans (k.evol o _ ob2 (List.getElem?_eq_getElem hlt1) ho2)
 ·intro o ho
  rcases k.new o ho with ⟨ho1,e⟩ | e
  ·rcases hback o ho1 with ⟨ho',e'⟩ | e'
   ·exact .inl ⟨ho',e.trans e'⟩
   ·exact .inr (by omega)
  ·exact .inr (Nat.le_trans h.size e)
theorem RepU.mono {w w':World} {Z Z':Nat→Prop} {m m':Nat→Nat} {H H':List HO} (hE:Ext w Z m H w' Z' m' H') {u:U} {v:Value}
  (h:RepU w Z m H u v):RepU w' Z' m' H' u v:=by
 induction h with
 | f x v h=>exact .f x v (h.mono hE.sub hE.kept)
 | agg cs vs hl hr ih=>exact .agg cs vs hl ih
 | tup cs vs hl hr ih=>exact .tup cs vs hl ih
 | hs o gen off len v h1 ho hg hv =>
  have hk':=Bu.known hE ho
  obtain ⟨ob,hob,hnf⟩:=ho
  refine .hs o gen off len v h1 hk' (fun sz n g e=>?_) (fun sz n g e eg=>?_)
  ·have hev:=hE.evol o _ _ hob e
   cases ob with
   | dead=>simp [Bu] at hev
   | free=>exact absurd rfl hnf
   | box cs=>simp [Bu] at hev
   | arr sz1 n1 g1 =>
    simp only [Bu] at hev
    have:=hg _ _ _ hob
    omega
  ·have hev:=hE.evol o _ _ hob e
   cases ob with
   | dead=>simp [Bu] at hev
   | free=>exact absurd rfl hnf
   | box cs=>simp [Bu] at hev
   | arr sz1 n1 g1 =>
    simp only [Bu] at hev
    have hle:=hg _ _ _ hob
    have hn:n=n1:=by omega
    subst hn
    obtain ⟨p,q⟩:=hev.2.2 rfl
    obtain ⟨h1,A,c,h2,h3,h4,h5⟩:=hv _ _ _ hob (by omega)
    rw [← hev.1] at h4 h5
    refine ⟨h1,A,c,h2,h3,fun hc=>?_,?_⟩
    ·rw [p];exact h4 hc
    ·rw [p,q];exact h5
 | hp o off v h1 ho hv =>
  have hk':=Bu.known hE ho
  obtain ⟨ob,hob,hnf⟩:=ho
  refine .hp o off v h1 hk' (fun cs e=>?_)
  have hev:=hE.evol o _ _ hob e
  cases ob with
  | dead=>simp [Bu] at hev
  | free=>exact absurd rfl hnf
  | box cs=>simp only [Bu] at hev;rw [hev.2];exact hv _ hob
  | arr sz1 n1 g1=>simp [Bu] at hev
 | ep o gen i off v h1 ho hg hv =>
  have hk':=Bu.known hE ho
  obtain ⟨ob,hob,hnf⟩:=ho
  refine .ep o gen i off v h1 hk' (fun sz n g e=>?_) (fun sz n g e eg=>?_)
  ·have hev:=hE.evol o _ _ hob e
   cases ob with
   | dead=>simp [Bu] at hev
   | free=>exact absurd rfl hnf
   | box cs=>simp [Bu] at hev
   | arr sz1 n1 g1 =>
    simp only [Bu] at hev
    have:=hg _ _ _ hob
    omega
  ·have hev:=hE.evol o _ _ hob e
   cases ob with
   | dead=>simp [Bu] at hev
   | free=>exact absurd rfl hnf
   | box cs=>simp [Bu] at hev
   | arr sz1 n1 g1 =>
    simp only [Bu] at hev
    have hle:=hg _ _ _ hob
    have hn:n=n1:=by omega
    subst hn
    obtain ⟨p,q⟩:=hev.2.2 rfl
    have:=hv _ _ _ hob (by omega)
    rw [p,hev.1];exact this
 | va cs a hZ V hV hr =>
  refine .va cs a (fun hne=>⟨hE.sub _ (hZ hne).1,(hZ hne).2⟩) V (fun j u hu=>?_) fun j u hu=>(hr j u hu).mono hE.sub hE.kept
  have hne:cs ≠ []:=by rintro rfl;simp at hu
  have:=hV j u hu
  unfold World.cell? at *
  rw [hE.kept _ (hZ hne).1];exact this
 | nilp=>exact .nilp
 | nils A=>exact .nils A
 | fn f us vs hl hr ih=>exact .fn f us vs hl ih
 | nilfn=>exact .nilfn
 | undef=>exact .undef
 | bad v=>exact .bad v
def Hg (w:World) (Z:Nat→Prop) (m:Nat→Nat) (H:List HO) (ob:HO) (b:Nat):Prop :=
 match ob with
 | .dead | .free=>True
 | .box cs=>∃ c el fr,w.heap[b]?=some (.cells c el fr)∧(∀ j,j<c.size→w.frozen? ⟨b,j,none⟩=false)∧c.size=cs.length∧∀ (j:Nat) (u:U),cs[j]?=some u→∃ v,c[j]?=some v∧RepU w Z m H u v
 | .arr sz n g=>sz ≠ 0∧∃ c el fr,w.heap[b]?=some (.cells c el fr)∧(∀ j,j<c.size→w.frozen? ⟨b,j,none⟩=false)∧n*sz≤c.size ∧
   (∀ i,i<n→(g i).cells.length=sz)∧∀ (i j:Nat) (u:F),i<n→(g i).cells[j]?=some u→Be u=true∧∃ v,c[i*sz+j]?=some v∧RepF w Z u v
structure HOK (w:World) (Z:Nat→Prop) (m:Nat→Nat) (H:List HO):Prop where
 zlt:∀ b,Z b→b<w.heap.size
 apart:∀ o,Aw H o→¬ Z (m o)
 inj:∀ o o',Aw H o→Aw H o'→m o=m o'→o=o'
 ob:∀ o ob,H[o]?=some ob→Hg w Z m H ob (m o)
theorem RepF.one {w:World} {Z:Nat→Prop} {x:F} {v:Value} (h:RepF w Z x v) (hx:Be x=true):v.oneCell'=true:=by
 cases h with
 | cl n g _ h h0=>cases h;rfl
 | _=>simp_all [Be,Value.oneCell']
theorem RepU.one {w:World} {Z:Nat→Prop} {m:Nat→Nat} {H:List HO} {u:U} {v:Value} (h:RepU w Z m H u v) (hu:KW u=true):v.oneCell'=true:=by
 cases h with
 | f x v h=>exact h.one hu
 | hs _ _ _ _ _ h1=>exact h1
 | hp _ _ _ h1=>exact h1
 | ep _ _ _ _ _ h1=>exact h1
 | _=>first | rfl | simp [KW] at hu
def wr (c:List Value) (off:Nat):List Value→List Value
 | []=>c
 | v :: vs=>wr (c.set off v) (off+1) vs
theorem II (vs:List Value):∀ (c:List Value) (off:Nat),(wr c off vs).length=c.length:=by
 induction vs with
 | nil=>intro c off;rfl
 | cons v vs ih=>intro c off;simp [wr,ih]
theorem S1 (vs:List Value):∀ (c:List Value) (off j:Nat),off+vs.length≤c.length →
  (wr c off vs)[j]?=if off≤j∧j<off+vs.length then vs[j-off]? else c[j]?:=by
 induction vs with
 | nil=>intro c off j _;simp [wr];omega
 | cons v vs ih =>
  intro c off j h
  simp only [List.length_cons] at h
  simp only [wr]
  rw [ih _ _ _ (by simp;omega)]
  simp only [List.length_cons]
  by_cases h1:off+1≤j∧j<off+1+vs.length
  ·rw [if_pos h1,if_pos (by omega)]
   rw [show j-off=(j-(off+1))+1 by omega]
   simp
  ·rw [if_neg h1]
   by_cases h2:j=off
   ·subst h2
    rw [if_pos (by omega)]
    simp [show j<c.length by omega]
   ·rw [if_neg (by omega),List.getElem?_set_ne (by omega)]
def Bd (w:World) (b:Nat) (o:Obj):World:={ w with heap:=w.heap.setIfInBounds b o }
theorem Co (w:World) (b:Nat) (o:Obj) (k:Nat):(Bd w b o).heap[k]?=if k=b∧b<w.heap.size then some o else w.heap[k]?:=by
 simp only [Bd,Array.getElem?_setIfInBounds]
 by_cases h:b=k
 ·subst h
  by_cases h2:b<w.heap.size
  ·simp [h2]
  ·simp [h2]
 ·simp [h,Ne.symm h]
theorem OF (w:World) (b:Nat) (o:Obj):(Bd w b o).heap.size=w.heap.size:=by simp [Bd]
theorem Q4 (w:World) (b:Nat) (o o':Obj):Bd (Bd w b o) b o'=Bd w b o':=by
 simp only [Bd]
 congr 1
 apply Array.ext'
 simp
theorem blk_lt {w:World} {b:Nat} {o:Obj} (h:w.heap[b]?=some o):b<w.heap.size:=(Array.getElem?_eq_some_iff.1 h).1
theorem Ye {w:World} {b off:Nat} {c:Array Value} {el:TypeId} {fr:Nat × Nat} (h:w.heap[b]?=some (.cells c el fr)) (v:Value) :
  w.setCell ⟨b,off,none⟩ v=Bd w b (.cells (c.setIfInBounds off v) el fr):=by
 simp only [World.setCell,Bd]
 congr 1
 apply Array.ext'
 rw [Array.toList_modify,Array.toList_setIfInBounds]
 have hb:=blk_lt h
 have hg:w.heap.toList[b]?=some (.cells c el fr):=by simpa using h
 apply List.ext_getElem?
 intro k
 rw [List.getElem?_modify,List.getElem?_set]
 by_cases hk:b=k
 ·subst hk
  have hb2:w.heap[b]=.cells c el fr:=by rw [Array.getElem?_eq_getElem hb] at h;exact Option.some.inj h
  simp [hb,hb2]
 ·simp [hk]
theorem JC {w w':World} {b:Nat} {c c':Array Value} {el:TypeId} {fr:Nat × Nat} (h:w.heap[b]?=some (.cells c el fr)) (h':w'.heap[b]?=some (.cells c' el fr)) (j:Nat) :
  w'.frozen? ⟨b,j,none⟩=w.frozen? ⟨b,j,none⟩:=by
 simp [World.frozen?,h,h']
theorem Gk (b off i:Nat):(⟨b,off,none⟩:Addr).add i=⟨b,off+i,none⟩:=by unfold Addr.add;split <;> simp_all
theorem Jv {P:Program} {b off:Nat} {el:TypeId} {fr:Nat × Nat}:∀ (vs:List Value) (i:Nat) (w:World) (c:List Value),w.heap[b]?=some (.cells c.toArray el fr) →
  off+i+vs.length≤c.length→(∀ j,j<c.length→w.frozen? ⟨b,j,none⟩=false)→(∀ v ∈ vs,v.oneCell'=true) →
  (storeCells ⟨b,off,none⟩ vs i).run P w=.ok () (Bd w b (.cells (wr c (off+i) vs).toArray el fr))
 | [],i,w,c,hg,_,_,_=>by
  simp only [storeCells,wr,Sem.run_pure]
  congr 1
  cases w
  simp only [Bd]
  congr 1
  apply Array.ext'
  rw [Array.toList_setIfInBounds]
  apply List.ext_getElem?
  intro k
  rw [List.getElem?_set]
  by_cases hk:b=k
  ·subst hk
   have hg':=hg
   simp only at hg'
   have:=blk_lt hg
   simp only at this
   simp [this]
   rw [Array.getElem?_eq_getElem this] at hg'
   simpa using hg'
  ·simp [hk]
 | v :: vs,i,w,c,hg,hl,hf,h1=>by
  simp only [List.length_cons] at hl
  have hv:=h1 v (by simp)
  have hlt:off+i<c.length:=by omega
  have hc:w.cell? ⟨b,off+i,none⟩=some c[off+i]:=by simp [World.cell?,hg,hlt]
  have hst:(store ((⟨b,off,none⟩:Addr).add i) v).run P w=.ok () (Bd w b (.cells (c.set (off+i) v).toArray el fr)):=by
   rw [Gk,run_store P w _ v _ hv]
   simp only [hc,hf _ hlt,if_false,Bool.false_eq_true]
   rw [Ye hg]
   simp
  have hg2:(Bd w b (.cells (c.set (off+i) v).toArray el fr)).heap[b]?=some (.cells (c.set (off+i) v).toArray el fr):=by
   rw [Co];simp [blk_lt hg]
  have ih:=Jv (P:=P) (off:=off) vs (i+1) (Bd w b (.cells (c.set (off+i) v).toArray el fr)) (c.set (off+i) v) hg2 (by simp;omega)
   (fun j hj=>(JC hg hg2 j).trans (hf j (by simpa using hj))) (fun u hu=>h1 u (by simp [hu]))
  simp only [storeCells,Sem.run_bind,hst,Result.andThen]
  rw [ih]
  rw [Q4]
  simp only [wr]
  rfl
section
variable {w:World} {Z:Nat→Prop} {m:Nat→Nat} {H:List HO}
theorem LQ {b:Nat} {c:Array Value} {el:TypeId} {fr:Nat × Nat} (h:w.heap[b]?=some (.cells c el fr)):Az w b=c.size:=by
 simp [Az,h]
theorem Dz {o:Nat} {ob:HO} (h:H[o]?=some ob) (hn:ob.live=true):Aw H o:=⟨ob,h,hn⟩
theorem HOK.blk_lt (hH:HOK w Z m H) {o:Nat} (hl:Aw H o):m o<w.heap.size:=by
 obtain ⟨ob,ho,hn⟩:=hl
 have:=hH.ob o ob ho
 cases ob with
 | dead=>cases hn
 | free=>cases hn
 | box cs=>obtain ⟨c,el,fr,hb,_⟩:=this;exact R.blk_lt hb
 | arr sz n g=>obtain ⟨_,c,el,fr,hb,_⟩:=this;exact R.blk_lt hb
theorem Hg.mono {w':World} {Z':Nat→Prop} {m':Nat→Nat} {H':List HO} (hE:Ext w Z m H w' Z' m' H') {ob:HO} {b:Nat}
  (h:Hg w Z m H ob b) (hb:w'.heap[b]?=w.heap[b]?):Hg w' Z' m' H' ob b:=by
 have hfz:∀ j,w'.frozen? ⟨b,j,none⟩=w.frozen? ⟨b,j,none⟩:=fun j=>by simp [World.frozen?,hb]
 cases ob with
 | dead=>trivial
 | free=>trivial
 | box cs =>
  obtain ⟨c,el,fr,h1,h2,h3,h4⟩:=h
  refine ⟨c,el,fr,hb.trans h1,fun j hj=>(hfz j).trans (h2 j hj),h3,fun j u hu=>?_⟩
  obtain ⟨v,hv,hr⟩:=h4 j u hu
  exact ⟨v,hv,hr.mono hE⟩
 | arr sz n g =>
  obtain ⟨h0,c,el,fr,h1,h2,h3,h4,h5⟩:=h
  refine ⟨h0,c,el,fr,hb.trans h1,fun j hj=>(hfz j).trans (h2 j hj),h3,h4,fun i j u hi hu=>?_⟩
  obtain ⟨hk,v,hv,hr⟩:=h5 i j u hi hu
  exact ⟨hk,v,hv,hr.mono hE.sub hE.kept⟩
theorem O9 {o:Nat} {ob ob':HO} {c':Array Value} {el:TypeId} {fr:Nat × Nat} (hH:HOK w Z m H) (ho:H[o]?=some ob) (hn:ob.live=true)
  (hev:Bu w (Bd w (m o) (.cells c' el fr)) ob (m o) ob' (m o)) :
  Ext w Z m H (Bd w (m o) (.cells c' el fr)) Z m (H.set o ob'):=by
 have hlt:=(List.getElem?_eq_some_iff.1 ho).1
 have hother:∀ k,k ≠ m o→(Bd w (m o) (.cells c' el fr)).heap[k]?=w.heap[k]?:=fun k hk=>by rw [Co];simp [hk]
 have hl:Aw H o:=Dz ho hn
 refine ⟨rfl,rfl,rfl,by simp [OF],fun _ h=>h,fun _ h=>.inl h,fun b hz=>hother b ?_,fun b _ hm=>hother b (fun e=>hm o hl e.symm),by simp,?_,?_,Nat.le_refl _⟩
 ·rintro rfl;exact hH.apart o hl hz
 ·intro k ob1 ob2 h1 h2
  by_cases hk:o=k
  ·subst hk
   rw [ho] at h1;cases h1
   simp [hlt] at h2;subst h2
   exact hev
  ·rw [List.getElem?_set_ne hk,h1] at h2
   cases h2
   by_cases hd:ob1.live=true
   case neg=>cases ob1 <;> simp_all [Bu,HO.live]
   ·have hne:m k ≠ m o:=fun e=>hk (hH.inj o k hl (Dz h1 hd) e.symm)
    have:Az (Bd w (m o) (.cells c' el fr)) (m k)=Az w (m k):=by simp only [Az,hother _ hne]
    cases ob1 <;> simp_all [Bu]
 ·intro k ⟨ob1,h1,hd⟩
  left
  by_cases hk:o=k
  ·subst hk;exact ⟨hl,rfl⟩
  ·rw [List.getElem?_set_ne hk] at h1
   exact ⟨⟨ob1,h1,hd⟩,rfl⟩
theorem O7 {o:Nat} {ob ob':HO} {c':Array Value} {el:TypeId} {fr:Nat × Nat} (hH:HOK w Z m H) (ho:H[o]?=some ob) (hn:ob.live=true)
  (hE:Ext w Z m H (Bd w (m o) (.cells c' el fr)) Z m (H.set o ob'))
  (hob:Hg (Bd w (m o) (.cells c' el fr)) Z m (H.set o ob') ob' (m o)) :
  HOK (Bd w (m o) (.cells c' el fr)) Z m (H.set o ob'):=by
 have hl:Aw H o:=Dz ho hn
 have hlive:∀ k,Aw (H.set o ob') k→Aw H k:=by
  intro k ⟨ob1,h1,hd⟩
  by_cases hk:o=k
  ·subst hk;exact hl
  ·rw [List.getElem?_set_ne hk] at h1;exact ⟨ob1,h1,hd⟩
 refine ⟨fun b hz=>by rw [OF];exact hH.zlt b hz,fun k hk=>hH.apart k (hlive k hk),fun k k' hk hk'=>hH.inj k k' (hlive k hk) (hlive k' hk'),?_⟩
 intro k ob1 h1
 by_cases hk:o=k
 ·subst hk
  have hlt:=(List.getElem?_eq_some_iff.1 ho).1
  simp [hlt] at h1;subst h1;exact hob
 ·rw [List.getElem?_set_ne hk] at h1
  by_cases hd:ob1.live=true
  case neg=>cases ob1 <;> simp_all [Hg,HO.live]
  ·have hne:m k ≠ m o:=fun e=>hk (hH.inj o k hl (Dz h1 hd) e.symm)
   exact (hH.ob k ob1 h1).mono hE (by rw [Co];simp [hne])
def Bl (w:World) (o:Obj):World:={ w with heap:=w.heap.push o }
theorem Ds (w:World) (o:Obj) (k:Nat) (h:k<w.heap.size):(Bl w o).heap[k]?=w.heap[k]?:=by
 simp only [Bl,Array.getElem?_push];rw [if_neg (by omega)]
theorem C8 (w:World) (o:Obj):(Bl w o).heap[w.heap.size]?=some o:=by simp only [Bl];exact Array.getElem?_push_size
theorem Hw (w:World) (o:Obj):(Bl w o).heap.size=w.heap.size+1:=by simp [Bl]
def Dp (H:List HO) (slot:Option Nat) (ob:HO):List HO:=match slot with
 | some k=>H.set k ob
 | none=>H++[ob]
def BX (H:List HO) (slot:Option Nat):Nat:=slot.getD H.length
def De (H:List HO) (slot:Option Nat):Prop:=∀ k,slot=some k→H[k]?=some .free
theorem Do (H:List HO) (slot:Option Nat) (ob:HO) (hs:De H slot):(Dp H slot ob)[BX H slot]?=some ob:=by
 cases slot with
 | none=>simp [Dp,BX]
 | some k=>have:=(List.getElem?_eq_some_iff.1 (hs k rfl)).1;simp [Dp,BX,this]
theorem Da (H:List HO) (slot:Option Nat) (ob:HO) {k:Nat} (hk:k ≠ BX H slot):(Dp H slot ob)[k]?=H[k]?:=by
 cases slot with
 | none =>
  simp only [Dp,BX,Option.getD_none] at *
  rw [List.getElem?_append]
  split
  ·rfl
  ·rename_i h;rw [List.getElem?_eq_none (by simp;omega),List.getElem?_eq_none (by omega)]
 | some k'=>simp only [Dp,BX,Option.getD_some] at *;rw [List.getElem?_set_ne (Ne.symm hk)]
theorem Pg (H:List HO) (slot:Option Nat) (ob:HO):H.length≤(Dp H slot ob).length:=by
 cases slot <;> simp [Dp]
theorem PA {slot:Option Nat} {ob:HO} {c:Obj} (hH:HOK w Z m H) (hs:De H slot) :
  Ext w Z m H (Bl w c) Z (fun x=>if x=BX H slot then w.heap.size else m x) (Dp H slot ob):=by
 refine ⟨rfl,rfl,rfl,by simp [Hw],fun _ h=>h,fun _ h=>.inl h,fun b hz=>Ds _ _ _ (hH.zlt b hz),fun b hb _=>Ds _ _ _ hb,Pg _ _ _,?_,?_,Nat.le_refl _⟩
 ·intro k ob1 ob2 h1 h2
  by_cases hk:k=BX H slot
  ·cases slot with
   | none=>subst hk;simp [BX] at h1
   | some k' =>
    obtain rfl:k=k':=hk
    rw [hs k rfl] at h1
    cases h1
    cases ob2 <;> simp [Bu]
  ·rw [Da _ _ _ hk,h1] at h2
   cases h2
   rw [if_neg hk]
   by_cases hd:ob1.live=true
   case neg=>cases ob1 <;> simp_all [Bu,HO.live]
   ·have hlt:=hH.blk_lt (Dz h1 hd)
    have:Az (Bl w c) (m k)=Az w (m k):=by simp only [Az,Ds _ _ _ hlt]
    cases ob1 <;> simp_all [Bu]
 ·intro k ⟨ob1,h1,hd⟩
  by_cases hk:k=BX H slot
  ·right;simp [hk]
  ·left
   rw [Da _ _ _ hk] at h1
   exact ⟨⟨ob1,h1,hd⟩,by simp [hk]⟩
theorem Tb {slot:Option Nat} {ob:HO} {c:Obj} (hH:HOK w Z m H) (hs:De H slot)
  (hob:Hg (Bl w c) Z (fun x=>if x=BX H slot then w.heap.size else m x) (Dp H slot ob) ob w.heap.size) :
  HOK (Bl w c) Z (fun x=>if x=BX H slot then w.heap.size else m x) (Dp H slot ob):=by
 have hE:=PA (ob:=ob) (c:=c) hH hs
 have hold:∀ k,k ≠ BX H slot→Aw (Dp H slot ob) k→Aw H k:=by
  intro k hk ⟨ob1,h1,hd⟩
  rw [Da _ _ _ hk] at h1
  exact ⟨ob1,h1,hd⟩
 refine ⟨fun b hz=>by rw [Hw];have:=hH.zlt b hz;omega,?_,?_,?_⟩
 ·intro k hk hz
  by_cases hp:k=BX H slot
  ·simp only [hp,if_true] at hz;have:=hH.zlt _ hz;omega
  ·simp only [if_neg hp] at hz;exact hH.apart k (hold k hp hk) hz
 ·intro k k' hk hk' e
  by_cases hp:k=BX H slot <;> by_cases hp':k'=BX H slot
  ·rw [hp,hp']
  ·simp only [hp,hp',if_true,if_false] at e;have:=hH.blk_lt (hold k' hp' hk');omega
  ·simp only [hp,hp',if_true,if_false] at e;have:=hH.blk_lt (hold k hp hk);omega
  ·simp only [hp,hp',if_false] at e;exact hH.inj k k' (hold k hp hk) (hold k' hp' hk') e
 ·intro k ob1 h1
  by_cases hp:k=BX H slot
  ·simp only [hp,if_true]
   rw [hp,Do _ _ _ hs] at h1
   cases h1;exact hob
  ·simp only [if_neg hp]
   rw [Da _ _ _ hp] at h1
   by_cases hd:ob1.live=true
   case neg=>cases ob1 <;> simp_all [Hg,HO.live]
   ·exact (hH.ob k ob1 h1).mono hE (Ds _ _ _ (hH.blk_lt (Dz h1 hd)))
theorem nW {o:Nat} (hH:HOK w Z m H) (hl:Aw H o) :
  Ext w Z m H w (fun b=>Z b ∨ b=m o) m (H.set o .dead)∧HOK w (fun b=>Z b ∨ b=m o) m (H.set o .dead):=by
 obtain ⟨ob,ho,hn⟩:=hl
 have hlt:=(List.getElem?_eq_some_iff.1 ho).1
 have hl:Aw H o:=⟨ob,ho,hn⟩
 have hlive:∀ k,Aw (H.set o .dead) k→Aw H k∧k ≠ o:=by
  intro k ⟨ob1,h1,hd⟩
  by_cases hk:o=k
  ·subst hk;simp [hlt] at h1;subst h1;cases hd
  ·rw [List.getElem?_set_ne hk] at h1;exact ⟨⟨ob1,h1,hd⟩,Ne.symm hk⟩
 have hE:Ext w Z m H w (fun b=>Z b ∨ b=m o) m (H.set o .dead):=by
  refine ⟨rfl,rfl,rfl,Nat.le_refl _,fun _ h=>.inl h,?_,fun _ _=>rfl,fun _ _ _=>rfl,by simp,?_,?_,Nat.le_refl _⟩
  ·rintro b (h | rfl)
   ·exact .inl h
   ·exact .inr (.inr ⟨o,hl,rfl⟩)
  ·intro k ob1 ob2 h1 h2
   by_cases hk:o=k
   ·subst hk
    simp [hlt] at h2;subst h2
    rw [ho] at h1;cases h1
    cases ob <;> simp_all [Bu]
   ·rw [List.getElem?_set_ne hk,h1] at h2
    cases h2;exact Bu.refl _ _ _
  ·intro k hk;exact .inl ⟨(hlive k hk).1,rfl⟩
 refine ⟨hE,?_,?_,?_,?_⟩
 ·rintro b (h | rfl)
  ·exact hH.zlt b h
  ·exact hH.blk_lt hl
 ·rintro k hk (h | h)
  ·exact hH.apart k (hlive k hk).1 h
  ·exact (hlive k hk).2 (hH.inj k o (hlive k hk).1 hl h)
 ·exact fun k k' hk hk' e=>hH.inj k k' (hlive k hk).1 (hlive k' hk').1 e
 ·intro k ob1 h1
  by_cases hk:o=k
  ·subst hk;simp [hlt] at h1;subst h1;trivial
  ·rw [List.getElem?_set_ne hk] at h1
   exact (hH.ob k ob1 h1).mono hE rfl
theorem XL {o sz n n':Nat} {g g':Nat→F} {c:Obj} (hH:HOK w Z m H) (ho:H[o]?=some (.arr sz n g)) (hn:n<n') :
  Ext w Z m H (Bl w c) Z (fun x=>if x=o then w.heap.size else m x) (H.set o (.arr sz n' g')):=by
 have hlt:=(List.getElem?_eq_some_iff.1 ho).1
 refine ⟨rfl,rfl,rfl,by simp [Hw],fun _ h=>h,fun _ h=>.inl h,fun b hz=>Ds _ _ _ (hH.zlt b hz),fun b hb _=>Ds _ _ _ hb,by simp,?_,?_,Nat.le_refl _⟩
 ·intro k ob1 ob2 h1 h2
  by_cases hk:o=k
  ·subst hk
   rw [ho] at h1;cases h1
   simp [hlt] at h2;subst h2
   simp only [Bu,true_and]
   exact ⟨by omega,fun e=>by omega⟩
  ·rw [List.getElem?_set_ne hk,h1] at h2
   cases h2
   rw [if_neg (Ne.symm hk)]
   by_cases hd:ob1.live=true
   case neg=>cases ob1 <;> simp_all [Bu,HO.live]
   ·have hlt:=hH.blk_lt (Dz h1 hd)
    have:Az (Bl w c) (m k)=Az w (m k):=by simp only [Az,Ds _ _ _ hlt]
    cases ob1 <;> simp_all [Bu]
 ·intro k ⟨ob1,h1,hd⟩
  by_cases hk:o=k
  ·right;simp [hk]
  ·left
   rw [List.getElem?_set_ne hk] at h1
   exact ⟨⟨ob1,h1,hd⟩,by simp [Ne.symm hk]⟩
theorem nM {o sz n n':Nat} {g g':Nat→F} {c:Obj} (hH:HOK w Z m H) (ho:H[o]?=some (.arr sz n g)) (hn:n<n')
  (hob:Hg (Bl w c) Z (fun x=>if x=o then w.heap.size else m x) (H.set o (.arr sz n' g')) (.arr sz n' g') w.heap.size) :
  HOK (Bl w c) Z (fun x=>if x=o then w.heap.size else m x) (H.set o (.arr sz n' g')):=by
 have hlt:=(List.getElem?_eq_some_iff.1 ho).1
 have hE:=XL (g':=g') (c:=c) hH ho hn
 have hold:∀ k,k ≠ o→Aw (H.set o (.arr sz n' g')) k→Aw H k:=by
  intro k hk ⟨ob1,h1,hd⟩
  rw [List.getElem?_set_ne (Ne.symm hk)] at h1
  exact ⟨ob1,h1,hd⟩
 refine ⟨fun b hz=>by rw [Hw];have:=hH.zlt b hz;omega,?_,?_,?_⟩
 ·intro k hk hz
  by_cases hp:k=o
  ·simp only [hp,if_true] at hz;have:=hH.zlt _ hz;omega
  ·simp only [if_neg hp] at hz;exact hH.apart k (hold k hp hk) hz
 ·intro k k' hk hk' e
  by_cases hp:k=o <;> by_cases hp':k'=o
  ·rw [hp,hp']
  ·simp only [hp,hp',if_true,if_false] at e;have:=hH.blk_lt (hold k' hp' hk');omega
  ·simp only [hp,hp',if_true,if_false] at e;have:=hH.blk_lt (hold k hp hk);omega
  ·simp only [hp,hp',if_false] at e;exact hH.inj k k' (hold k hp hk) (hold k' hp' hk') e
 ·intro k ob1 h1
  by_cases hp:k=o
  ·subst hp
   simp [hlt] at h1;subst h1
   simp only [if_true];exact hob
  ·simp only [if_neg hp]
   rw [List.getElem?_set_ne (Ne.symm hp)] at h1
   by_cases hd:ob1.live=true
   case neg=>cases ob1 <;> simp_all [Hg,HO.live]
   ·exact (hH.ob k ob1 h1).mono hE (Ds _ _ _ (hH.blk_lt (Dz h1 hd)))
def CH (w:World) (n:Nat):World:={ w with drawn:=w.drawn+n }
theorem KH (n:Nat):Ext w Z m H (CH w n) Z m H :=
 ⟨rfl,rfl,rfl,Nat.le_refl _,fun _ h=>h,fun _ h=>.inl h,fun _ _=>rfl,fun _ _ _=>rfl,Nat.le_refl _,
  fun o ob ob' h h'=>by rw [h] at h';cases h';cases ob <;> simp [Bu,CH,Az],fun o h=>.inl ⟨h,rfl⟩,Nat.le_add_right _ _⟩
theorem Mn (n:Nat) (hH:HOK w Z m H):HOK (CH w n) Z m H :=
 ⟨hH.zlt,hH.apart,hH.inj,fun o ob h=>(hH.ob o ob h).mono (KH n) rfl⟩
end
section
variable {P:Program} {w:World} {Z:Nat→Prop} {m:Nat→Nat} {H:List HO}
theorem ES {t:TypeId} {ti:TI} (h:It P t=some ti):∃ d i z,P.underlying t=some d∧P.info? t=some i∧i.zero=some z∧ti=⟨MD d,i.size,i.bytes,z.cells.toList⟩:=by
 unfold It at h
 split at h
 ·rename_i d i hd hi
  split at h
  ·rename_i z hz;exact ⟨d,i,z,hd,hi,hz,(Option.some.inj h).symm⟩
  ·cases h
 ·cases h
theorem Ao {t:TypeId} {d:TypeDesc} (h:P.underlying t=some d) (w:World):(underlying t).run P w=.ok d w:=by
 unfold underlying;simp [h]
theorem Bc {t:TypeId} {ti:TI} (h:It P t=some ti) (w:World):(sizeOf t).run P w=.ok ti.size w:=by
 obtain ⟨d,i,z,hd,hi,hz,rfl⟩:=ES h
 unfold sizeOf typeInfo;simp [hi]
theorem kL {t:TypeId} {ti:TI} (h:It P t=some ti) (w:World):∃ i,(typeInfo t).run P w=.ok i w∧i.size=ti.size∧i.bytes=ti.bytes:=by
 obtain ⟨d,i,z,hd,hi,hz,rfl⟩:=ES h
 exact ⟨i,by unfold typeInfo;simp [hi],rfl,rfl⟩
theorem MK {t:TypeId} {ti:TI} (h:It P t=some ti) (w:World):∃ z,(zeroValue t).run P w=.ok z w∧z.cells.toList=ti.zero:=by
 obtain ⟨d,i,z,hd,hi,hz,rfl⟩:=ES h
 exact ⟨z,by unfold zeroValue typeInfo;simp [hi,hz],rfl⟩
theorem aP {t:TypeId} {ti:TI} (h:It P t=some ti) (w:World):(isAgg t).run P w=.ok ti.isAgg w:=by
 obtain ⟨d,i,z,hd,hi,hz,rfl⟩:=ES h
 unfold isAgg
 simp only [Sem.run_bind,Ao hd,Result.andThen]
 cases d <;> simp [TI.isAgg,MD]
theorem Qb (v:Value):RepU w Z m H (cv v) v:=by
 unfold cv
 split
 ·exact .f _ _ (.bool _)
 ·exact .f _ _ (.int _ _)
 ·exact .f _ _ (.str _)
 ·exact .nils _
 ·exact .nilp
 ·exact .nilfn
 ·exact .bad _
theorem Sa {u:U} {v:Value} (h:RepU w Z m H u v) (hu:∀ o k,u=.hp o k→v.oneCell'=true) :
  u ≠ .bad→u ≠ .undef→(∀ us,u ≠ .tup us)→(∀ xs,u ≠ .f (.tup xs))→u.cells.length=v.cells.size∧∀ (j:Nat) (x:U),u.cells[j]?=some x→∃ y,v.cells[j]?=some y∧RepU w Z m H x y:=by
 intro h1 h2 h3 h4
 cases h with
 | f x v h =>
  cases h with
  | agg cs vs hl hr =>
   simp only [U.cells,Value.cells,List.length_map]
   refine ⟨by simpa using hl,fun j x hx=>?_⟩
   rw [List.getElem?_map] at hx
   cases hc:cs[j]? with
   | none=>rw [hc] at hx;cases hx
   | some y =>
    rw [hc] at hx
    cases hx
    have hj:=(List.getElem?_eq_some_iff.1 hc).1
    exact ⟨vs[j]'(by omega),by simp [show j<vs.length by omega],.f _ _ (hr j y _ hc (List.getElem?_eq_getElem (by omega)))⟩
  | tup cs vs hl hr=>exact absurd rfl (h4 cs)
  | bool b=>exact ⟨rfl,fun j x hx=>by cases j with | zero=>cases hx;exact ⟨_,rfl,.f _ _ (.bool b)⟩ | succ j=>simp [U.cells] at hx⟩
  | int k n=>exact ⟨rfl,fun j x hx=>by cases j with | zero=>cases hx;exact ⟨_,rfl,.f _ _ (.int k n)⟩ | succ j=>simp [U.cells] at hx⟩
  | str s=>exact ⟨rfl,fun j x hx=>by cases j with | zero=>cases hx;exact ⟨_,rfl,.f _ _ (.str s)⟩ | succ j=>simp [U.cells] at hx⟩
  | cl n g _ h h0 =>
   have hv:v.cells = #[v]:=by cases h;rfl
   exact ⟨by rw [hv];rfl,fun j x hx=>by cases j with | zero=>cases hx;exact ⟨_,by rw [hv];rfl,.f _ _ (.cl n g _ h h0)⟩ | succ j=>simp [U.cells] at hx⟩
  | sl n g A c sz a V hc hs hk hA hV hr=>exact ⟨rfl,fun j x hx=>by cases j with | zero=>cases hx;exact ⟨_,rfl,.f _ _ (.sl n g A c sz a V hc hs hk hA hV hr)⟩ | succ j=>simp [U.cells] at hx⟩
 | agg cs vs hl hr =>
  simp only [U.cells,Value.cells]
  refine ⟨by simpa using hl,fun j x hx=>?_⟩
  have hj:=(List.getElem?_eq_some_iff.1 hx).1
  exact ⟨vs[j]'(by omega),by simp [show j<vs.length by omega],hr j x _ hx (List.getElem?_eq_getElem (by omega))⟩
 | tup cs vs hl hr=>exact absurd rfl (h3 cs)
 | undef=>exact absurd rfl h2
 | bad=>exact absurd rfl h1
 | hs o gen off len v h1' ho hg hv =>
  have hc:v.cells = #[v]:=by cases v <;> simp_all [Value.cells,Value.oneCell']
  rw [hc]
  exact ⟨rfl,fun j x hx=>by cases j with | zero=>cases hx;exact ⟨_,rfl,.hs o gen off len v h1' ho hg hv⟩ | succ j=>simp [U.cells] at hx⟩
 | hp o off v h1' ho hv =>
  have hc:v.cells = #[v]:=by cases v <;> simp_all [Value.cells,Value.oneCell']
  rw [hc]
  exact ⟨rfl,fun j x hx=>by cases j with | zero=>cases hx;exact ⟨_,rfl,.hp o off v h1' ho hv⟩ | succ j=>simp [U.cells] at hx⟩
 | ep o gen i off v h1' ho hg hv =>
  have hc:v.cells = #[v]:=by cases v <;> simp_all [Value.cells,Value.oneCell']
  rw [hc]
  exact ⟨rfl,fun j x hx=>by cases j with | zero=>cases hx;exact ⟨_,rfl,.ep o gen i off v h1' ho hg hv⟩ | succ j=>simp [U.cells] at hx⟩
 | va cs a hZ V hV hr=>exact ⟨rfl,fun j x hx=>by cases j with | zero=>cases hx;exact ⟨_,rfl,.va cs a hZ V hV hr⟩ | succ j=>simp [U.cells] at hx⟩
 | nilp=>exact ⟨rfl,fun j x hx=>by cases j with | zero=>cases hx;exact ⟨_,rfl,.nilp⟩ | succ j=>simp [U.cells] at hx⟩
 | nils A=>exact ⟨rfl,fun j x hx=>by cases j with | zero=>cases hx;exact ⟨_,rfl,.nils A⟩ | succ j=>simp [U.cells] at hx⟩
 | fn f us vs hl hr=>exact ⟨rfl,fun j x hx=>by cases j with | zero=>cases hx;exact ⟨_,rfl,.fn f us vs hl hr⟩ | succ j=>simp [U.cells] at hx⟩
 | nilfn=>exact ⟨rfl,fun j x hx=>by cases j with | zero=>cases hx;exact ⟨_,rfl,.nilfn⟩ | succ j=>simp [U.cells] at hx⟩
theorem El {t:TypeId} {ti:TI} (ht:It P t=some ti) {a:Addr} (vs:List Value) (hl:vs.length=ti.size) (h:∀ j v,vs[j]?=some v→w.cell? (a.add j)=some v)
  (h1:(ti.isAgg || ti.size==1)=true):(loadVar t a).run P w=.ok (if ti.isAgg then .agg vs.toArray else vs.headD undef) w:=by
 unfold loadVar
 simp only [Sem.run_bind,aP ht,Result.andThen]
 cases hag:ti.isAgg with
 | true =>
  simp only [if_true,Sem.run_bind,Bc ht,Result.andThen]
  rw [← hl,run_loadCells_list w a vs h]
  rfl
 | false =>
  rw [hag] at h1
  simp only [Bool.false_or,beq_iff_eq] at h1
  rw [h1] at hl
  match vs,hl with
  | [v],_ =>
   have:=h 0 v rfl
   simp only [Addr.add,if_true] at this
   simp [this]
theorem Ch (a:Addr) (h:a.spot=none) (j:Nat):a.add j=⟨a.block,a.off+j,none⟩:=by
 cases a with
 | mk b o s=>simp only at h;subst h;exact Gk b o j
theorem Bt {α:Type} (cs:List α) (off n j:Nat):((cs.drop off).take n)[j]?=if j<n then cs[off+j]? else none:=by
 rw [List.getElem?_take]
 split
 ·rw [List.getElem?_drop]
 ·rfl
theorem P0 {ρ:Type} {r:ρ} {t:TypeId} {ti:TI} (ht:It P t=some ti) {st:St} (hH:HOK w Z m st.heap) {x:U} {vx:Value} (hx:RepU w Z m st.heap x vx) {K:U→St→Option ρ}
  (h:HT ti x st K=some r):∃ u,K u st=some r∧∃ v,(Instr.loadAt t vx).run P w=.ok v w∧RepU w Z m st.heap u v:=by
 unfold HT at h
 split at h
 ·-- a box
  rename_i o off
  split at h
  ·rename_i cs hob
   replace h:=AI h;obtain ⟨h1,h⟩:=h
   replace h:=AI h;obtain ⟨h2,h⟩:=h
   have h1:=of_decide_eq_true h1
   cases hx with
   | hp _ _ _ hone ho hv =>
    obtain rfl:=hv cs hob
    obtain ⟨c,el,fr,hb,hf,hsz,hr⟩:=hH.ob o _ hob
    have hlen:((c.toList.drop off).take ti.size).length=ti.size:=by simp;omega
    have hrun:=El (w:=w) (a:=⟨m o,off,none⟩) ht _ hlen (fun j v hj=>by
     rw [Bt] at hj
     split at hj
     ·rw [Gk]
      simp only [World.cell?,hb]
      simpa using hj
     ·cases hj) h2
    refine ⟨_,h,_,by simp only [Instr.loadAt,Instr.sureAddr,pure_bind];exact hrun,?_⟩
    have hreps:∀ (j:Nat) (u:U) (v:Value),((cs.drop off).take ti.size)[j]?=some u→((c.toList.drop off).take ti.size)[j]?=some v→RepU w Z m st.heap u v:=by
     intro j u v hu hv
     rw [Bt] at hu hv
     split at hu
     ·rename_i hj
      rw [if_pos hj] at hv
      obtain ⟨v',hv',hr'⟩:=hr _ _ hu
      have:v'=v:=by
       have e:c.toList[off+j]?=c[off+j]?:=by simp
       rw [e,hv'] at hv
       exact Option.some.inj hv
      exact this ▸ hr'
     ·cases hu
    have hlen2:((cs.drop off).take ti.size).length=ti.size:=by simp;omega
    unfold mkU
    split
    ·exact .agg _ _ (by rw [hlen,hlen2]) hreps
    ·rename_i hag
     simp only [hag,Bool.false_or,beq_iff_eq] at h2
     generalize (cs.drop off).take ti.size=l1 at *
     generalize (c.toList.drop off).take ti.size=l2 at *
     rw [h2] at hlen hlen2
     match l1,l2,hlen,hlen2 with
     | [u],[v],_,_=>exact hreps 0 u v rfl rfl
  ·cases h
 ·-- an element that is frozen
  rename_i cs
  replace h:=AI h;obtain ⟨h1,h⟩:=h
  replace h:=AI h;obtain ⟨h2,h⟩:=h
  replace h:=AI h;obtain ⟨hz,h⟩:=h
  have h1:=of_decide_eq_true h1
  simp only [Bool.and_eq_true,beq_iff_eq] at hz
  rw [Ln _ _ (by rw [hz.1];exact h1) hz.2,hz.1] at h
  cases hx with
  | va _ a hZ V hV hr =>
   have hlen:((List.range ti.size).map V).length=ti.size:=by simp
   have hlen2:(cs.take ti.size).length=ti.size:=by simp;omega
   have hcell:∀ (j:Nat) (v:Value),((List.range ti.size).map V)[j]?=some v→w.cell? (a.add j)=some v:=by
    intro j v hj
    rw [List.getElem?_map] at hj
    have hjl:j<ti.size:=by
     rcases Nat.lt_or_ge j ti.size with hh | hh
     ·exact hh
     ·rw [List.getElem?_eq_none (by simpa using hh)] at hj;cases hj
    rw [List.getElem?_range hjl] at hj
    cases hj
    have hne:cs ≠ []:=by rintro rfl;simp at h1;omega
    rw [Ch a (hZ hne).2]
    exact hV j cs[j] (List.getElem?_eq_getElem (by omega))
   have hrun:=El (w:=w) (a:=a) ht _ hlen hcell h2
   refine ⟨_,h,_,by simp only [Instr.loadAt,Instr.sureAddr,pure_bind];exact hrun,?_⟩
   have hreps:∀ (j:Nat) (u:F) (v:Value),(cs.take ti.size)[j]?=some u→((List.range ti.size).map V)[j]?=some v→RepF w Z u v:=by
    intro j u v hu hv
    rw [List.getElem?_take] at hu
    split at hu
    ·rename_i hj
     rw [List.getElem?_map,List.getElem?_range hj] at hv
     cases hv
     exact hr j u hu
    ·cases hu
   unfold mkF
   split
   ·exact .f _ _ (.agg _ _ (by rw [hlen,hlen2]) hreps)
   ·rename_i hag
    simp only [hag,Bool.false_or,beq_iff_eq] at h2
    generalize cs.take ti.size=l1 at *
    generalize (List.range ti.size).map V=l2 at *
    rw [h2] at hlen hlen2
    match l1,l2,hlen,hlen2 with
    | [u],[v],_,_=>exact .f _ _ (hreps 0 u v rfl rfl)
 ·-- an element of an own row
  rename_i o gen i off
  split at h
  ·rename_i sz n g hob
   replace h:=AI h;obtain ⟨h1,h⟩:=h
   replace h:=AI h;obtain ⟨h2,h⟩:=h
   replace h:=AI h;obtain ⟨h3,h⟩:=h
   replace h:=AI h;obtain ⟨h4,h⟩:=h
   replace h:=AI h;obtain ⟨h5,h⟩:=h
   replace h:=AI h;obtain ⟨hz,h⟩:=h
   have h1:=of_decide_eq_true h1
   have h2:=of_decide_eq_true h2
   have h3:=of_decide_eq_true h3
   have h4:=of_decide_eq_true h4
   simp only [Bool.and_eq_true,beq_iff_eq] at hz
   rw [Ln _ _ (by rw [hz.1,List.length_drop];omega) hz.2,hz.1] at h
   cases hx with
   | ep _ _ _ _ _ hone ho hg hv =>
    obtain rfl:=hv _ _ _ hob h1
    obtain ⟨h0,c,el,fr,hb,hf,hsz,hgl,hr⟩:=hH.ob o _ hob
    have hin:i*sz+off+ti.size≤c.toList.length:=by
     have:(i+1)*sz≤n*sz:=Nat.mul_le_mul_right _ h2
     rw [Nat.add_mul] at this
     simp;omega
    have hlen:((c.toList.drop (i*sz+off)).take ti.size).length=ti.size:=by simp at hin ⊢;omega
    have hlen2:(((g i).cells.drop off).take ti.size).length=ti.size:=by simp;omega
    have hrun:=El (w:=w) (a:=⟨m o,i*sz+off,none⟩) ht _ hlen (fun j v hj=>by
     rw [Bt] at hj
     split at hj
     ·rw [Gk]
      simp only [World.cell?,hb]
      simpa using hj
     ·cases hj) h5
    refine ⟨_,h,_,by simp only [Instr.loadAt,Instr.sureAddr,pure_bind];exact hrun,?_⟩
    have hreps:∀ (j:Nat) (u:F) (v:Value),(((g i).cells.drop off).take ti.size)[j]?=some u→((c.toList.drop (i*sz+off)).take ti.size)[j]?=some v→RepF w Z u v:=by
     intro j u v hu hv
     rw [Bt] at hu hv
     split at hu
     ·rename_i hj
      rw [if_pos hj] at hv
      obtain ⟨_,v',hv',hr'⟩:=hr i _ _ h2 hu
      have:v'=v:=by
       have e:c.toList[i*sz+off+j]?=c[i*sz+(off+j)]?:=by simp [Nat.add_assoc]
       rw [e,hv'] at hv
       exact Option.some.inj hv
      exact this ▸ hr'
     ·cases hu
    unfold mkF
    split
    ·exact .f _ _ (.agg _ _ (by rw [hlen,hlen2]) hreps)
    ·rename_i hag
     simp only [hag,Bool.false_or,beq_iff_eq] at h5
     generalize ((g i).cells.drop off).take ti.size=l1 at *
     generalize (c.toList.drop (i*sz+off)).take ti.size=l2 at *
     rw [h5] at hlen hlen2
     match l1,l2,hlen,hlen2 with
     | [u],[v],_,_=>exact .f _ _ (hreps 0 u v rfl rfl)
  ·cases h
 ·cases h
end
section
variable {P:Program} {w:World} {Z:Nat→Prop} {m:Nat→Nat} {H:List HO}
theorem Bf {G:List HO}:∀ (us:List U) (xs:List F),Bb G us=some xs→us.length=xs.length∧∀ (j:Nat) (u:U) (x:F),us[j]?=some u→xs[j]?=some x→toF G u=some x
 | [],xs,h=>by
  simp only [Bb,Option.some.injEq] at h
  subst h
  exact ⟨rfl,fun j u x hu=>by simp at hu⟩
 | u :: us,xs,h=>by
  simp only [Bb] at h
  split at h
  ·rename_i x xs' h1 h2
   cases h
   obtain ⟨hl,hg⟩:=Bf us xs' h2
   refine ⟨by simp [hl],fun j u' x' hu hx=>?_⟩
   cases j with
   | zero=>simp at hu hx;subst hu;subst hx;exact h1
   | succ j=>simp at hu hx;exact hg j u' x' hu hx
  ·cases h
theorem EY:∀ (us:List U) (u:U) (o:Nat),u ∈ us→o ∈ Cp u→o ∈ As us
 | u' :: us,u,o,hu,ho=>by
  simp only [As,List.mem_append]
  rcases List.mem_cons.1 hu with rfl | hu
  ·exact .inl ho
  ·exact .inr (EY us u o hu ho)
theorem Hj {G:List HO} (hH:HOK w Z m H) (hG:∀ (o:Nat) (ob:HO),G[o]?=some ob→H[o]?=some ob) {u:U} {v:Value} (h:RepU w Z m H u v) :
  ∀ {x:F},toF G u=some x→RepF w (fun b=>Z b ∨ ∃ o,o ∈ Cp u∧Aw G o∧m o=b) x v:=by
 induction h with
 | f y v h=>intro x hx;simp only [toF,Option.some.injEq] at hx;subst hx;exact h.mono (fun _ h=>.inl h) (fun _ _=>rfl)
 | agg us vs hl hr ih =>
  intro x hx
  simp only [toF] at hx
  cases hx':Bb G us with
  | none=>rw [hx'] at hx;cases hx
  | some xs =>
   rw [hx'] at hx;cases hx
   obtain ⟨hl2,hg⟩:=Bf us xs hx'
   refine .agg _ _ (by omega) fun j y v hy hv=>?_
   have hj:=(List.getElem?_eq_some_iff.1 hy).1
   have hu:us[j]?=some us[j]:=List.getElem?_eq_getElem (by omega)
   refine (ih j us[j] v hu hv (hg j us[j] y hu hy)).mono ?_ (fun _ _=>rfl)
   rintro b (hb | ⟨o,ho,hlv,e⟩)
   ·exact .inl hb
   ·exact .inr ⟨o,by simp only [Cp];exact EY us _ o (List.getElem_mem _) ho,hlv,e⟩
 | tup us vs hl hr ih =>
  intro x hx
  simp only [toF] at hx
  cases hx':Bb G us with
  | none=>rw [hx'] at hx;cases hx
  | some xs =>
   rw [hx'] at hx;cases hx
   obtain ⟨hl2,hg⟩:=Bf us xs hx'
   refine .tup _ _ (by omega) fun j y v hy hv=>?_
   have hj:=(List.getElem?_eq_some_iff.1 hy).1
   have hu:us[j]?=some us[j]:=List.getElem?_eq_getElem (by omega)
   refine (ih j us[j] v hu hv (hg j us[j] y hu hy)).mono ?_ (fun _ _=>rfl)
   rintro b (hb | ⟨o,ho,hlv,e⟩)
   ·exact .inl hb
   ·exact .inr ⟨o,by simp only [Cp];exact EY us _ o (List.getElem_mem _) ho,hlv,e⟩
 | hs o gen off len v h1 ho hg hv =>
  intro x hx
  simp only [toF] at hx
  split at hx
  ·rename_i sz n g hob
   split at hx
   ·rename_i hgen
    cases hx
    obtain ⟨hle,A,c,rfl,hc,hA,hcap⟩:=hv sz n g (hG _ _ hob) hgen
    obtain ⟨h0,cc,el,fr,hb,hf,hsz,hgl,hr⟩:=hH.ob o _ (hG _ _ hob)
    rw [show B3 off g=fun j=>g (off+j) from funext fun j=>Mc off g j]
    refine .sl len _ A c sz ⟨m o,off*sz,none⟩ (fun k=>cc.getD (off*sz+k) undef) hc (fun i hi=>hgl _ (by omega)) (fun i j u hi hu=>(hr _ j u (by omega) hu).1) ?_ ?_ ?_
    ·intro hne
     exact ⟨hA (by omega),.inr ⟨o,by simp [Cp],⟨_,hob,rfl⟩,rfl⟩,rfl⟩
    ·intro i j u hi hu
     obtain ⟨_,v',hv',_⟩:=hr _ j u (by omega) hu
     have hjn:=(Array.getElem?_eq_some_iff.1 hv').1
     simp only [World.cell?,hb]
     rw [show off*sz+(i*sz+j)=(off+i)*sz+j by rw [Nat.add_mul];omega]
     simp [hjn]
    ·intro i j u hi hu
     obtain ⟨_,v',hv',hr'⟩:=hr _ j u (by omega) hu
     rw [show off*sz+(i*sz+j)=(off+i)*sz+j by rw [Nat.add_mul];omega]
     have:cc.getD ((off+i)*sz+j) undef=v':=by
      obtain ⟨hjn,e⟩:=Array.getElem?_eq_some_iff.1 hv'
      simp [Array.getD,hjn,e]
     rw [this]
     exact hr'.mono (fun _ h=>.inl h) (fun _ _=>rfl)
   ·cases hx
  ·cases hx
 | hp=>intro x hx;simp [toF] at hx
 | ep=>intro x hx;simp [toF] at hx
 | va=>intro x hx;simp [toF] at hx
 | nilp=>intro x hx;simp [toF] at hx
 | nils A =>
  intro x hx
  simp only [toF,Option.some.injEq] at hx
  subst hx
  exact .sl 0 _ A 0 0 default (fun _=>undef) (Nat.le_refl _) (fun i hi=>by omega) (fun i j u hi=>by omega) (fun h=>absurd rfl h) (fun i j u hi=>by omega) (fun i j u hi=>by omega)
 | fn=>intro x hx;simp [toF] at hx
 | nilfn=>intro x hx;simp [toF] at hx
 | undef=>intro x hx;simp [toF] at hx
 | bad=>intro x hx;simp [toF] at hx
theorem Cf (hH:HOK w Z m H) {u:U} {v:Value} (h:RepU w Z m H u v) {x:F} (hx:toF [] u=some x):RepF w Z x v :=
 (Hj (G:=[]) hH (fun o ob h=>by simp at h) h hx).mono (fun b hb=>by
  rcases hb with hb | ⟨o,_,⟨ob,h,_⟩,_⟩
  ·exact hb
  ·simp at h) (fun _ _=>rfl)
theorem Ix (us:List U):∀ (cs:List U) (off:Nat),(Jx cs off us).length=cs.length:=by
 induction us with
 | nil=>intro c off;rfl
 | cons v vs ih=>intro c off;simp [Jx,ih]
theorem Ra (us:List U):∀ (cs:List U) (off j:Nat),off+us.length≤cs.length →
  (Jx cs off us)[j]?=if off≤j∧j<off+us.length then us[j-off]? else cs[j]?:=by
 induction us with
 | nil=>intro c off j _;simp [Jx];omega
 | cons v vs ih =>
  intro c off j h
  simp only [List.length_cons] at h
  simp only [Jx]
  rw [ih _ _ _ (by simp;omega)]
  simp only [List.length_cons]
  by_cases h1:off+1≤j∧j<off+1+vs.length
  ·rw [if_pos h1,if_pos (by omega)]
   rw [show j-off=(j-(off+1))+1 by omega]
   simp
  ·rw [if_neg h1]
   by_cases h2:j=off
   ·subst h2
    rw [if_pos (by omega)]
    simp [show j<c.length by omega]
   ·rw [if_neg (by omega),List.getElem?_set_ne (by omega)]
theorem S7 (us:List F):∀ (cs:List F) (off:Nat),(Jc cs off us).length=cs.length:=by
 induction us with
 | nil=>intro c off;rfl
 | cons v vs ih=>intro c off;simp [Jc,ih]
theorem Rb (us:List F):∀ (cs:List F) (off j:Nat),off+us.length≤cs.length →
  (Jc cs off us)[j]?=if off≤j∧j<off+us.length then us[j-off]? else cs[j]?:=by
 induction us with
 | nil=>intro c off j _;simp [Jc];omega
 | cons v vs ih =>
  intro c off j h
  simp only [List.length_cons] at h
  simp only [Jc]
  rw [ih _ _ _ (by simp;omega)]
  simp only [List.length_cons]
  by_cases h1:off+1≤j∧j<off+1+vs.length
  ·rw [if_pos h1,if_pos (by omega)]
   rw [show j-off=(j-(off+1))+1 by omega]
   simp
  ·rw [if_neg h1]
   by_cases h2:j=off
   ·subst h2
    rw [if_pos (by omega)]
    simp [show j<c.length by omega]
   ·rw [if_neg (by omega),List.getElem?_set_ne (by omega)]
theorem fH {x:F} {off:Nat} {xs:List F} (h:CO x=true ∨ (x.cells.length=1∧off=0∧xs.length=1)) (hc:xs.all Be=true):(putCells x off xs).cells=Jc x.cells off xs:=by
 rcases h with h | ⟨h1,rfl,h3⟩
 ·cases x <;> first | (simp [CO] at h;done) | rfl
 ·match xs,h3 with
  | [y],_ =>
   have hy:Be y=true:=by simpa using hc
   have hyc:y.cells=[y]:=by cases y <;> first | rfl | simp [Be] at hy
   cases x with
   | agg cs=>rfl
   | _=>simp [putCells,Jc,F.cells] at hyc ⊢;exact hyc
theorem WP {ag:Bool} {sz n off:Nat} {x:F} {xs:List F} (h:CO x=true ∨ (x.cells.length=1∧off=0∧xs.length=1)) (hc:xs.all Be=true) (hx:x.cells.length=sz) (hin:off+n≤sz) (hl:xs.length=n) :
  (WQ ag (Nat.beq n sz&&(ag || Nat.beq sz 1)) x off xs).cells=Jc x.cells off xs:=by
 cases hw:(Nat.beq n sz&&(ag || Nat.beq sz 1)) with
 | false=>exact fH h hc
 | true =>
  simp only [Bool.and_eq_true,Bool.or_eq_true] at hw
  have h1:=Nat.eq_of_beq_eq_true hw.1
  have h0:off=0:=by omega
  subst h0
  have e:Jc x.cells 0 xs=xs:=by
   apply List.ext_getElem?
   intro j
   rw [Rb _ _ _ _ (by omega)]
   split
   ·simp
   ·rw [List.getElem?_eq_none (by omega),List.getElem?_eq_none (by omega)]
  rw [e]
  simp only [WQ]
  cases ag with
  | true=>rfl
  | false =>
   have h2:sz=1:=by
    rcases hw.2 with h2 | h2
    ·cases h2
    ·exact Nat.eq_of_beq_eq_true h2
   have h3:xs.length=1:=by omega
   match xs,h3 with
   | [y],_ =>
    have hy:Be y=true:=by simpa using hc
    cases y <;> first | rfl | simp [Be] at hy
theorem JH {u:U} {v:Value} (h:RepU w Z m H u v) (ha:u.cells.all KW=true) :
  u.cells.length=v.cells.size∧(∀ (j:Nat) (x:U),u.cells[j]?=some x→∃ y,v.cells[j]?=some y∧RepU w Z m H x y)∧∀ y ∈ v.cells.toList,y.oneCell'=true:=by
 have h1:u ≠ .bad:=by rintro rfl;simp [U.cells,KW] at ha
 have h2:u ≠ .undef:=by rintro rfl;simp [U.cells,KW] at ha
 have h3:∀ us,u ≠ .tup us:=by rintro us rfl;simp [U.cells,KW] at ha
 have h4:∀ xs,u ≠ .f (.tup xs):=by rintro xs rfl;simp [U.cells,KW,Be] at ha
 have h5:∀ o k,u=.hp o k→v.oneCell'=true:=by rintro o k rfl;cases h with | hp _ _ _ h1=>exact h1
 obtain ⟨a,b⟩:=Sa h h5 h1 h2 h3 h4
 refine ⟨a,b,fun y hy=>?_⟩
 obtain ⟨j,hj,rfl⟩:=List.getElem_of_mem hy
 have hjs:j<v.cells.size:=by simpa using hj
 have hu:u.cells[j]?=some (u.cells[j]'(by omega)):=List.getElem?_eq_getElem (by omega)
 obtain ⟨y,hy',hr⟩:=b j _ hu
 have:v.cells.toList[j]=y:=by
  rw [Array.getElem?_eq_getElem hjs] at hy'
  simpa using hy'
 rw [this]
 exact hr.one (List.all_eq_true.1 ha _ (List.getElem_mem _))
theorem ML {t:TypeId} {ti:TI} (ht:It P t=some ti) {b off:Nat} {c:Array Value} {el:TypeId} {fr:Nat × Nat} (hb:w.heap[b]?=some (.cells c el fr))
  (hf:∀ j,j<c.size→w.frozen? ⟨b,j,none⟩=false) {v:Value} (hl:v.cells.size=ti.size) (hin:off+ti.size≤c.size) (h1:∀ y ∈ v.cells.toList,y.oneCell'=true) :
  (Instr.storeAt t (.pointer (some ⟨b,off,none⟩)) v).run P w=.ok () (Bd w b (.cells (wr c.toList off v.cells.toList).toArray el fr)):=by
 unfold Instr.storeAt Instr.sureAddr storeVar
 simp only [pure_bind,Sem.run_bind,Bc ht,Result.andThen,hl,ne_eq,not_true,if_false]
 have:=Jv (P:=P) (b:=b) (off:=off) (el:=el) (fr:=fr) v.cells.toList 0 w c.toList (by simpa using hb) (by simp;omega) (fun j hj=>hf j (by simpa using hj)) h1
 simpa using this
theorem Js {G:List HO} {us:List U} {xs:List F} (h:Bb G us=some xs):us.length=xs.length:=(Bf us xs h).1
theorem Vb {ρ:Type} {r:ρ} {t:TypeId} {ti:TI} (ht:It P t=some ti) {st:St} (hH:HOK w Z m st.heap) {u x:U} {vu vx:Value} (hu:RepU w Z m st.heap u vu)
  (hx:RepU w Z m st.heap x vx) {K:U→St→Option ρ} (h:Hp ti u x st K=some r) :
  ∃ st',K .undef st'=some r∧st'.tmps=st.tmps∧∃ w',(Instr.storeAt t vu vx).run P w=.ok () w'∧Ext w Z m st.heap w' Z m st'.heap∧HOK w' Z m st'.heap:=by
 unfold Hp at h
 split at h
 ·rename_i o off
  split at h
  ·rename_i cs hob
   replace h:=AI h;obtain ⟨h1,h⟩:=h
   replace h:=AI h;obtain ⟨h2,h⟩:=h
   replace h:=AI h;obtain ⟨h3,h⟩:=h
   have h1:=of_decide_eq_true h1
   have h2:=of_decide_eq_true h2
   cases hu with
   | hp _ _ _ hone ho hv =>
    obtain rfl:=hv cs hob
    obtain ⟨c,el,fr,hb,hf,hsz,hr⟩:=hH.ob o _ hob
    obtain ⟨ha,hbb,hc⟩:=JH hx h3
    refine ⟨_,h,rfl,_,ML ht hb hf (by omega) (by omega) hc,?_⟩
    have hsz2:(wr c.toList off vx.cells.toList).length=c.size:=by simp [II]
    have hE:Ext w Z m st.heap (Bd w (m o) (.cells (wr c.toList off vx.cells.toList).toArray el fr)) Z m (st.heap.set o (.box (Jx cs off x.cells))):=by
     refine O9 hH hob rfl ?_
     simp [Bu,Ix]
    refine ⟨hE,O7 hH hob rfl hE ?_⟩
    have hg:(Bd w (m o) (.cells (wr c.toList off vx.cells.toList).toArray el fr)).heap[m o]?=some (.cells (wr c.toList off vx.cells.toList).toArray el fr):=by
     rw [Co];simp [blk_lt hb]
    refine ⟨_,el,fr,hg,fun j hj=>?_,by simp [hsz2,Ix,hsz],fun j y hy=>?_⟩
    ·rw [JC hb hg];exact hf j (by simpa [hsz2] using hj)
    ·rw [Ra _ _ _ _ (by omega)] at hy
     have e:(wr c.toList off vx.cells.toList).toArray[j]?=(wr c.toList off vx.cells.toList)[j]?:=by simp
     rw [e,S1 _ _ _ _ (by simp;omega)]
     have hlx:vx.cells.toList.length=x.cells.length:=by simp [ha]
     rw [hlx]
     split at hy
     ·rename_i hcd
      rw [if_pos hcd]
      obtain ⟨y',hy',hr'⟩:=hbb _ _ hy
      exact ⟨y',by simpa using hy',hr'.mono hE⟩
     ·rename_i hcd
      rw [if_neg hcd]
      obtain ⟨y',hy',hr'⟩:=hr _ _ hy
      exact ⟨y',by simpa using hy',hr'.mono hE⟩
  ·cases h
 ·rename_i o gen i off
  split at h
  ·rename_i sz n g xs hob hxs
   replace h:=AI h;obtain ⟨h1,h⟩:=h
   replace h:=AI h;obtain ⟨h2,h⟩:=h
   replace h:=AI h;obtain ⟨h3,h⟩:=h
   replace h:=AI h;obtain ⟨h4,h⟩:=h
   replace h:=AI h;obtain ⟨h5,h⟩:=h
   replace h:=AI h;obtain ⟨h6,h⟩:=h
   have h1:=of_decide_eq_true h1
   have h2:=of_decide_eq_true h2
   have h3:=of_decide_eq_true h3
   have h4:=of_decide_eq_true h4
   have h5:=of_decide_eq_true h5
   simp only [Bool.and_eq_true] at h6
   obtain ⟨h6,h7⟩:=h6
   cases hu with
   | ep _ _ _ _ _ hone ho hg hv =>
    obtain rfl:=hv _ _ _ hob h1
    obtain ⟨h0,c,el,fr,hb,hf,hsz,hgl,hr⟩:=hH.ob o _ hob
    have hlx:=Js hxs
    have hall:x.cells.all KW=true:=by
     rw [List.all_eq_true]
     intro y hy
     obtain ⟨j,hj,rfl⟩:=List.getElem_of_mem hy
     have hx1:xs[j]?=some (xs[j]'(by omega)):=List.getElem?_eq_getElem (by omega)
     have htf:=(Bf _ _ hxs).2 j _ _ (List.getElem?_eq_getElem hj) hx1
     have hcf:Be (xs[j]'(by omega))=true:=List.all_eq_true.1 h7 _ (List.getElem_mem _)
     generalize x.cells[j]=y at *
     cases y with
     | f z=>simp only [toF,Option.some.injEq] at htf;rw [← htf] at hcf;exact hcf
     | agg us =>
      simp only [toF] at htf
      cases h':Bb [] us with
      | none=>rw [h'] at htf;cases htf
      | some q=>rw [h'] at htf;simp only [Option.map_some,Option.some.injEq] at htf;rw [← htf] at hcf;cases hcf
     | tup us =>
      simp only [toF] at htf
      cases h':Bb [] us with
      | none=>rw [h'] at htf;cases htf
      | some q=>rw [h'] at htf;simp only [Option.map_some,Option.some.injEq] at htf;rw [← htf] at hcf;cases hcf
     | undef=>simp [toF] at htf
     | bad=>simp [toF] at htf
     | _=>rfl
    obtain ⟨ha,hbb,hc⟩:=JH hx hall
    have hin:i*sz+off+ti.size≤c.size:=by
     have:(i+1)*sz≤n*sz:=Nat.mul_le_mul_right _ h2
     rw [Nat.add_mul] at this
     omega
    refine ⟨_,h,rfl,_,ML ht hb hf (by omega) hin hc,?_⟩
    have hsz2:(wr c.toList (i*sz+off) vx.cells.toList).length=c.size:=by simp [II]
    have hE:Ext w Z m st.heap (Bd w (m o) (.cells (wr c.toList (i*sz+off) vx.cells.toList).toArray el fr)) Z m (st.heap.set o (.arr sz n fun j=>if j=i then WQ ti.isAgg (Nat.beq ti.size sz&&(ti.isAgg || Nat.beq sz 1)) (g i) off xs else g j)):=by
     refine O9 hH hob rfl ?_
     simp only [Bu,true_and,Nat.le_refl]
     intro _
     simp only [Az,Co,hb]
     simp [blk_lt hb,hsz2]
    refine ⟨hE,O7 hH hob rfl hE ?_⟩
    have hg:(Bd w (m o) (.cells (wr c.toList (i*sz+off) vx.cells.toList).toArray el fr)).heap[m o]?=some (.cells (wr c.toList (i*sz+off) vx.cells.toList).toArray el fr):=by
     rw [Co];simp [blk_lt hb]
    have hput:(WQ ti.isAgg (Nat.beq ti.size sz&&(ti.isAgg || Nat.beq sz 1)) (g i) off xs).cells=Jc (g i).cells off xs:=by
     refine WP ?_ h7 h4 h3 h5
     cases hq:CO (g i) with
     | true=>exact .inl rfl
     | false =>
      rw [hq] at h6
      simp only [Bool.false_or,Bool.and_eq_true,beq_iff_eq] at h6
      exact .inr ⟨by omega,by omega,by omega⟩
    refine ⟨h0,_,el,fr,hg,fun j hj=>?_,by simp only [List.size_toArray,hsz2];exact hsz,fun k hk=>?_,fun k j y hk hy=>?_⟩
    ·rw [JC hb hg];exact hf j (by simpa [hsz2] using hj)
    ·by_cases hki:k=i
     ·subst hki;simp only [if_true];rw [hput,S7];exact hgl _ hk
     ·simp only [if_neg hki];exact hgl k hk
    ·have e:∀ q:Nat,(wr c.toList (i*sz+off) vx.cells.toList).toArray[q]?=(wr c.toList (i*sz+off) vx.cells.toList)[q]?:=by simp
     have hlv:vx.cells.toList.length=xs.length:=by simp [← ha,hlx]
     rw [e,S1 _ _ _ _ (by simp;omega),hlv]
     by_cases hki:k=i
     ·subst hki
      simp only [if_true] at hy
      rw [hput,Rb _ _ _ _ (by omega)] at hy
      split at hy
      ·rename_i hcd
       rw [if_pos (by omega),show k*sz+j-(k*sz+off)=j-off by omega]
       have hcf:Be y=true:=List.all_eq_true.1 h7 _ (List.mem_of_getElem? hy)
       have hj:=(List.getElem?_eq_some_iff.1 hy).1
       have hux:x.cells[j-off]?=some (x.cells[j-off]'(by omega)):=List.getElem?_eq_getElem (by omega)
       obtain ⟨y',hy',hr'⟩:=hbb _ _ hux
       exact ⟨hcf,y',by simpa using hy',(Cf hH hr' ((Bf _ _ hxs).2 _ _ _ hux hy)).mono hE.sub hE.kept⟩
      ·rename_i hcd
       rw [if_neg (by omega)]
       obtain ⟨hcf,y',hy',hr'⟩:=hr _ _ _ hk hy
       exact ⟨hcf,y',by simpa using hy',hr'.mono hE.sub hE.kept⟩
     ·simp only [if_neg hki] at hy
      have hjl:j<sz:=by have:=(List.getElem?_eq_some_iff.1 hy).1;rw [hgl k hk] at this;exact this
      have hne:¬ (i*sz+off≤k*sz+j∧k*sz+j<i*sz+off+xs.length):=by
       intro ⟨p,q⟩
       rcases Nat.lt_or_gt_of_ne hki with hlt | hgt
       ·have:(k+1)*sz≤i*sz:=Nat.mul_le_mul_right _ hlt
        rw [Nat.add_mul] at this;omega
       ·have:(i+1)*sz≤k*sz:=Nat.mul_le_mul_right _ hgt
        rw [Nat.add_mul] at this;omega
      rw [if_neg hne]
      obtain ⟨hcf,y',hy',hr'⟩:=hr _ _ _ hk hy
      exact ⟨hcf,y',by simpa using hy',hr'.mono hE.sub hE.kept⟩
  ·cases h
 ·cases h
end
section
variable {P:Program} {w:World} {Z:Nat→Prop} {m:Nat→Nat} {H:List HO} {ty:TypeId→Option TI} {ρ:Type} {r:ρ} {st:St} {K:U→St→Option ρ}
def Gl (P:Program) (ty:TypeId→Option TI):Prop:=P.follows .mixedOrders=true∧∀ t ti,ty t=some ti→It P t=some ti
theorem Cl {t:TypeId} {ti:TI} (h:It P t=some ti):∃ d,P.underlying t=some d∧ti.uk=MD d:=by
 obtain ⟨d,i,z,hd,hi,hz,rfl⟩:=ES h
 exact ⟨d,hd,rfl⟩
theorem Jq {d:TypeDesc} {fs:List (Nat × TypeId)} (h:MD d=.struct fs):∃ f,d=.struct f∧fs=f.toList.map fun f=>(f.offset,f.type):=by
 cases d <;> simp [MD] at h
 exact ⟨_,rfl,h.symm⟩
theorem CN {d:TypeDesc} {e:TypeId} (h:MD d=.slice e):d=.slice e:=by
 cases d <;> simp [MD] at h
 subst h;rfl
theorem PJ {d:TypeDesc} {n:Nat} {e:TypeId} (h:MD d=.array n e):d=.array n e:=by
 cases d <;> simp [MD] at h
 obtain ⟨rfl,rfl⟩:=h;rfl
theorem Jr {d:TypeDesc} {k:IntKind} (h:MD d=.int k):d=.int k:=by
 cases d <;> simp [MD] at h
 subst h;rfl
theorem HG {d:TypeDesc} (h:MD d=.str):d=.string:=by
 cases d <;> simp [MD] at h
 rfl
theorem Oo (hty:Gl P ty) {s:TypeId} {x:U} {vx:Value} {f:Nat} (hx:RepU w Z m st.heap x vx) (h:DV ty s x f st K=some r) :
  ∃ u,K u st=some r∧∃ v,(Instr.fieldAt s vx f).run P w=.ok v w∧RepU w Z m st.heap u v:=by
 unfold DV at h
 split at h
 ·rename_i ti hti
  split at h
  ·rename_i fs huk
   split at h
   ·rename_i off ft hf
    split at h
    ·rename_i tf htf
     replace h:=AI h;obtain ⟨h1,h⟩:=h
     obtain ⟨d,hd,hu⟩:=Cl (hty.2 _ _ hti)
     rw [huk] at hu
     obtain ⟨fa,rfl,rfl⟩:=Jq hu.symm
     rw [List.getElem?_map] at hf
     cases hfa:fa.toList[f]? with
     | none=>rw [hfa] at hf;cases hf
     | some fld =>
      rw [hfa] at hf
      simp only [Option.map_some,Option.some.injEq,Prod.mk.injEq] at hf
      obtain ⟨rfl,rfl⟩:=hf
      have hfa':fa[f]?=some fld:=by simpa using hfa
      have hne:tf.size ≠ 0:=by simpa using h1
      have hrun:∀ a:Addr,(Instr.fieldAt s (.pointer (some a)) f).run P w=.ok (.pointer (some (a.add fld.offset))) w:=by
       intro a
       simp only [Instr.fieldAt,Sem.run_bind,Ao hd,Result.andThen,hfa',Instr.sureAddr,Sem.run_pure,fieldPlace,Bc (hty.2 _ _ htf),hne,if_false]
      split at h
      ·rename_i o k
       split at h
       ·rename_i cs hob
        cases hx with
        | hp _ _ _ hone ho hv =>
         obtain rfl:=hv cs hob
         refine ⟨_,h,_,hrun _,?_⟩
         rw [Gk]
         exact .hp _ _ _ rfl ho (fun _ _=>rfl)
       ·cases h
      ·rename_i cs
       replace h:=AI h;obtain ⟨h2,h⟩:=h
       have h2:=of_decide_eq_true h2
       cases hx with
       | va _ a hZ V hV hr =>
        have hne:cs ≠ []:=by rintro rfl;simp at h2
        refine ⟨_,h,_,hrun _,?_⟩
        rw [Ch a (hZ hne).2]
        refine .va _ _ (fun _=>⟨(hZ hne).1,rfl⟩) (fun j=>V (fld.offset+j)) (fun j u hu=>?_) fun j u hu=>?_
        ·rw [List.getElem?_drop] at hu
         have:=hV _ _ hu
         simpa [Nat.add_assoc] using this
        ·rw [List.getElem?_drop] at hu
         exact hr _ _ hu
      ·rename_i o gen i k
       split at h
       ·rename_i sz n g hob
        replace h:=AI h;obtain ⟨h2,h⟩:=h
        have h2:=of_decide_eq_true h2
        cases hx with
        | ep _ _ _ _ _ hone ho hg hv =>
         obtain rfl:=hv _ _ _ hob h2
         refine ⟨_,h,_,hrun _,?_⟩
         rw [Gk]
         refine .ep _ _ _ _ _ rfl ho hg fun sz' n' g' e1 e2=>?_
         rw [hob] at e1;cases e1
         simp [Nat.add_assoc]
       ·cases h
      ·cases h
    ·cases h
   ·cases h
  ·cases h
 ·cases h
theorem On (hty:Gl P ty) (hH:HOK w Z m st.heap) {t:TypeId} {x ix:U} {vx vi:Value} (hx:RepU w Z m st.heap x vx) (hi:RepU w Z m st.heap ix vi) (h:DU ty t x ix st K=some r) :
  ∃ u,K u st=some r∧∃ v,(Instr.indexAt t vx vi).run P w=.ok v w∧RepU w Z m st.heap u v:=by
 unfold DU at h
 split at h
 ·rename_i ti ik i hti
  obtain ⟨d,hd,hu⟩:=Cl (hty.2 _ _ hti)
  cases hi with
  | f _ _ hi =>
  cases hi with
  | int _ _ =>
  split at h
  ·rename_i e huk
   rw [huk] at hu
   obtain rfl:=CN hu.symm
   split at h
   ·rename_i te n g hte
    replace h:=AI h;obtain ⟨h1,h⟩:=h
    replace h:=AI h;obtain ⟨h2,h⟩:=h
    replace h:=AI h;obtain ⟨h3,h⟩:=h
    have h1:=of_decide_eq_true h1
    have h2:=of_decide_eq_true h2
    have h3:=of_decide_eq_true h3
    cases hx with
    | f _ _ hx =>
    cases hx with
    | sl _ _ A c sz a V hc hs hk hA hV hr =>
     have hin:i.toNat<n:=by omega
     obtain ⟨rfl,hZa,hspot⟩:=hA (by omega)
     have hsz:sz=te.size:=by rw [← hs _ hin];exact h3
     refine ⟨_,h,.pointer (some (a.add (i.toNat*te.size))),?_,?_⟩
     ·simp only [Instr.indexAt,asIntOf,Sem.run_bind,Sem.run_pure,Result.andThen,Ao hd,Bool.and_false,Bc (hty.2 _ _ hte)]
      simp [h1,h2,Bc (hty.2 _ _ hte)]
     ·rw [Ch a hspot]
      refine .va _ _ (fun _=>⟨hZa,rfl⟩) (fun j=>V (i.toNat*sz+j)) (fun j u hu=>?_) fun j u hu=>hr _ _ _ hin hu
      have:=hV _ _ _ hin hu
      rw [← hsz]
      simpa [Nat.add_assoc] using this
   ·rename_i te n g hte
    replace h:=AI h;obtain ⟨h1,h⟩:=h
    replace h:=AI h;obtain ⟨h2,h⟩:=h
    replace h:=AI h;obtain ⟨h3,h⟩:=h
    have h1:=of_decide_eq_true h1
    have h2:=of_decide_eq_true h2
    have h3:=of_decide_eq_true h3
    cases hx with
    | f _ _ hx =>
    cases hx with
    | cl _ _ _ hx h0 =>
    cases hx with
    | sl _ _ A c sz a V hc hs hk hA hV hr =>
     have hin:i.toNat<n:=by omega
     obtain ⟨rfl,hZa,hspot⟩:=hA (by omega)
     have hsz:sz=te.size:=by rw [← hs _ hin];exact h3
     refine ⟨_,h,.pointer (some (a.add (i.toNat*te.size))),?_,?_⟩
     ·simp only [Instr.indexAt,asIntOf,Sem.run_bind,Sem.run_pure,Result.andThen,Ao hd,Bool.and_false,Bc (hty.2 _ _ hte)]
      simp [h1,h2,Bc (hty.2 _ _ hte)]
     ·rw [Ch a hspot]
      refine .va _ _ (fun _=>⟨hZa,rfl⟩) (fun j=>V (i.toNat*sz+j)) (fun j u hu=>?_) fun j u hu=>hr _ _ _ hin hu
      have:=hV _ _ _ hin hu
      rw [← hsz]
      simpa [Nat.add_assoc] using this
   ·rename_i te o gen off len hte
    split at h
    ·rename_i sz n g hob
     replace h:=AI h;obtain ⟨h1,h⟩:=h
     replace h:=AI h;obtain ⟨h2,h⟩:=h
     replace h:=AI h;obtain ⟨h3,h⟩:=h
     replace h:=AI h;obtain ⟨h4,h⟩:=h
     have h1:=of_decide_eq_true h1
     have h2:=of_decide_eq_true h2
     have h3:=of_decide_eq_true h3
     have h4:=of_decide_eq_true h4
     cases hx with
     | hs _ _ _ _ _ hone ho hg hv =>
      obtain ⟨hle,A,c,rfl,hc,hA,hcap⟩:=hv _ _ _ hob h1
      have hA:=hA (by omega)
      subst hA
      refine ⟨_,h,.pointer (some ((⟨m o,off*sz,none⟩:Addr).add (i.toNat*te.size))),?_,?_⟩
      ·simp only [Instr.indexAt,asIntOf,Sem.run_bind,Sem.run_pure,Result.andThen,Ao hd,Bool.and_false,Bc (hty.2 _ _ hte)]
       simp [h2,h3,Bc (hty.2 _ _ hte)]
      ·rw [Gk]
       refine .ep _ _ _ _ _ rfl ho hg fun sz' n' g' e1 e2=>?_
       rw [hob] at e1;cases e1
       rw [← h4,Nat.add_mul]
       rfl
    ·cases h
   ·cases h
  ·rename_i n e huk
   rw [huk] at hu
   obtain rfl:=PJ hu.symm
   split at h
   ·rename_i te o off hte
    split at h
    ·rename_i cs hob
     replace h:=AI h;obtain ⟨h1,h⟩:=h
     replace h:=AI h;obtain ⟨h2,h⟩:=h
     have h1:=of_decide_eq_true h1
     have h2:=of_decide_eq_true h2
     cases hx with
     | hp _ _ _ hone ho hv =>
      obtain rfl:=hv _ hob
      refine ⟨_,h,.pointer (some ((⟨m o,off,none⟩:Addr).add (i.toNat*te.size))),?_,?_⟩
      ·simp only [Instr.indexAt,asIntOf,Instr.sureAddr,Sem.run_bind,Sem.run_pure,Result.andThen,Ao hd,Bc (hty.2 _ _ hte)]
       simp [h1,h2,Bc (hty.2 _ _ hte)]
      ·rw [Gk];exact .hp _ _ _ rfl ho fun _ _=>rfl
    ·cases h
   ·rename_i te cs hte
    replace h:=AI h;obtain ⟨h1,h⟩:=h
    replace h:=AI h;obtain ⟨h2,h⟩:=h
    replace h:=AI h;obtain ⟨h3,h⟩:=h
    have h1:=of_decide_eq_true h1
    have h2:=of_decide_eq_true h2
    have h3:=of_decide_eq_true h3
    cases hx with
    | va _ a hZ V hV hr =>
     have hne:cs ≠ []:=by rintro rfl;simp at h3
     refine ⟨_,h,.pointer (some (a.add (i.toNat*te.size))),?_,?_⟩
     ·simp only [Instr.indexAt,asIntOf,Instr.sureAddr,Sem.run_bind,Sem.run_pure,Result.andThen,Ao hd,Bc (hty.2 _ _ hte)]
      simp [h1,h2,Bc (hty.2 _ _ hte)]
     ·rw [Ch a (hZ hne).2]
      refine .va _ _ (fun _=>⟨(hZ hne).1,rfl⟩) (fun j=>V (i.toNat*te.size+j)) (fun j u hu=>?_) fun j u hu=>?_
      ·rw [List.getElem?_drop] at hu
       have:=hV _ _ hu
       simpa [Nat.add_assoc] using this
      ·rw [List.getElem?_drop] at hu
       exact hr _ _ hu
   ·cases h
  ·cases h
 ·cases h
theorem kK {t:TypeId} {ti:TI} (ht:It P t=some ti) {cs:Array Value} {off:Nat} (hin:off+ti.size≤cs.size) (h1:(ti.isAgg || ti.size==1)=true) :
  (part t cs off).run P w=.ok (if ti.isAgg then .agg (cs.extract off (off+ti.size)) else cs.getD off undef) w:=by
 unfold part
 simp only [Sem.run_bind,aP ht,Result.andThen]
 cases hag:ti.isAgg with
 | true=>simp [Bc ht]
 | false =>
  rw [hag] at h1
  simp only [Bool.false_or,beq_iff_eq] at h1
  have:off<cs.size:=by omega
  simp [this]
theorem XK (hty:Gl P ty) {t:TypeId} {x:U} {vx:Value} {f:Nat} (hx:RepU w Z m st.heap x vx) (h:Ht ty t x f st K=some r) :
  ∃ u,K u st=some r∧∃ v,(Instr.field t vx f).run P w=.ok v w∧RepU w Z m st.heap u v:=by
 unfold Ht at h
 split at h
 ·rename_i ti hti
  split at h
  ·rename_i fs huk
   split at h
   ·rename_i off ft hf
    split at h
    ·rename_i tf htf
     replace h:=AI h;obtain ⟨h1,h⟩:=h
     simp only [Bool.and_eq_true,decide_eq_true_eq] at h1
     obtain ⟨⟨hagg,h1⟩,hin⟩:=h1
     obtain ⟨d,hd,hu⟩:=Cl (hty.2 _ _ hti)
     rw [huk] at hu
     obtain ⟨fa,rfl,rfl⟩:=Jq hu.symm
     rw [List.getElem?_map] at hf
     cases hfa:fa.toList[f]? with
     | none=>rw [hfa] at hf;cases hf
     | some fld =>
      rw [hfa] at hf
      simp only [Option.map_some,Option.some.injEq,Prod.mk.injEq] at hf
      obtain ⟨rfl,rfl⟩:=hf
      have hfa':fa[f]?=some fld:=by simpa using hfa
            -- the cells of x and of its value
      have key:∃ vs:List Value,vx=.agg vs.toArray∧x.cells.length=vs.length∧∀ (j:Nat) (u:U) (v:Value),x.cells[j]?=some u→vs[j]?=some v→RepU w Z m st.heap u v:=by
       cases hx with
       | agg cs vs hl hr=>exact ⟨vs,rfl,hl,hr⟩
       | f y v hy =>
        cases hy with
        | agg cs vs hl hr =>
         refine ⟨vs,rfl,by simpa [U.cells] using hl,fun j u v hu hv=>?_⟩
         simp only [U.cells,List.getElem?_map] at hu
         cases hc:cs[j]? with
         | none=>rw [hc] at hu;cases hu
         | some y=>rw [hc] at hu;cases hu;exact .f _ _ (hr j y v hc hv)
        | _=>simp [Cd] at hagg
       | _=>simp [Cd] at hagg
      obtain ⟨vs,rfl,hl,hr⟩:=key
      refine ⟨_,h,(if tf.isAgg then .agg (vs.toArray.extract fld.offset (fld.offset+tf.size)) else vs.toArray.getD fld.offset undef),?_,?_⟩
      ·simp only [Instr.field,Sem.run_bind,Ao hd,Result.andThen,hfa',asAgg,Sem.run_pure]
       exact kK (hty.2 _ _ htf) (by simp;omega) h1
      ·have hlen2:((x.cells.drop fld.offset).take tf.size).length=tf.size:=by simp;omega
       unfold mkU
       split
       ·have e:vs.toArray.extract fld.offset (fld.offset+tf.size)=((vs.drop fld.offset).take tf.size).toArray:=by
         simp [List.extract_eq_take_drop]
        rw [e]
        refine .agg _ _ (by simp;omega) fun j u v hu hv=>?_
        rw [Bt] at hu hv
        split at hu
        ·rename_i hj;rw [if_pos hj] at hv;exact hr _ _ _ hu hv
        ·cases hu
       ·rename_i hag
        simp only [hag,Bool.false_or,beq_iff_eq] at h1
        have hlt:fld.offset<vs.length:=by omega
        have e:vs.toArray.getD fld.offset undef=vs[fld.offset]:=by simp [hlt]
        rw [e]
        have hx0:((x.cells.drop fld.offset).take tf.size).headD .bad=x.cells[fld.offset]'(by omega):=by
         rw [h1]
         have:(x.cells.drop fld.offset)=x.cells[fld.offset]'(by omega) :: x.cells.drop (fld.offset+1):=List.drop_eq_getElem_cons (by omega)
         rw [this];rfl
        rw [hx0]
        exact hr _ _ _ (List.getElem?_eq_getElem (by omega)) (List.getElem?_eq_getElem hlt)
    ·cases h
   ·cases h
  ·cases h
 ·cases h
end
section
variable {P:Program} {w:World} {Z:Nat→Prop} {m:Nat→Nat} {H:List HO} {ty:TypeId→Option TI} {ρ:Type} {r:ρ} {st:St} {K:U→St→Option ρ}
def JO (w:World) (Z:Nat→Prop) (m:Nat→Nat) (H:List HO):Option U→Option Value→Prop
 | none,none=>True
 | some u,some v=>RepU w Z m H u v
 | _,_=>False
theorem M1 {lo:Option U} {vlo:Option Value} (hr:JO w Z m H lo vlo) {d l:Int} (hb:bnd lo d=some l) (y:Nat) (h0:0≤l) (h1:l≤y) :
  (vlo=none∧l=d) ∨ ∃ v,vlo=some v∧∀ code,(Instr.sliceBound v y code).run P w=.ok l.toNat w:=by
 cases lo with
 | none =>
  cases vlo with
  | none=>simp only [bnd,Option.some.injEq] at hb;exact .inl ⟨rfl,hb.symm⟩
  | some v=>exact hr.elim
 | some u =>
  cases vlo with
  | none=>exact hr.elim
  | some v =>
   right
   refine ⟨v,rfl,?_⟩
   unfold bnd at hb
   split at hb
   ·rename_i heq;cases heq
   ·rename_i k i heq
    cases heq
    cases hb
    cases hr with
    | f _ _ hr=>cases hr with
     | int=>simp [Instr.sliceBound,asIntOf,h0,h1]
   ·cases hb
theorem Iy {lo hi:Option U} {vlo vhi:Option Value} (hlo:JO w Z m H lo vlo) (hhi:JO w Z m H hi vhi) {len cap:Nat} {l h:Int} (isSlice:Bool)
  (bl:bnd lo 0=some l) (bh:bnd hi len=some h) (h0:0≤l) (h1:l≤h) (h2:h≤len) (h3:len≤cap) :
  (Instr.sliceBounds isSlice len cap vlo vhi none).run P w=.ok (l.toNat,h.toNat,cap) w:=by
 unfold Instr.sliceBounds
 simp only [Sem.run_bind,Sem.run_pure,Result.andThen]
 have hh:0≤h:=by omega
 rcases M1 (P:=P) (w:=w) hhi bh cap hh (by omega) with ⟨rfl,e⟩ | ⟨v,rfl,e⟩
 ·subst e
  rcases M1 (P:=P) (w:=w) hlo bl len h0 (by omega) with ⟨rfl,e2⟩ | ⟨v2,rfl,e2⟩
  ·subst e2;simp
  ·simp [e2]
 ·rcases M1 (P:=P) (w:=w) hlo bl h.toNat h0 (by omega) with ⟨rfl,e2⟩ | ⟨v2,rfl,e2⟩
  ·subst e2;simp [e]
  ·simp [e,e2]
theorem Jz {lo hi:Option U} {vlo vhi:Option Value} {vm:Value} (hlo:JO w Z m H lo vlo) (hhi:JO w Z m H hi vhi) {k:IntKind} (hm:RepU w Z m H (.f (.int k 0)) vm) {len cap:Nat} (isSlice:Bool)
  (bl:bnd lo 0=some 0) (bh:bnd hi len=some 0) (hn:hi.isSome=true) :
  (Instr.sliceBounds isSlice len cap vlo vhi (some vm)).run P w=.ok (0,0,0) w:=by
 unfold Instr.sliceBounds
 cases hm with
 | f _ _ hm=>cases hm with
 | int =>
 have em:∀ code,(Instr.sliceBound (.int k 0) cap code).run P w=.ok 0 w:=fun code=>by simp [Instr.sliceBound,asIntOf]
 simp only [Sem.run_bind,em,Result.andThen]
 rcases M1 (P:=P) (w:=w) hhi bh 0 (Int.le_refl _) (Int.le_refl _) with ⟨rfl,e⟩ | ⟨v,rfl,e⟩
 ·cases hi with
  | none=>cases hn
  | some u=>exact hhi.elim
 ·rcases M1 (P:=P) (w:=w) hlo bl 0 (Int.le_refl _) (Int.le_refl _) with ⟨rfl,e2⟩ | ⟨v2,rfl,e2⟩
  ·simp [e]
  ·simp [e,e2]
theorem Vi (hty:Gl P ty) (hH:HOK w Z m st.heap) {t:TypeId} {x:U} {vx:Value} {lo hi mx:Option U} {vlo vhi vmx:Option Value} (hx:RepU w Z m st.heap x vx)
  (hlo:JO w Z m st.heap lo vlo) (hhi:JO w Z m st.heap hi vhi) (hmx:JO w Z m st.heap mx vmx) (h:Hq ty t x lo hi mx st K=some r) :
  ∃ u,K u st=some r∧∃ v,(Instr.sliceAt t vx vlo vhi vmx).run P w=.ok v w∧RepU w Z m st.heap u v:=by
 unfold Hq at h
 split at h
 ·cases h
 ·rename_i ti hti
  obtain ⟨d,hd,hu⟩:=Cl (hty.2 _ _ hti)
  split at h
  ·-- strings
   rename_i s huk
   rw [huk] at hu
   obtain rfl:=HG hu.symm
   split at h
   ·rename_i l h' bl bh
    replace h:=AI h;obtain ⟨h1,h⟩:=h
    replace h:=AI h;obtain ⟨h2,h⟩:=h
    replace h:=AI h;obtain ⟨h3,h⟩:=h
    have h1:=of_decide_eq_true h1
    have h2:=of_decide_eq_true h2
    have h3:=of_decide_eq_true h3
    cases vmx with
    | some _=>exact hmx.elim
    | none =>
    cases hx with
    | f _ _ hx=>cases hx with
    | str =>
    refine ⟨_,h,.string (s.extract l.toNat h'.toNat),?_,.f _ _ (.str _)⟩
    simp only [Instr.sliceAt,Instr.slice,Sem.run_bind,Ao hd,Result.andThen,Option.isSome_none,Bool.false_eq_true,if_false,Sem.run_pure,
     Iy hlo hhi (cap:=s.size) false bl bh h1 h2 h3 (Nat.le_refl _)]
   ·cases h
  ·-- frozen ones
   rename_i e n g huk
   rw [huk] at hu
   obtain rfl:=CN hu.symm
   split at h
   ·rename_i te l h' hte bl bh
    replace h:=AI h;obtain ⟨h1,h⟩:=h
    replace h:=AI h;obtain ⟨h2,h⟩:=h
    replace h:=AI h;obtain ⟨h3,h⟩:=h
    replace h:=AI h;obtain ⟨h4,h⟩:=h
    have h1:=of_decide_eq_true h1
    have h2:=of_decide_eq_true h2
    have h3:=of_decide_eq_true h3
    simp only [Bool.or_eq_true,decide_eq_true_eq] at h4
    cases vmx with
    | some _=>exact hmx.elim
    | none =>
    cases hx with
    | f _ _ hx=>cases hx with
    | sl _ _ A c sz a V hc hs hk hA hV hr =>
    refine ⟨_,h,.slice (if c=l.toNat then A else A.map (·.add (l.toNat*te.size))) (h'.toNat-l.toNat) (c-l.toNat),?_,?_⟩
    ·simp only [Instr.sliceAt,Instr.slice,Sem.run_bind,Ao hd,Result.andThen,Sem.run_pure,Iy hlo hhi (cap:=c) true bl bh h1 h2 h3 hc,Bc (hty.2 _ _ hte)]
    ·refine .f _ _ (.sl _ _ _ _ sz ⟨a.block,a.off+l.toNat*sz,none⟩ (fun q=>V (l.toNat*sz+q)) (by omega) (fun i hi=>hs _ (by omega)) (fun i j u hi hu=>hk _ _ _ (by omega) hu) (fun hne=>?_) (fun i j u hi hu=>?_) fun i j u hi hu=>?_)
     ·obtain ⟨rfl,hz,hsp⟩:=hA (by omega)
      rw [if_neg (by omega)]
      refine ⟨?_,hz,rfl⟩
      simp only [Option.map_some]
      have:l.toNat*te.size=l.toNat*sz:=by
       rcases h4 with (h4 | h4) | h4
       ·rw [← h4,hs _ (by omega)]
       ·omega
       ·rw [h4];simp
      rw [this,Ch a hsp]
     ·have:=hV (l.toNat+i) j u (by omega) hu
      rw [Nat.add_mul] at this
      simpa [Nat.add_assoc] using this
     ·have:=hr (l.toNat+i) j u (by omega) hu
      rw [Nat.add_mul] at this
      simpa [Nat.add_assoc] using this
   ·rename_i te k l h' hte bl bh
    replace h:=AI h;obtain ⟨hn,h⟩:=h
    replace h:=AI h;obtain ⟨h1,h⟩:=h
    replace h:=AI h;obtain ⟨h2,h⟩:=h
    obtain rfl:=of_decide_eq_true h1
    obtain rfl:=of_decide_eq_true h2
    cases vmx with
    | none=>exact hmx.elim
    | some vm =>
    cases hx with
    | f _ _ hx=>cases hx with
    | sl _ _ A c sz a V hc hs hk hA hV hr =>
    refine ⟨_,h,.slice (if (0:Nat)=0 then A else A.map (·.add (0*te.size))) (0-0) (0-0),?_,.nils _⟩
    simp only [Instr.sliceAt,Instr.slice,Sem.run_bind,Ao hd,Result.andThen,Sem.run_pure,Jz hlo hhi hmx (cap:=c) true bl bh hn,Bc (hty.2 _ _ hte)]
   ·cases h
  ·-- own ones
   rename_i e o gen off len huk
   rw [huk] at hu
   obtain rfl:=CN hu.symm
   split at h
   ·rename_i sz n g te hob hte
    replace h:=AI h;obtain ⟨hgen,h⟩:=h
    replace h:=AI h;obtain ⟨hsz,h⟩:=h
    have hgen:=of_decide_eq_true hgen
    have hsz:=of_decide_eq_true hsz
    cases hx with
    | hs _ _ _ _ _ hone ho hg hv =>
    obtain ⟨hle,A,c,rfl,hc,hA,hcap⟩:=hv _ _ _ hob hgen
    split at h
    ·rename_i l h' bl bh
     replace h:=AI h;obtain ⟨h1,h⟩:=h
     replace h:=AI h;obtain ⟨h2,h⟩:=h
     replace h:=AI h;obtain ⟨h3,h⟩:=h
     have h1:=of_decide_eq_true h1
     have h2:=of_decide_eq_true h2
     have h3:=of_decide_eq_true h3
     cases vmx with
     | some _=>exact hmx.elim
     | none =>
     refine ⟨_,h,.slice (if c=l.toNat then A else A.map (·.add (l.toNat*te.size))) (h'.toNat-l.toNat) (c-l.toNat),?_,?_⟩
     ·simp only [Instr.sliceAt,Instr.slice,Sem.run_bind,Ao hd,Result.andThen,Sem.run_pure,Iy hlo hhi (cap:=c) true bl bh h1 h2 h3 hc,Bc (hty.2 _ _ hte)]
     ·refine .hs _ _ _ _ _ rfl ho hg fun sz' n' g' e1 e2=>?_
      rw [hob] at e1;cases e1
      refine ⟨by omega,_,_,rfl,by omega,fun hne=>?_,?_⟩
      ·rw [if_neg (by omega),hA (by omega)]
       simp only [Option.map_some,Gk,← hsz,Nat.add_mul]
      ·have:off+l.toNat+(c-l.toNat)=off+c:=by omega
       rw [this];exact hcap
    ·rename_i k l h' bl bh
     replace h:=AI h;obtain ⟨hn,h⟩:=h
     replace h:=AI h;obtain ⟨h1,h⟩:=h
     replace h:=AI h;obtain ⟨h2,h⟩:=h
     obtain rfl:=of_decide_eq_true h1
     obtain rfl:=of_decide_eq_true h2
     cases vmx with
     | none=>exact hmx.elim
     | some vm =>
     refine ⟨_,h,.slice (if (0:Nat)=0 then A else A.map (·.add (0*te.size))) (0-0) (0-0),?_,.nils _⟩
     simp only [Instr.sliceAt,Instr.slice,Sem.run_bind,Ao hd,Result.andThen,Sem.run_pure,Jz hlo hhi hmx (cap:=c) true bl bh hn,Bc (hty.2 _ _ hte)]
    ·cases h
   ·cases h
  ·-- empty ones
   rename_i e huk
   rw [huk] at hu
   obtain rfl:=CN hu.symm
   cases hx with
   | nils A =>
   split at h
   ·rename_i te l h' hte bl bh
    replace h:=AI h;obtain ⟨h1,h⟩:=h
    replace h:=AI h;obtain ⟨h2,h⟩:=h
    obtain rfl:=of_decide_eq_true h1
    obtain rfl:=of_decide_eq_true h2
    cases vmx with
    | some _=>exact hmx.elim
    | none =>
    refine ⟨_,h,.slice (if (0:Nat)=0 then A else A.map (·.add (0*te.size))) (0-0) (0-0),?_,.nils _⟩
    simp only [Instr.sliceAt,Instr.slice,Sem.run_bind,Ao hd,Result.andThen,Sem.run_pure,Iy hlo hhi (len:=0) (cap:=0) true bl bh (Int.le_refl _) (Int.le_refl _) (Int.le_refl _) (Nat.le_refl _),Bc (hty.2 _ _ hte)]
    simp
   ·rename_i te k l h' hte bl bh
    replace h:=AI h;obtain ⟨hn,h⟩:=h
    replace h:=AI h;obtain ⟨h1,h⟩:=h
    replace h:=AI h;obtain ⟨h2,h⟩:=h
    obtain rfl:=of_decide_eq_true h1
    obtain rfl:=of_decide_eq_true h2
    cases vmx with
    | none=>exact hmx.elim
    | some vm =>
    refine ⟨_,h,.slice (if (0:Nat)=0 then A else A.map (·.add (0*te.size))) (0-0) (0-0),?_,.nils _⟩
    simp only [Instr.sliceAt,Instr.slice,Sem.run_bind,Ao hd,Result.andThen,Sem.run_pure,Jz hlo hhi hmx (len:=0) (cap:=0) true bl bh hn,Bc (hty.2 _ _ hte)]
   ·cases h
  ·cases h
end
section
variable {P:Program} {w:World} {Z:Nat→Prop} {m:Nat→Nat} {H:List HO} {ty:TypeId→Option TI} {ρ:Type} {r:ρ} {st:St} {K:U→St→Option ρ}
theorem XZ (op:BinOp) (t:TypeId) (x y:Operand) (k k':IntKind) (a b:Int):(eqGuard op t x y (.int k a) (.int k' b)).run P w=.ok () w:=by
 unfold eqGuard
 cases op <;> rfl
theorem XY (op:BinOp) (t:TypeId) (x y:Operand) (a b:ByteArray):(eqGuard op t x y (.string a) (.string b)).run P w=.ok () w:=by
 unfold eqGuard
 cases op <;> rfl
theorem Tn (op:BinOp) (t:TypeId) (x y:Operand) (a b:Bool):(eqGuard op t x y (.bool a) (.bool b)).run P w=.ok () w:=by
 unfold eqGuard
 cases op <;> rfl
theorem KK (op:BinOp) (t:TypeId) (x y:Operand) (a b:Option Addr):(eqGuard op t x y (.pointer a) (.pointer b)).run P w=.ok () w:=by
 unfold eqGuard
 cases op <;> rfl
theorem EP {k:IntKind} {a:Int} {v:Value} (h:RepU w Z m H (.f (.int k a)) v):v=.int k a:=by
 cases h with | f _ _ h=>cases h with | int=>rfl
theorem Iv {s:ByteArray} {v:Value} (h:RepU w Z m H (.f (.str s)) v):v=.string s:=by
 cases h with | f _ _ h=>cases h with | str=>rfl
theorem Hb {b:Bool} {v:Value} (h:RepU w Z m H (.f (.bool b)) v):v=.bool b:=by
 cases h with | f _ _ h=>cases h with | bool=>rfl
theorem CI (k:IntKind) (a:Int):RepU w Z m H (.f (.int k a)) (.int k a):=.f _ _ (.int _ _)
theorem Bi (b:Bool):RepU w Z m H (.f (.bool b)) (.bool b):=.f _ _ (.bool _)
theorem TD (s:ByteArray):RepU w Z m H (.f (.str s)) (.string s):=.f _ _ (.str _)
theorem PB (op:BinOp) (k:IntKind) (a b:Int) (h:op=.and ∨ op=.or ∨ op=.xor ∨ op=.andNot):(Op.intBits op k a b).run P w=.ok (.int k (Bz op k a b)) w:=by
 rcases h with rfl | rfl | rfl | rfl <;> rfl
theorem QK (t:TypeId) (h:P.underlying t=some .bool) (a b:Bool):(Op.equal t (.bool a) (.bool b)).run P w=.ok (a==b) w:=by
 unfold Op.equal Op.maxDepth Op.equalIn
 simp only [Sem.run_bind,Ao h,Result.andThen,Sem.run_pure]
theorem HD (t e:TypeId) (h:P.underlying t=some (.pointer e)) (a b:Option Addr) (hn:a=none ∨ b=none):(Op.equal t (.pointer a) (.pointer b)).run P w=.ok (a.isNone&&b.isNone) w:=by
 unfold Op.equal Op.maxDepth Op.equalIn
 simp only [Sem.run_bind,Ao h,Result.andThen]
 rcases hn with rfl | rfl
 ·simp
 ·cases a <;> simp
theorem A6 {op:BinOp} {t:TypeId} {x y:Operand} {vx vy v:Value} (hg:(eqGuard op t x y vx vy).run P w=.ok () w) (hb:(binOp op t vx vy).run P w=.ok v w) :
  (do eqGuard op t x y vx vy;binOp op t vx vy:Sem Value).run P w=.ok v w:=by
 simp only [Sem.run_bind,hg,Result.andThen,hb]
/-! ### '==' of structs -/
def Jk (w:World) (Z:Nat→Prop) (xs:List F) (vs:List Value):Prop:=xs.length=vs.length∧∀ (j:Nat) (x:F) (v:Value),xs[j]?=some x→vs[j]?=some v→RepF w Z x v
theorem Jk.part {xs:List F} {vs:List Value} (h:Jk w Z xs vs) (off n:Nat):Jk w Z ((xs.drop off).take n) ((vs.drop off).take n):=by
 refine ⟨by simp [h.1],fun j x v hx hv=>?_⟩
 rw [Bt] at hx hv
 split at hx
 ·rename_i hj;rw [if_pos hj] at hv;exact h.2 _ _ _ hx hv
 ·cases hx
theorem Jk.one {x:F} {vs:List Value} (h:Jk w Z [x] vs):∃ v,vs=[v]∧RepF w Z x v:=by
 match vs,h with
 | [v],h=>exact ⟨v,rfl,h.2 0 x v rfl rfl⟩
 | [],h=>exact absurd h.1 (by simp)
 | _ :: _ :: _,h=>exact absurd h.1 (by simp)
theorem Rg {t:TypeId} {d:TypeDesc} (hd:P.underlying t=some d) {i:TypeInfo} (hi:P.info? t=some i) {cs:List Value} {off:Nat} (hin:off+P.cellsOf t≤cs.length) :
  (part t cs.toArray off).run P w=(match d with
   | .struct _ | .array _ _=>.ok (.agg ((cs.drop off).take (P.cellsOf t)).toArray) w
   | _ => match cs[off]? with | some v => .ok v w | none => .halt (.stuck "part: no such cell") w) := by
 have hc:P.cellsOf t=i.size:=by simp [Program.cellsOf,hi]
 have hsz:(sizeOf t).run P w=.ok i.size w:=by unfold sizeOf typeInfo;simp [hi]
 have hag:(isAgg t).run P w=.ok (match d with | .struct _ | .array _ _=>true | _=>false) w:=by
  unfold isAgg
  simp only [Sem.run_bind,Ao hd,Result.andThen]
  cases d <;> simp
 unfold part
 simp only [Sem.run_bind,hag,Result.andThen]
 cases d <;> simp [hsz,hc,List.extract_eq_take_drop]
 all_goals (cases cs[off]? <;> rfl)
theorem YQ {t:TypeId} {d:TypeDesc} (hd:P.underlying t=some d):∃ i,P.info? t=some i:=by
 unfold Program.underlying at hd
 split at hd
 ·rename_i h;exact ⟨_,h⟩
 ·rename_i h;exact ⟨_,h⟩
 ·cases hd
theorem gW:∀ (d:Nat) (t:TypeId) (xs ys:List F) (b:Bool),eqV P d t xs ys=some b→∀ (vs us:List Value) (w:World) (Z:Nat→Prop),Jk w Z xs vs→Jk w Z ys us→∀ D,
  (match P.underlying t with
   | some (.struct _)=>(Op.equalIn (D+d) t (.agg vs.toArray) (.agg us.toArray)).run P w=.ok b w
   | some _=>∃ v u,vs=[v]∧us=[u]∧(Op.equalIn (D+d) t v u).run P w=.ok b w
   | none=>False):=by
 intro d
 induction d with
 | zero=>intro t xs ys b h;simp [eqV] at h
 | succ d ih =>
  intro t xs ys b h vs us w Z hx hy D
  simp only [eqV] at h
  split at h
  ·rename_i hu
   cases h
   obtain ⟨v,rfl,hv⟩:=hx.one
   obtain ⟨u,rfl,hu'⟩:=hy.one
   cases hv;cases hu'
   rw [hu]
   refine ⟨_,_,rfl,rfl,?_⟩
   rw [← Nat.add_assoc]
   unfold Op.equalIn
   simp only [Sem.run_bind,Ao hu,Result.andThen,Sem.run_pure]
  ·rename_i k0 k a k' b' hu
   split at h
   ·rename_i hk
    cases h
    obtain ⟨v,rfl,hv⟩:=hx.one
    obtain ⟨u,rfl,hu'⟩:=hy.one
    cases hv;cases hu'
    rw [hu]
    refine ⟨_,_,rfl,rfl,?_⟩
    rw [← Nat.add_assoc]
    unfold Op.equalIn
    simp only [Sem.run_bind,Ao hu,Result.andThen,hk,if_true,Sem.run_pure]
   ·cases h
  ·rename_i hu
   cases h
   obtain ⟨v,rfl,hv⟩:=hx.one
   obtain ⟨u,rfl,hu'⟩:=hy.one
   cases hv;cases hu'
   rw [hu]
   refine ⟨_,_,rfl,rfl,?_⟩
   rw [← Nat.add_assoc]
   unfold Op.equalIn
   simp only [Sem.run_bind,Ao hu,Result.andThen,Sem.run_pure]
  ·rename_i xs ys _ _ _ fs hu
   split at h
   ·cases h
   ·rename_i hst
    simp only [Bool.or_eq_true,bne_iff_ne,ne_eq,not_or,Bool.not_eq_true,Decidable.not_not] at hst
    obtain ⟨⟨hst,hxl⟩,hyl⟩:=hst
    rw [hu]
    simp only
    rw [← Nat.add_assoc]
    have key:∀ (l:List Field) (b:Bool),nZ P (eqV P d) l xs ys=some b →
      (forIn (m:=Sem) l ((none,()):Option Bool × Unit) fun f __s =>
       if f.name ≠ "_" then do
        let x ← part f.type vs.toArray f.offset
        let y ← part f.type us.toArray f.offset
        let z ← Op.equalIn (D+d) f.type x y
        if (!z)=true then pure (ForInStep.done (some false,())) else pure (ForInStep.yield (none,()))
       else pure (ForInStep.yield (none,()))).run P w=.ok (if b then (none,()) else (some false,())) w:=by
     intro l
     induction l with
     | nil=>intro b h;simp only [nZ,Option.some.injEq] at h;subst h;simp
     | cons f l ihl =>
      intro b h
      simp only [nZ] at h
      split at h
      ·cases h
      ·rename_i hc
       simp only [Bool.or_eq_true,decide_eq_true_eq,beq_iff_eq,not_or,Nat.not_lt] at hc
       obtain ⟨⟨hn,hc1⟩,hc2⟩:=hc
       split at h
       ·rename_i a b' ha hb'
        cases h
        have h1:=ih f.type _ _ a ha _ _ w Z (hx.part f.offset (P.cellsOf f.type)) (hy.part f.offset (P.cellsOf f.type)) D
        have hlv:xs.length=vs.length:=hx.1
        have hlu:ys.length=us.length:=hy.1
        cases hd:P.underlying f.type with
        | none=>rw [hd] at h1;exact h1.elim
        | some d' =>
         obtain ⟨i,hi⟩:=YQ hd
         have p1:=Rg (w:=w) hd hi (cs:=vs) (off:=f.offset) (by omega)
         have p2:=Rg (w:=w) hd hi (cs:=us) (off:=f.offset) (by omega)
         have ihb:=ihl b' hb'
         rw [hd] at h1
         have fin:∀ x y,(part f.type vs.toArray f.offset).run P w=.ok x w→(part f.type us.toArray f.offset).run P w=.ok y w→(Op.equalIn (D+d) f.type x y).run P w=.ok a w →
           (forIn (m:=Sem) (f :: l) ((none,()):Option Bool × Unit) fun f __s =>
            if f.name ≠ "_" then do
             let x ← part f.type vs.toArray f.offset
             let y ← part f.type us.toArray f.offset
             let z ← Op.equalIn (D+d) f.type x y
             if (!z)=true then pure (ForInStep.done (some false,())) else pure (ForInStep.yield (none,()))
            else pure (ForInStep.yield (none,()))).run P w=.ok (if (a&&b') then (none,()) else (some false,())) w:=by
          intro x y q1 q2 q3
          have hn' : f.name ≠ "_" := hn
          rw [List.forIn_cons,Sem.run_bind,if_pos hn']
          have hst:(part f.type vs.toArray f.offset >>= fun x=>part f.type us.toArray f.offset >>= fun y=>Op.equalIn (D+d) f.type x y >>= fun z =>
            if (!z)=true then (pure (ForInStep.done (some false,())):Sem (ForInStep (Option Bool × Unit))) else pure (ForInStep.yield (none,()))).run P w =
           .ok (if a then ForInStep.yield (none,()) else ForInStep.done (some false,())) w:=by
           simp only [Sem.run_bind,q1,q2,q3,Result.andThen]
           cases a <;> simp
          rw [hst]
          cases a with
          | true=>simpa using ihb
          | false=>simp
         cases d' with
         | struct fs'=>exact fin _ _ p1 p2 h1
         | array n e =>
          obtain ⟨v,u,e1,e2,h1⟩:=h1
          cases d <;> simp [eqV,hd] at ha
         | _ =>
          obtain ⟨v,u,e1,e2,h1⟩:=h1
          have g1:vs[f.offset]?=some v:=by
           have:=congrArg (·[0]?) e1
           simp only [Bt] at this
           split at this
           ·simpa using this
           ·simp at this
          have g2:us[f.offset]?=some u:=by
           have:=congrArg (·[0]?) e2
           simp only [Bt] at this
           split at this
           ·simpa using this
           ·simp at this
          simp only [g1] at p1
          simp only [g2] at p2
          exact fin _ _ p1 p2 h1
       ·cases h
    unfold Op.equalIn
    simp only [Sem.run_bind,Ao hu,Result.andThen,run_program,hst]
    simp only [Bool.false_eq_true,if_false,Sem.run_bind,Result.andThen,← Array.forIn_toList]
    rw [key _ _ h]
    cases b <;> rfl
  ·cases h
theorem iR {op:BinOp} {t:TypeId} {ox oy:Operand} {x y:U} {vx vy:Value} (hH:HOK w Z m st.heap) (hx:RepU w Z m st.heap x vx) (hy:RepU w Z m st.heap y vy) (h:OU P op t x y st K=some r) :
  ∃ u,K u st=some r∧∃ v,(do eqGuard op t ox oy vx vy;binOp op t vx vy:Sem Value).run P w=.ok v w∧RepU w Z m st.heap u v:=by
 unfold OU at h
 split at h
 ·-- whole numbers
  rename_i k a k' b
  obtain rfl:=EP hx
  obtain rfl:=EP hy
  have hg:=fun o=>XZ (P:=P) (w:=w) o t ox oy k k' a b
  split at h
  ·replace h:=AI h;obtain ⟨h1,h⟩:=h
   have h1:=of_decide_eq_true h1
   exact ⟨_,h,_,A6 (hg _) (by simp [binOp,Op.shift,show ¬ b<0 by omega]),CI _ _⟩
  ·replace h:=AI h;obtain ⟨h1,h⟩:=h
   have h1:=of_decide_eq_true h1
   exact ⟨_,h,_,A6 (hg _) (by simp [binOp,Op.shift,show ¬ b<0 by omega]),CI _ _⟩
  ·rename_i hs1 hs2
   replace h:=AI h;obtain ⟨h1,h⟩:=h
   obtain rfl:=of_decide_eq_true h1
   split at h
   ·exact ⟨_,h,_,A6 (hg _) (by simp [binOp,Op.intArith]),CI _ _⟩
   ·exact ⟨_,h,_,A6 (hg _) (by simp [binOp,Op.intArith]),CI _ _⟩
   ·exact ⟨_,h,_,A6 (hg _) (by simp [binOp,Op.intArith]),CI _ _⟩
   ·replace h:=AI h;obtain ⟨h2,h⟩:=h
    have h2:b ≠ 0:=by simpa using h2
    exact ⟨_,h,_,A6 (hg _) (by simp [binOp,Op.intDiv,h2]),CI _ _⟩
   ·replace h:=AI h;obtain ⟨h2,h⟩:=h
    have h2:b ≠ 0:=by simpa using h2
    exact ⟨_,h,_,A6 (hg _) (by simp [binOp,Op.intDiv,h2]),CI _ _⟩
   ·exact ⟨_,h,_,A6 (hg _) (by simp [binOp,Op.intCmp]),Bi _⟩
   ·exact ⟨_,h,_,A6 (hg _) (by simp [binOp,Op.intCmp]),Bi _⟩
   ·exact ⟨_,h,_,A6 (hg _) (by simp [binOp,Op.intCmp]),Bi _⟩
   ·exact ⟨_,h,_,A6 (hg _) (by simp [binOp,Op.intCmp]),Bi _⟩
   ·exact ⟨_,h,_,A6 (hg _) (by simp [binOp,Op.intCmp]),Bi _⟩
   ·exact ⟨_,h,_,A6 (hg _) (by simp [binOp,Op.intCmp]),Bi _⟩
   ·exact ⟨_,h,_,A6 (hg _) (by simp only [binOp,ne_eq,not_true,if_false];exact PB _ _ _ _ (by simp)),CI _ _⟩
   ·exact ⟨_,h,_,A6 (hg _) (by simp only [binOp,ne_eq,not_true,if_false];exact PB _ _ _ _ (by simp)),CI _ _⟩
   ·exact ⟨_,h,_,A6 (hg _) (by simp only [binOp,ne_eq,not_true,if_false];exact PB _ _ _ _ (by simp)),CI _ _⟩
   ·exact ⟨_,h,_,A6 (hg _) (by simp only [binOp,ne_eq,not_true,if_false];exact PB _ _ _ _ (by simp)),CI _ _⟩
   ·cases h
 ·-- strings
  rename_i a b
  obtain rfl:=Iv hx
  obtain rfl:=Iv hy
  have hg:=fun o=>XY (P:=P) (w:=w) o t ox oy a b
  split at h
  ·replace h:=AI h;obtain ⟨h1,h⟩:=h
   have h1:=of_decide_eq_true h1
   have h2:¬ (((a.size+b.size:Nat):Int) > IntKind.i64.max):=by
    have e:(BC:Int)≤IntKind.i64.max:=by rw [DL];decide
    omega
   exact ⟨_,h,_,A6 (hg _) (by simp only [binOp,Op.stringOp,if_neg h2,Sem.run_pure]),TD _⟩
  ·exact ⟨_,h,_,A6 (hg _) (by simp [binOp,Op.stringOp]),Bi _⟩
  ·exact ⟨_,h,_,A6 (hg _) (by simp [binOp,Op.stringOp]),Bi _⟩
  ·exact ⟨_,h,_,A6 (hg _) (by simp [binOp,Op.stringOp]),Bi _⟩
  ·exact ⟨_,h,_,A6 (hg _) (by simp [binOp,Op.stringOp]),Bi _⟩
  ·exact ⟨_,h,_,A6 (hg _) (by simp [binOp,Op.stringOp]),Bi _⟩
  ·exact ⟨_,h,_,A6 (hg _) (by simp [binOp,Op.stringOp]),Bi _⟩
  ·cases h
 ·-- bools
  rename_i a b
  obtain rfl:=Hb hx
  obtain rfl:=Hb hy
  have hg:=fun o=>Tn (P:=P) (w:=w) o t ox oy a b
  replace h:=AI h;obtain ⟨h1,h⟩:=h
  split at h1
  ·rename_i hu
   split at h
   ·exact ⟨_,h,_,A6 (hg _) (by simp [binOp,QK t hu]),Bi _⟩
   ·exact ⟨_,h,_,A6 (hg _) (by simp [binOp,QK t hu]),Bi _⟩
   ·cases h
  ·cases h1
 ·-- pointers,nil
  cases hx;cases hy
  have hg:=fun o=>KK (P:=P) (w:=w) o t ox oy none none
  replace h:=AI h;obtain ⟨h1,h⟩:=h
  split at h1
  ·rename_i e hu
   split at h
   ·exact ⟨_,h,_,A6 (hg _) (by simp [binOp,HD t e hu]),Bi _⟩
   ·exact ⟨_,h,_,A6 (hg _) (by simp [binOp,HD t e hu]),Bi _⟩
   ·cases h
  ·cases h1
 ·rename_i o off
  cases hx
  split at h
  ·rename_i cs hob
   cases hy with
   | hp _ _ _ hone ho hv =>
   obtain rfl:=hv cs hob
   have hg:=fun op=>KK (P:=P) (w:=w) op t ox oy none (some ⟨m o,off,none⟩)
   replace h:=AI h;obtain ⟨h1,h⟩:=h
   split at h1
   ·rename_i e hu
    split at h
    ·exact ⟨_,h,_,A6 (hg _) (by simp [binOp,HD t e hu]),Bi _⟩
    ·exact ⟨_,h,_,A6 (hg _) (by simp [binOp,HD t e hu]),Bi _⟩
    ·cases h
   ·cases h1
  ·cases h
 ·rename_i o off
  cases hy
  split at h
  ·rename_i cs hob
   cases hx with
   | hp _ _ _ hone ho hv =>
   obtain rfl:=hv cs hob
   have hg:=fun op=>KK (P:=P) (w:=w) op t ox oy (some ⟨m o,off,none⟩) none
   replace h:=AI h;obtain ⟨h1,h⟩:=h
   split at h1
   ·rename_i e hu
    split at h
    ·exact ⟨_,h,_,A6 (hg _) (by simp [binOp,HD t e hu]),Bi _⟩
    ·exact ⟨_,h,_,A6 (hg _) (by simp [binOp,HD t e hu]),Bi _⟩
    ·cases h
   ·cases h1
  ·cases h
 ·-- structs
  replace h:=AI h;obtain ⟨h1,h⟩:=h
  simp only [Bool.and_eq_true,Bool.not_eq_true'] at h1
  obtain ⟨⟨hax,hay⟩,hgt⟩:=h1
  have key:∀ {x:U} {v:Value} {xs:List F},Cd x=true→RepU w Z m st.heap x v→Bb [] x.cells=some xs→∃ vs:List Value,v=.agg vs.toArray∧Jk w Z xs vs:=by
   intro x v xs hax hx hxs
   have hl:=(Bf _ _ hxs).1
   cases hx with
   | agg cs vs hl' hr =>
    refine ⟨vs,rfl,by rw [← hl'];exact hl.symm,fun j y v hy hv=>?_⟩
    have hj:=(List.getElem?_eq_some_iff.1 hy).1
    have hu:cs[j]?=some (cs[j]'(by simp only [U.cells] at hl;omega)):=List.getElem?_eq_getElem _
    exact Cf hH (hr _ _ _ hu hv) ((Bf _ _ hxs).2 _ _ _ hu hy)
   | f y v hy =>
    cases hy with
    | agg cs vs hl' hr =>
     have hlm:cs.length=xs.length:=by simpa [U.cells] using hl
     refine ⟨vs,rfl,by omega,fun j z v hz hv=>?_⟩
     have hj:=(List.getElem?_eq_some_iff.1 hz).1
     have hc:cs[j]?=some (cs[j]'(by omega)):=List.getElem?_eq_getElem _
     have hu:(U.cells (.f (.agg cs)))[j]?=some (.f (cs[j]'(by omega))):=by simp [U.cells,hc]
     have:=(Bf _ _ hxs).2 _ _ _ hu hz
     simp only [toF,Option.some.injEq] at this
     rw [← this]
     exact hr _ _ _ hc hv
    | _=>simp [Cd] at hax
   | _=>simp [Cd] at hax
  split at h
  ·rename_i xs ys hxs hys
   obtain ⟨vs,rfl,hvs⟩:=key hax hx hxs
   obtain ⟨us,rfl,hus⟩:=key hay hy hys
   split at h
   ·rename_i fs b hu hb
    have hq:=gW _ _ _ _ _ hb vs us w Z hvs hus (Op.maxDepth-20)
    rw [hu] at hq
    have hq':(Op.equal t (.agg vs.toArray) (.agg us.toArray)).run P w=.ok b w:=hq
    have hg:∀ op,(eqGuard op t ox oy (.agg vs.toArray) (.agg us.toArray)).run P w=.ok () w:=by
     intro op
     unfold eqGuard
     cases op <;> simp [hgt]
    split at h
    ·exact ⟨_,h,_,A6 (hg _) (by simp [binOp,hq']),Bi _⟩
    ·exact ⟨_,h,_,A6 (hg _) (by simp [binOp,hq']),Bi _⟩
    ·cases h
   ·cases h
  ·cases h
theorem gH {o:Operand} (h:ZR o=true):o=.const (.slice none 0 0):=by
 unfold ZR at h
 split at h
 ·rfl
 ·cases h
theorem RE (op:BinOp) (t:TypeId) (x y:Operand) (a b:Option Addr) (n c n' c':Nat):(eqGuard op t x y (.slice a n c) (.slice b n' c')).run P w=.ok () w:=by
 unfold eqGuard
 cases op <;> rfl
theorem SP (t e:TypeId) (h:P.underlying t=some (.slice e)) (a:Addr) (n c:Nat):(Op.equal t (.slice (some a) n c) (.slice none 0 0)).run P w=.ok false w:=by
 unfold Op.equal Op.maxDepth Op.equalIn
 simp only [Sem.run_bind,Ao h,Result.andThen]
 simp
theorem fU {op:BinOp} {t:TypeId} {ox oy:Operand} {x:U} {vx:Value} (hx:RepU w Z m st.heap x vx) (h:Hr P op t x st K=some r) :
  ∃ u,K u st=some r∧∃ v,(do eqGuard op t ox oy vx (.slice none 0 0);binOp op t vx (.slice none 0 0):Sem Value).run P w=.ok v w∧RepU w Z m st.heap u v:=by
 unfold Hr at h
 split at h
 ·rename_i n g
  replace h:=AI h;obtain ⟨h1,h⟩:=h
  replace h:=AI h;obtain ⟨h2,h⟩:=h
  have h2:=of_decide_eq_true h2
  cases hx with
  | f _ _ hf=>cases hf with
  | sl _ _ A c sz a V hc hs hk hA hV hr =>
   obtain ⟨rfl,_,_⟩:=hA (by omega)
   split at h1
   ·rename_i e hu
    have hg:=fun o=>RE (P:=P) (w:=w) o t ox oy (some a) none n c 0 0
    split at h
    ·exact ⟨_,h,_,A6 (hg _) (by simp [binOp,SP t e hu]),Bi _⟩
    ·exact ⟨_,h,_,A6 (hg _) (by simp [binOp,SP t e hu]),Bi _⟩
    ·cases h
   ·cases h1
 ·cases h
theorem jE {op:UnOp} {x:U} {vx:Value} (hx:RepU w Z m st.heap x vx) (h:XM op x st K=some r) :
  ∃ u,K u st=some r∧∃ v,(Op.unary op vx).run P w=.ok v w∧RepU w Z m st.heap u v:=by
 unfold XM at h
 split at h
 ·obtain rfl:=EP hx
  exact ⟨_,h,_,rfl,CI _ _⟩
 ·obtain rfl:=EP hx
  exact ⟨_,h,_,rfl,CI _ _⟩
 ·obtain rfl:=Hb hx
  exact ⟨_,h,_,rfl,Bi _⟩
 ·cases h
theorem W5 (hty:Gl P ty) {t:TypeId} {x ix:U} {vx vi:Value} (hx:RepU w Z m st.heap x vx) (hi:RepU w Z m st.heap ix vi) (h:Hs ty t x ix st K=some r) :
  ∃ u,K u st=some r∧∃ v,(Instr.index t vx vi).run P w=.ok v w∧RepU w Z m st.heap u v:=by
 unfold Hs at h
 split at h
 ·rename_i ti s k i hti
  obtain rfl:=Iv hx
  obtain rfl:=EP hi
  obtain ⟨d,hd,hu⟩:=Cl (hty.2 _ _ hti)
  split at h
  ·rename_i huk
   rw [huk] at hu
   obtain rfl:=HG hu.symm
   replace h:=AI h;obtain ⟨h1,h⟩:=h
   replace h:=AI h;obtain ⟨h2,h⟩:=h
   have h1:=of_decide_eq_true h1
   have h2:=of_decide_eq_true h2
   have hlt:i.toNat<s.size:=by omega
   refine ⟨_,h,.int .u8 (s[i.toNat]'hlt).toNat,?_,?_⟩
   ·simp only [Instr.index,asIntOf,Sem.run_bind,Sem.run_pure,Result.andThen,Ao hd]
    simp [h1,hlt]
   ·have:B5 s i=(s[i.toNat]'hlt).toNat:=by
     unfold B5
     have e:s.data.toList.getD i.toNat 0=s[i.toNat]'hlt:=by
      have hl:i.toNat<s.data.size:=hlt
      simp only [List.getD,Array.getElem?_toList,Array.getElem?_eq_getElem hl,Option.getD_some]
      rfl
     rw [e]
    rw [this]
    exact CI _ _
  ·cases h
 ·cases h
theorem I4 (mx:Bool):∀ (us:List U) (vs:List Value) (a:Int) (k:IntKind) (r:Int),us.length=vs.length→(∀ (j:Nat) (u:U) (v:Value),us[j]?=some u→vs[j]?=some v→RepU w Z m H u v) →
  KC mx a us k=some r→(vs.foldlM (m:=Sem) (if mx then Builtin.max2 else Builtin.min2) (.int k a)).run P w=.ok (.int k r) w
 | [],[],a,k,r,_,_,h=>by simp only [KC,Option.some.injEq] at h;subst h;simp
 | u :: us,v :: vs,a,k,r,hl,hr,h=>by
  have hu:=hr 0 u v rfl rfl
  cases u with
  | f x =>
   cases x with
   | int k' b =>
    obtain rfl:=EP hu
    simp only [KC] at h
    split at h
    ·rename_i hk
     subst hk
     have ih:=I4 mx us vs _ k r (by simpa using hl) (fun j u v hu hv=>hr (j+1) u v (by simpa using hu) (by simpa using hv)) h
     simp only [List.foldlM_cons,Sem.run_bind]
     cases mx <;> simp [Builtin.max2,Builtin.min2] at ih ⊢ <;> exact ih
    ·cases h
   | _=>simp [KC] at h
  | _=>simp [KC] at h
 | [],_ :: _,_,_,_,hl,_,_=>by simp at hl
 | _ :: _,[],_,_,_,hl,_,_=>by simp at hl
end
section
variable {P:Program} {w:World} {Z:Nat→Prop} {m:Nat→Nat} {H:List HO} {ty:TypeId→Option TI} {ρ:Type} {r:ρ} {st:St} {K:U→St→Option ρ}
theorem Px (st:St) (slot:Option Nat) (ob:HO):(st.new slot ob).2.heap=Dp st.heap slot ob:=by cases slot <;> rfl
theorem HP (st:St) (slot:Option Nat) (ob:HO):(st.new slot ob).2.tmps=st.tmps:=by cases slot <;> rfl
theorem NW (st:St) (slot:Option Nat) (ob:HO):(st.new slot ob).1=BX st.heap slot:=by cases slot <;> rfl
theorem JB (w:World) (c:Array Value) (el:TypeId) (j:Nat):(Bl w (.cells c el)).frozen? ⟨w.heap.size,j,none⟩=false:=by
 simp only [World.frozen?,C8]
 simp
theorem NY {slot:Option Nat} {ob:HO} (hs:De H slot) (hn:ob ≠ .free):known (Dp H slot ob) (BX H slot):=⟨ob,Do _ _ _ hs,hn⟩
theorem Se (hH:HOK w Z m st.heap) {slot:Option Nat} (hs:De st.heap slot) (el:TypeId) (us:List U) (vs:List Value) (hl:us.length=vs.length)
  (hr:∀ (j:Nat) (u:U) (v:Value),us[j]?=some u→vs[j]?=some v→RepU w Z m st.heap u v) :
  ∃ m',Ext w Z m st.heap (Bl w (.cells vs.toArray el)) Z m' (st.new slot (.box us)).2.heap∧HOK (Bl w (.cells vs.toArray el)) Z m' (st.new slot (.box us)).2.heap ∧
   RepU (Bl w (.cells vs.toArray el)) Z m' (st.new slot (.box us)).2.heap (.hp (st.new slot .dead).1 0) (.pointer (some ⟨w.heap.size,0,none⟩)):=by
 rw [Px,NW]
 have hE:=PA (ob:=.box us) (c:=.cells vs.toArray el) hH hs
 refine ⟨_,hE,Tb hH hs ?_,?_⟩
 ·refine ⟨vs.toArray,el,(0,0),C8 _ _,fun j _=>JB _ _ _ _,by simp [hl],fun j u hu=>?_⟩
  have hj:=(List.getElem?_eq_some_iff.1 hu).1
  exact ⟨vs[j]'(by omega),by simp [show j<vs.length by omega],(hr j u _ hu (List.getElem?_eq_getElem (by omega))).mono hE⟩
 ·exact .hp _ _ _ rfl (NY hs (by simp)) fun cs _=>by simp
theorem X9 (hty:Gl P ty) (hH:HOK w Z m st.heap) {slot:Option Nat} (hs:De st.heap slot) {e:TypeId} {te:TI} (hte:ty e=some te) :
  ∃ v w' m',(Instr.alloc e true (.tuple #[])).run P w=.ok v w'∧Ext w Z m st.heap w' Z m' (st.new slot (.box (te.zero.map cv))).2.heap∧HOK w' Z m' (st.new slot (.box (te.zero.map cv))).2.heap ∧
   RepU w' Z m' (st.new slot (.box (te.zero.map cv))).2.heap (.hp (st.new slot .dead).1 0) v:=by
 obtain ⟨z,hz,hzc⟩:=MK (hty.2 _ _ hte) w
 obtain ⟨m',h1,h2,h3⟩:=Se hH hs e (te.zero.map cv) te.zero (by simp) (fun j u v hu hv=>by
  rw [List.getElem?_map,hv] at hu;cases hu;exact Qb _)
 refine ⟨_,_,m',?_,h1,h2,h3⟩
 have:z.cells=te.zero.toArray:=by rw [← hzc]
 simp only [Instr.alloc,Sem.run_bind,hz,Result.andThen,newVar,newRow,run_newObj,Sem.run_pure,this]
 rfl
theorem Zr (hH:HOK w Z m st.heap) {slot:Option Nat} (hs:De st.heap slot) {e:TypeId} {x:U} {vx:Value} (hx:RepU w Z m st.heap x vx) (hne:x ≠ .bad) (hnu:x ≠ .undef) (hnt:(∀ us,x ≠ .tup us)∧∀ xs,x ≠ .f (.tup xs)) :
  ∃ v w' m',(Instr.box e vx).run P w=.ok v w'∧Ext w Z m st.heap w' Z m' (st.new slot (.box x.cells)).2.heap∧HOK w' Z m' (st.new slot (.box x.cells)).2.heap ∧
   RepU w' Z m' (st.new slot (.box x.cells)).2.heap (.hp (st.new slot .dead).1 0) v:=by
 have h5:∀ o k,x=.hp o k→vx.oneCell'=true:=by rintro o k rfl;cases hx with | hp _ _ _ h1=>exact h1
 obtain ⟨hl,hc⟩:=Sa hx h5 hne hnu hnt.1 hnt.2
 obtain ⟨m',h1,h2,h3⟩:=Se hH hs e x.cells vx.cells.toList (by simpa using hl) (fun j u v hu hv=>by
  obtain ⟨y,hy,hr⟩:=hc j u hu
  have:y=v:=by
   have e1:vx.cells.toList[j]?=vx.cells[j]?:=by simp
   rw [e1,hy] at hv
   exact Option.some.inj hv
  exact this ▸ hr)
 refine ⟨_,_,m',?_,h1,h2,h3⟩
 simp only [Instr.box,Sem.run_bind,Result.andThen,newVar,newRow,run_newObj,Sem.run_pure,Array.toArray_toList]
 rfl
theorem RN {te:TI} {z:F} (hH:HOK w Z m H) (hz:VO te=some z) (hl:te.zero.length=te.size) (h1:(te.isAgg || te.size==1)=true) (hc:XC te.isAgg z=true) :
  z.cells.length=te.size∧∀ (j:Nat) (x:F),z.cells[j]?=some x→Be x=true∧∃ v,te.zero[j]?=some v∧RepF w Z x v:=by
 unfold VO at hz
 cases hx:Bb [] (te.zero.map cv) with
 | none=>rw [hx] at hz;cases hz
 | some xs =>
  rw [hx] at hz
  simp only [Option.map_some,Option.some.injEq] at hz
  obtain ⟨hl2,hg⟩:=Bf _ _ hx
  simp only [List.length_map] at hl2
  have hcells:z.cells=xs:=by
   rw [← hz]
   unfold mkF
   cases hag:te.isAgg with
   | true=>rfl
   | false =>
    rw [hag] at h1
    simp only [Bool.false_or,beq_iff_eq] at h1
    match xs,(show xs.length=1 by omega) with
    | [x],_ =>
     have:Be x=true:=by
      rw [← hz] at hc
      simp only [XC,mkF,hag,Bool.false_eq_true,if_false,List.headD_cons,Bool.false_or,Bool.and_eq_true] at hc
      exact hc.2
     simp only [Bool.false_eq_true,if_false,List.headD_cons]
     cases x <;> first | rfl | simp [Be] at this
  have hc':z.cells.all Be=true:=by simp only [XC,Bool.and_eq_true] at hc;exact hc.1
  rw [hcells]
  refine ⟨by omega,fun j x hx'=>⟨List.all_eq_true.1 hc' x (by rw [hcells];exact List.mem_of_getElem? hx'),?_⟩⟩
  have hj:=(List.getElem?_eq_some_iff.1 hx').1
  have hzj:te.zero[j]?=some (te.zero[j]'(by omega)):=List.getElem?_eq_getElem (by omega)
  exact ⟨_,hzj,Cf hH (Qb _) (hg j _ _ (by rw [List.getElem?_map,hzj];rfl) hx')⟩
theorem Kp (hH:HOK w Z m st.heap) {slot:Option Nat} (hs:De st.heap slot) (el:TypeId) (sz n cap:Nat) (g:Nat→F) (c:List Value) (h0:sz ≠ 0) (hcap:n≤cap) (hc:c.length=cap*sz)
  (hgl:∀ i,i<n→(g i).cells.length=sz) (hr:∀ (i j:Nat) (u:F),i<n→(g i).cells[j]?=some u→Be u=true∧∃ v,c[i*sz+j]?=some v∧RepF w Z u v) :
  ∃ m',Ext w Z m st.heap (Bl w (.cells c.toArray el)) Z m' (st.new slot (.arr sz n g)).2.heap∧HOK (Bl w (.cells c.toArray el)) Z m' (st.new slot (.arr sz n g)).2.heap ∧
   RepU (Bl w (.cells c.toArray el)) Z m' (st.new slot (.arr sz n g)).2.heap (.hs (st.new slot .dead).1 n 0 n) (.slice (some ⟨w.heap.size,0,none⟩) n cap):=by
 rw [Px,NW]
 have hE:=PA (ob:=.arr sz n g) (c:=.cells c.toArray el) hH hs
 refine ⟨_,hE,Tb hH hs ?_,?_⟩
 ·refine ⟨h0,c.toArray,el,(0,0),C8 _ _,fun j _=>JB _ _ _ _,by simp [hc];exact Nat.mul_le_mul_right _ hcap,hgl,fun i j u hi hu=>?_⟩
  obtain ⟨hk,v,hv,hr'⟩:=hr i j u hi hu
  exact ⟨hk,v,by simpa using hv,hr'.mono hE.sub hE.kept⟩
 ·refine .hs _ _ _ _ _ rfl (NY hs (by simp)) (fun sz' n' g' e=>?_) fun sz' n' g' e _=>?_
  ·rw [Do _ _ _ hs] at e;cases e;exact Nat.le_refl _
  ·rw [Do _ _ _ hs] at e;cases e
   refine ⟨by omega,_,_,rfl,hcap,fun _=>by simp,?_⟩
   simp only [if_true,Az,C8,List.size_toArray,hc]
   simp
theorem Iq {x:Int} (h0:0≤x) (h1:x≤17592186044416):IntKind.i64.wrap x=x:=by
 unfold IntKind.wrap
 simp [IntKind.bits,IntKind.signed]
 omega
theorem HL (zero:Array Value) (sz n:Nat) (hz:zero.size=sz) (h0:sz ≠ 0) (i j:Nat) (hi:i<n) (hj:j<sz) :
  ((Array.range (n*sz)).map (zero[· % zero.size]!)).toList[i*sz+j]?=some (zero[j]'(by omega)):=by
 have hlt:i*sz+j<n*sz:=by
  have:(i+1)*sz≤n*sz:=Nat.mul_le_mul_right _ hi
  rw [Nat.add_mul] at this;omega
 have hmod:(i*sz+j) % zero.size=j:=by
  rw [hz,Nat.mul_comm i sz,Nat.mul_add_mod,Nat.mod_eq_of_lt hj]
 have hjz:j<zero.size:=by omega
 simp only [Array.getElem?_toList,Array.getElem?_map]
 have:(Array.range (n*sz))[i*sz+j]?=some (i*sz+j):=by simp [hlt]
 rw [this]
 simp only [Option.map_some,hmod]
 congr 1
 simp [hjz]
theorem ZD (hty:Gl P ty) (hH:HOK w Z m st.heap) {slot:Option Nat} (hs:De st.heap slot) {t:TypeId} {l c:U} {vl vc:Value} (hl:RepU w Z m st.heap l vl) (hc:RepU w Z m st.heap c vc)
  (h:KJ ty slot t l c st K=some r) :
  ∃ u st',K u st'=some r∧st'.tmps=st.tmps∧∃ v w' m',(Instr.makeSlice t vl vc).run P w=.ok v w'∧Ext w Z m st.heap w' Z m' st'.heap∧HOK w' Z m' st'.heap∧RepU w' Z m' st'.heap u v:=by
 unfold KJ at h
 split at h
 ·rename_i ti kl l kc c hti
  obtain rfl:=EP hl
  obtain rfl:=EP hc
  obtain ⟨d,hd,hu⟩:=Cl (hty.2 _ _ hti)
  split at h
  ·rename_i e huk
   rw [huk] at hu
   obtain rfl:=CN hu.symm
   split at h
   ·rename_i te hte
    split at h
    ·rename_i z hz
     replace h:=AI h;obtain ⟨h1,h⟩:=h
     replace h:=AI h;obtain ⟨h2,h⟩:=h
     replace h:=AI h;obtain ⟨h3,h⟩:=h
     replace h:=AI h;obtain ⟨h4,h⟩:=h
     simp only [Bool.and_eq_true,bne_iff_ne,ne_eq,beq_iff_eq] at h1
     obtain ⟨⟨⟨h0,hzl⟩,hone⟩,hgood⟩:=h1
     have h2:=of_decide_eq_true h2
     have h3:=of_decide_eq_true h3
     have h4:=of_decide_eq_true h4
     obtain ⟨hcl,hzr⟩:=RN hH hz hzl hone hgood
     have hlim:(BC:Int)=17592186044416:=DL
     have hbc:(te.bytes:Int)*c+c≤17592186044416:=by
      rw [hlim] at h4
      have:c*((te.bytes:Int)+1)=(te.bytes:Int)*c+c:=by rw [Int.mul_add,Int.mul_one,Int.mul_comm]
      omega
     have hb0:0≤(te.bytes:Int)*c:=Int.mul_nonneg (by omega) (by omega)
     have hbl:(te.bytes:Int)*l≤(te.bytes:Int)*c:=Int.mul_le_mul_of_nonneg_left h3 (by omega)
     have hwl:IntKind.i64.wrap l=l:=Iq (by omega) (by omega)
     have hwc:IntKind.i64.wrap c=c:=Iq (by omega) (by omega)
     obtain ⟨i,hi,hisz,hib⟩:=kL (hty.2 _ _ hte) w
     obtain ⟨zv,hzv,hzc⟩:=MK (hty.2 _ _ hte) w
     have hzs:zv.cells.size=te.size:=by
      have:=congrArg List.length hzc
      simp at this;omega
     obtain ⟨m',p1,p2,p3⟩:=Kp hH hs e te.size l.toNat c.toNat (fun _=>z) ((Array.range (c.toNat*te.size)).map (zv.cells[· % zv.cells.size]!)).toList h0 (by omega) (by simp)
      (fun _ _=>hcl) (fun i j u hi hu=>by
       obtain ⟨hk,v,hv,hr⟩:=hzr j u hu
       have hj:j<te.size:=by have:=(List.getElem?_eq_some_iff.1 hu).1;omega
       refine ⟨hk,_,HL zv.cells te.size c.toNat hzs h0 i j (by omega) hj,?_⟩
       have:zv.cells[j]'(by omega)=v:=by
        rw [← hzc] at hv
        have e:zv.cells.toList[j]?=some (zv.cells[j]'(by omega)):=by simp [show j<zv.cells.size by omega]
        rw [e] at hv;exact Option.some.inj hv
       rw [this];exact hr)
     refine ⟨_,_,h,HP _ _ _,_,_,m',?_,p1,p2,p3⟩
     have ht1:(decide (c<0) || decide (((i.bytes:Nat):Int)*c > 2 ^ 48))=false:=by
      rw [hib];simp;omega
     unfold Instr.makeSlice
     simp only [Sem.run_bind,Ao hd,Result.andThen,asInt,asIntOf,Sem.run_pure,hi,hwl,hwc,hib]
     rw [if_neg (by simp;omega)]
     simp only [Sem.run_bind,run_askRoom,Result.andThen,Bc (hty.2 _ _ hte)]
     by_cases hn:c.toNat*te.size=0
     ·simp only [hn,if_true,Sem.run_pure,newRow,Sem.run_bind,run_newObj,Result.andThen,Array.toArray_toList]
      have e0:Array.range 0 = #[]:=rfl
      simp only [e0,Array.map_empty]
      rfl
     ·simp only [hn,if_false,Sem.run_bind,hzv,Result.andThen,Sem.run_pure,newRow,run_newObj,Array.toArray_toList]
      rfl
    ·cases h
   ·cases h
  ·cases h
 ·cases h
def XJ (V:Nat→Nat→Value) (n sz:Nat):List Value:=(List.range (n*sz)).map fun q=>V (q / sz) (q % sz)
theorem SK (V:Nat→Nat→Value) {n sz i j:Nat} (hi:i<n) (hj:j<sz):(XJ V n sz)[i*sz+j]?=some (V i j):=by
 have hlt:i*sz+j<n*sz:=by
  have:(i+1)*sz≤n*sz:=Nat.mul_le_mul_right _ hi
  rw [Nat.add_mul] at this;omega
 unfold XJ
 rw [List.getElem?_map,List.getElem?_range hlt]
 simp only [Option.map_some]
 have h1:(i*sz+j) / sz=i:=by
  rw [Nat.mul_comm,Nat.mul_add_div (by omega),Nat.div_eq_of_lt hj,Nat.add_zero]
 have h2:(i*sz+j) % sz=j:=by
  rw [Nat.mul_comm,Nat.mul_add_mod,Nat.mod_eq_of_lt hj]
 rw [h1,h2]
theorem JD (V:Nat→Nat→Value) (n sz:Nat):(XJ V n sz).length=n*sz:=by simp [XJ]
structure ElemsOK (P:Program) (w:World) (Z:Nat→Prop) (vx:Value) (sz n:Nat) (g:Nat→F) (c:List Value):Prop where
 len:c.length=n*sz
 lenOf:(Builtin.lenOf vx).run P w=.ok n w
 first:∀ d k,k≤n→(Builtin.firstCells sz k vx).run P (CH w d)=.ok (c.take (k*sz)).toArray (CH w d)
 gl:∀ i,i<n→(g i).cells.length=sz
 rep:∀ (i j:Nat) (u:F),i<n→(g i).cells[j]?=some u→Be u=true∧∃ v,c[i*sz+j]?=some v∧RepF w Z u v
theorem GH {a:Addr} {n c sz:Nat} {cs:List Value} (hl:cs.length=n*sz) (h:∀ j v,cs[j]?=some v→w.cell? (a.add j)=some v) (len:Nat) (k:Nat) (hk:k≤n) :
  (Builtin.firstCells sz k (.slice (some a) len c)).run P w=.ok (cs.take (k*sz)).toArray w:=by
 have hle:k*sz≤n*sz:=Nat.mul_le_mul_right _ hk
 have:=run_loadCells_list (P:=P) w a (cs.take (k*sz)) (fun j v hj=>by
  rw [List.getElem?_take] at hj
  split at hj
  ·exact h j v hj
  ·cases hj)
 have e:(cs.take (k*sz)).length=k*sz:=by simp;omega
 rw [e] at this
 exact this
theorem Xn {G:List HO} (hH:HOK w Z m H) (hG:G=H) {x:U} {vx:Value} (hx:RepU w Z m H x vx) {n:Nat} {g:Nat→F} (he:Il G x=some (n,g)) {te:TI} (hsz0:te.size ≠ 0)
  (hz:(g 0).cells.length=te.size ∨ n=0) :
  ∃ c,ElemsOK P w Z vx te.size n g c:=by
 subst hG
 unfold Il at he
 split at he
 ·cases he
  cases hx with
  | f _ _ hx=>cases hx with
  | sl _ _ A c sz a V hc hs hk hA hV hr =>
   have hsz:∀ i,i<n→(g i).cells.length=te.size:=fun i hi=>by
    rcases hz with hz | hz
    ·rw [hs i hi,← hs 0 (by omega)];exact hz
    ·omega
   refine ⟨XJ (fun i j=>V (i*te.size+j)) n te.size,JD _ _ _,rfl,?_,hsz,?_⟩
   ·intro d k hkn
    by_cases hn:n=0
    ·subst hn
     obtain rfl:k=0:=by omega
     simp only [Nat.zero_mul,List.take_zero]
     cases A with
     | none=>rfl
     | some a'=>simp only [Builtin.firstCells,Nat.zero_mul];rfl
    ·obtain ⟨rfl,hZ,hsp⟩:=hA hn
     refine GH (JD _ _ _) (fun q v hq=>?_) _ k hkn
     have hlt:q<n*te.size:=by
      have:=(List.getElem?_eq_some_iff.1 hq).1
      rwa [JD] at this
     have hi:q / te.size<n:=Nat.div_lt_of_lt_mul (by rw [Nat.mul_comm];exact hlt)
     have hj:q % te.size<te.size:=Nat.mod_lt _ (by omega)
     have hq':q / te.size*te.size+q % te.size=q:=by rw [Nat.mul_comm];exact Nat.div_add_mod q te.size
     have hz:sz=te.size:=by rw [← hs _ hi];exact hsz _ hi
     rw [← hq',SK _ hi hj] at hq
     cases hq
     have hu:(g (q / te.size)).cells[q % te.size]?=some ((g (q / te.size)).cells[q % te.size]'(by rw [hsz _ hi];exact hj)):=List.getElem?_eq_getElem _
     have:=hV _ _ _ hi hu
     rw [hz,hq'] at this
     rw [Ch a hsp,hq']
     exact this
   ·intro i j u hi hu
    have hj:j<te.size:=by have:=(List.getElem?_eq_some_iff.1 hu).1;rwa [hsz _ hi] at this
    have hz:sz=te.size:=by rw [← hs _ hi];exact hsz _ hi
    refine ⟨hk _ _ _ hi hu,_,SK _ hi hj,?_⟩
    rw [← hz]
    exact hr _ _ _ hi hu
 ·rename_i s
  cases he
  obtain rfl:=Iv hx
  rcases hz with h1 | h1
  case inr=>exact ⟨[],by simp [h1],rfl,fun d k hk=>by
   obtain rfl:k=0:=by omega
   simp [Builtin.firstCells],fun i hi=>by omega,fun i j u hi=>by omega⟩
  have h1:te.size=1:=h1.symm
  rw [h1]
  refine ⟨s.data.toList.map fun b=>.int .u8 b.toNat,by simp,rfl,?_,fun i _=>rfl,?_⟩
  ·intro d k hk
   simp only [Builtin.firstCells,Sem.run_pure,Nat.mul_one]
   congr 1
   apply Array.ext'
   have hks:k≤s.data.size:=hk
   have:(s.extract 0 k).data.toList=s.data.toList.take k:=by
    rw [ByteArray.data_extract];simp [List.extract_eq_take_drop]
   rw [Array.toList_map,this,List.map_take]
  ·intro i j u hi hu
   cases j with
   | succ j=>simp [F.cells] at hu
   | zero =>
    simp only [F.cells,List.getElem?_cons_zero,Option.some.injEq] at hu
    subst hu
    have hi':i<s.data.size:=hi
    refine ⟨rfl,.int .u8 (B5 s i),?_,.int _ _⟩
    simp only [Nat.mul_one,Nat.add_zero,List.getElem?_map,B5,Int.toNat_natCast]
    simp only [List.getD,Array.getElem?_toList,Array.getElem?_eq_getElem hi',Option.getD_some,Option.map_some]
 ·rename_i o gen off len
  split at he
  ·rename_i sz nn gg hob
   split at he
   ·rename_i hgen
    cases he
    cases hx with
    | hs _ _ _ _ _ hone ho hg hv =>
    obtain ⟨hle,A,c,rfl,hc,hA,hcap⟩:=hv _ _ _ hob hgen
    obtain ⟨h0,cc,el,fr,hb,hf,hsz',hgl,hr⟩:=hH.ob o _ hob
    rw [show B3 off gg=fun j=>gg (off+j) from funext fun j=>Mc off gg j] at *
    by_cases hn:n=0
    ·subst hn
     refine ⟨[],by simp,rfl,fun d k hk=>?_,fun i hi=>by omega,fun i j u hi=>by omega⟩
     obtain rfl:k=0:=by omega
     cases A with
     | none=>simp [Builtin.firstCells]
     | some a'=>simp only [Builtin.firstCells,Nat.zero_mul];rfl
    ·have hz:sz=te.size:=by
      rcases hz with hz | hz
      ·rw [← hz];exact (hgl _ (by omega)).symm
      ·omega
     subst hz
     have hsz:∀ i,i<n→(gg (off+i)).cells.length=te.size:=fun i hi=>hgl _ (by omega)
     have hA:=hA (by omega)
     subst hA
     have hin:(off+n)*te.size≤nn*te.size:=Nat.mul_le_mul_right _ hle
     rw [Nat.add_mul] at hin
     refine ⟨(cc.toList.drop (off*te.size)).take (n*te.size),by simp;omega,rfl,?_,hsz,?_⟩
     ·intro d k hk
      refine GH (by simp;omega) (fun q v hq=>?_) _ k hk
      rw [Bt] at hq
      split at hq
      ·rw [Gk]
       simp only [World.cell?,CH,hb]
       simpa using hq
      ·cases hq
     ·intro i j u hi hu
      have hj:j<te.size:=by have:=(List.getElem?_eq_some_iff.1 hu).1;rwa [hsz _ hi] at this
      have hlt:i*te.size+j<n*te.size:=by
       have:(i+1)*te.size≤n*te.size:=Nat.mul_le_mul_right _ hi
       rw [Nat.add_mul] at this;omega
      obtain ⟨hk,v,hv',hr'⟩:=hr (off+i) j u (by omega) hu
      refine ⟨hk,v,?_,hr'⟩
      rw [Bt,if_pos hlt]
      rw [Nat.add_mul,Nat.add_assoc] at hv'
      simpa using hv'
   ·cases he
  ·cases he
 ·cases he
  cases hx with
  | nils A =>
   refine ⟨[],by simp,rfl,fun d k hk=>?_,fun i hi=>by omega,fun i j u hi=>by omega⟩
   obtain rfl:k=0:=by omega
   cases A with
   | none=>simp [Builtin.firstCells]
   | some a'=>simp only [Builtin.firstCells,Nat.zero_mul];rfl
 ·cases he
end
section
variable {P:Program} {w:World} {Z:Nat→Prop} {m:Nat→Nat} {H:List HO} {ty:TypeId→Option TI} {ρ:Type} {r:ρ} {st:St} {K:U→St→Option ρ}
theorem SI (newLen:Nat):∀ (rounds c:Nat),c≤2*newLen+1000→Builtin.growBy newLen rounds c≤2*newLen+1000
 | 0,c,h=>h
 | rounds+1,c,h=>by
  simp only [Builtin.growBy]
  split
  ·exact h
  ·exact SI newLen rounds _ (by omega)
theorem Y9 {need cap:Nat} (h:cap<need):Builtin.nextslicecap need cap≤2*need+1000:=by
 unfold Builtin.nextslicecap
 split
 ·omega
 ·split
  ·omega
  ·exact SI need 4 cap (by omega)
theorem OG {b:Nat} {o:Obj} (h:w.heap[b]?=some o):Bd w b o=w:=by
 cases w
 simp only [Bd]
 congr 1
 simp only at h
 apply Array.ext_getElem?
 intro k
 rw [Array.getElem?_setIfInBounds]
 split
 ·rename_i e
  subst e
  have:=(Array.getElem?_eq_some_iff.1 h).1
  simp [this,h]
  rw [Array.getElem?_eq_getElem this] at h
  exact (Option.some.inj h).symm
 ·rfl
def Nd:TypeDesc→Bool | .int _=>true | _=>false
structure App (P:Program) (w:World) (elem t1:TypeId) (size:Nat) (vx:Value) (n:Nat) (c:List Value):Prop where
 run:∃ d1,P.underlying t1=some d1∧(
  (Nd d1=false∧(Builtin.lenOf vx).run P w=.ok n w∧∀ d,(Builtin.firstCells size n vx).run P (CH w d)=.ok c.toArray (CH w d)) ∨
  (Nd d1=true∧∃ k,vx=.int k n∧(n:Int)≤17592186044416 ∧
   ∃ i z,(∀ w,(typeInfo elem).run P w=.ok i w)∧(n:Int)*i.bytes≤17592186044416∧(∀ w,(zeroValue elem).run P w=.ok z w)∧c=if n*size=0 then [] else (Builtin.zeroCells z.cells n).toList))
theorem KX {t0 t1 elem:TypeId} {te:TI} (h0:P.underlying t0=some (.slice elem)) (hte:It P elem=some te) {base:Option Addr} {sLen sCap n:Nat} {x:Value} {c:List Value} {ty0:TypeId}
  (ha:App P w elem t1 te.size x n c) (hroom:sLen+n≤sCap) {w':World}
  (hs:(match base with | some a=>(storeCells (a.add (sLen*te.size)) c).run P w | none=>.ok () w)=.ok () w') :
  (Builtin.append_ #[t0,t1] ty0 #[.slice base sLen sCap,x]).run P w=.ok (.slice base (sLen+n) sCap) w':=by
 obtain ⟨d1,h1,hA | hB⟩:=ha.run
 ·obtain ⟨hz,hn,hc⟩:=hA
  have hc:=hc 0
  rw [show CH w 0=w from rfl] at hc
  unfold Builtin.append_
  simp only [List.getElem?_toArray,List.getElem?_cons_zero,List.getElem?_cons_succ,Sem.run_bind,Ao h0,Bc hte,Result.andThen,Ao h1,Sem.run_pure]
  cases d1
  case int=>simp [Nd] at hz
  all_goals
   simp only [Sem.run_bind,Result.andThen,Sem.run_pure,Bool.false_eq_true,if_false,hn,if_pos hroom,Bool.not_false,if_true,hc]
   cases base with
   | none=>simp only at hs ⊢;cases hs;rfl
   | some a=>simp only at hs ⊢;simp only [Sem.run_bind,hs,Result.andThen,Sem.run_pure]
 ·obtain ⟨hz,k,rfl,hlim,i,z,hi,hib,hzv,hc⟩:=hB
  have hw:IntKind.i64.wrap (n:Int)=n:=Iq (by omega) hlim
  unfold Builtin.append_
  simp only [List.getElem?_toArray,List.getElem?_cons_zero,List.getElem?_cons_succ,Sem.run_bind,Ao h0,Bc hte,Result.andThen,Ao h1,Sem.run_pure]
  cases d1 <;> simp [Nd] at hz
  simp only [Sem.run_bind,Result.andThen,Sem.run_pure,if_true,asInt,asIntOf,hw,
   if_neg (show ¬ ((n:Int)<0) by omega),hi,if_neg (show ¬ ((n:Int)*(i.bytes:Int) > 2 ^ 48) by omega),Int.toNat_natCast,if_pos hroom,Bool.not_true,Bool.false_eq_true,if_false]
  by_cases hz0:n*te.size=0
  ·rw [if_pos hz0] at hc
   subst hc
   simp only [if_pos hz0,Sem.run_pure]
   cases base with
   | none=>simp only at hs ⊢;cases hs;rfl
   | some a=>simp only at hs ⊢;simp only [Sem.run_bind,hs,Result.andThen,Sem.run_pure]
  ·rw [if_neg hz0] at hc
   subst hc
   simp only [if_neg hz0,Sem.run_bind,hzv,Result.andThen,Sem.run_pure]
   cases base with
   | none=>simp only at hs ⊢;cases hs;rfl
   | some a=>simp only at hs ⊢;simp only [Sem.run_bind,hs,Result.andThen,Sem.run_pure]
theorem KY {t0 t1 elem:TypeId} {te:TI} (h0:P.underlying t0=some (.slice elem)) (hte:It P elem=some te) (hzs:te.zero.length=te.size) {base:Option Addr} {sLen sCap n:Nat} {x:Value} {c old:List Value} {ty0:TypeId}
  (ha:App P w elem t1 te.size x n c) (hroom:¬ sLen+n≤sCap) (hold:∀ d,(Builtin.firstCells te.size sLen (.slice base sLen sCap)).run P (CH w d)=.ok old.toArray (CH w d))
  (hlim:((sLen+n:Nat):Int)*(te.bytes+1)≤17592186044416) (hby:te.bytes≤65536) :
  ∃ newCap rest d,sLen+n≤newCap∧rest.length=(newCap-(sLen+n))*te.size ∧
   (Builtin.append_ #[t0,t1] ty0 #[.slice base sLen sCap,x]).run P w=.ok (.slice (some ⟨w.heap.size,0,none⟩) (sLen+n) newCap) (Bl (CH w d) (.cells (old++c++rest).toArray elem)):=by
 obtain ⟨i,z,hi,hisz,hib,hzv,hzc⟩:∃ i z,(∀ w,(typeInfo elem).run P w=.ok i w)∧i.size=te.size∧i.bytes=te.bytes∧(∀ w,(zeroValue elem).run P w=.ok z w)∧z.cells.toList=te.zero:=by
  obtain ⟨d,i,z,hd,hi,hz,rfl⟩:=ES hte
  exact ⟨i,z,fun w=>by unfold typeInfo;simp [hi],rfl,rfl,fun w=>by unfold zeroValue typeInfo;simp [hi,hz],rfl⟩
 have hzsz:z.cells.size=te.size:=by have:=congrArg List.length hzc;simp at this;omega
 have hmul:((sLen+n:Nat):Int)*(te.bytes+1)=((sLen+n:Nat):Int)*te.bytes+((sLen+n:Nat):Int):=by rw [Int.mul_add,Int.mul_one]
 have hpos:0≤((sLen+n:Nat):Int)*te.bytes:=Int.mul_nonneg (by omega) (by omega)
 have hneed:sLen+n≤17592186044416:=by omega
 have hcapb:¬ (Builtin.nextslicecap (sLen+n) sCap*te.bytes > 2 ^ 48):=by
  have h1:=Y9 (need:=sLen+n) (cap:=sCap) (by omega)
  have h2:Builtin.nextslicecap (sLen+n) sCap*te.bytes≤(2*(sLen+n)+1000)*te.bytes:=Nat.mul_le_mul_right _ h1
  have h3:(2*(sLen+n)+1000)*te.bytes=2*((sLen+n)*te.bytes)+1000*te.bytes:=by rw [Nat.add_mul,Nat.mul_assoc]
  have h4:(((sLen+n)*te.bytes:Nat):Int)≤17592186044416:=by rw [Int.natCast_mul];omega
  omega
 have himax:¬ (((sLen+n:Nat):Int) > IntKind.i64.max∧True):=by
  have e:(17592186044416:Int)≤IntKind.i64.max:=by decide
  omega
 have himax':∀ p:Prop,¬ (((sLen+n:Nat):Int) > IntKind.i64.max∧p):=fun p h=>himax ⟨h.1,trivial⟩
 let q:Question:=.appendCap (sLen+n) sCap elem
 let newCap:=q.cut (w.tape w.drawn q)
 have hnew:sLen+n≤newCap:=Nat.le_add_right _ _
 let rest:=(Builtin.zeroCells z.cells (newCap-(sLen+n))).toList
 have hrest:rest.length=(newCap-(sLen+n))*te.size:=by simp [rest,Builtin.zeroCells,hzsz]
 have hdr:({ heap:=w.heap,tape:=w.tape,drawn:=w.drawn+1,os:=w.os,output:=w.output }:World)=CH w 1:=rfl
 have harr:(old++c++rest).toArray=old.toArray++c.toArray++Builtin.zeroCells z.cells (newCap-(sLen+n)):=by
  apply Array.ext'
  simp [rest]
 refine ⟨newCap,rest,1,hnew,hrest,?_⟩
 obtain ⟨d1,h1,hA | hB⟩:=ha.run
 ·obtain ⟨hz,hn,hc⟩:=hA
  have hc:=hc 1
  unfold Builtin.append_
  simp only [List.getElem?_toArray,List.getElem?_cons_zero,List.getElem?_cons_succ,Sem.run_bind,Ao h0,Bc hte,Result.andThen,Ao h1,Sem.run_pure]
  cases d1
  case int=>simp [Nd] at hz
  all_goals
   simp only [Sem.run_bind,Result.andThen,Sem.run_pure,Bool.false_eq_true,if_false,hn,if_neg hroom,Bool.not_false,if_true,hi,hib,himax',hcapb,run_choose,Question.forced,hdr,run_askRoom,hold,hc,hzv,newRow,run_newObj]
   rw [harr]
   rfl
 ·obtain ⟨hz,k,rfl,hlim',i',z',hi',hib',hzv',hc⟩:=hB
  have hzz:z'=z:=by have:=(hzv' w).symm.trans (hzv w);cases this;rfl
  have hii:i'=i:=by have:=(hi' w).symm.trans (hi w);cases this;rfl
  subst hzz;subst hii
  have hw:IntKind.i64.wrap (n:Int)=n:=Iq (by omega) hlim'
  unfold Builtin.append_
  simp only [List.getElem?_toArray,List.getElem?_cons_zero,List.getElem?_cons_succ,Sem.run_bind,Ao h0,Bc hte,Result.andThen,Ao h1,Sem.run_pure]
  cases d1 <;> simp [Nd] at hz
  simp only [Sem.run_bind,Result.andThen,Sem.run_pure,if_true,asInt,asIntOf,hw,
   if_neg (show ¬ ((n:Int)<0) by omega),hi,if_neg (show ¬ ((n:Int)*(te.bytes:Int) > 2 ^ 48) by rw [hib] at hib';omega),Int.toNat_natCast,if_neg hroom,Bool.not_true,Bool.false_eq_true,if_false,
   hib,himax',hcapb,run_choose,Question.forced,hdr,run_askRoom,hold,hzv,newRow,run_newObj]
  by_cases hz0:n*te.size=0
  ·rw [if_pos hz0] at hc
   subst hc
   simp only [if_pos hz0,Sem.run_pure,Sem.run_bind,hzv,Result.andThen,run_newObj]
   rw [harr]
   rfl
  ·rw [if_neg hz0] at hc
   subst hc
   simp only [if_neg hz0,Sem.run_bind,hzv,Result.andThen,Sem.run_pure,run_newObj]
   rw [harr]
   simp only [Array.toArray_toList]
   rfl
theorem Q1 (z:Array Value) (sz n i j:Nat) (hz:z.size=sz) (hi:i<n) (hj:j<sz):(Builtin.zeroCells z n).toList[i*sz+j]?=some (z[j]'(by omega)):=by
 subst hz
 exact HL z z.size n rfl (by omega) i j hi hj
theorem Qk (hty:Gl P ty) (hH:HOK w Z m H) {elem t1:TypeId} {te tj:TI} (hte:ty elem=some te) (htj:ty t1=some tj) (h0:te.size ≠ 0) (hzl:te.zero.length=te.size) (hone:(te.isAgg || te.size==1)=true)
  {x:U} {vx:Value} (hx:RepU w Z m H x vx) {n:Nat} {g:Nat→F}
  (hxs:DP te tj H x=some (n,g)) (hg0:(g 0).cells.length=te.size ∨ n=0) (hlim:(n:Int)*(te.bytes+1)≤17592186044416) :
  ∃ c,App P w elem t1 te.size vx n c∧c.length=n*te.size∧(∀ i,i<n→(g i).cells.length=te.size) ∧
   ∀ (i j:Nat) (u:F),i<n→(g i).cells[j]?=some u→Be u=true∧∃ v,c[i*te.size+j]?=some v∧RepF w Z u v:=by
 obtain ⟨d1,hd1,hu1⟩:=Cl (hty.2 _ _ htj)
 have hmul:(n:Int)*(te.bytes+1)=(n:Int)*te.bytes+n:=by rw [Int.mul_add,Int.mul_one]
 have hpos:0≤(n:Int)*te.bytes:=Int.mul_nonneg (by omega) (by omega)
 unfold DP at hxs
 split at hxs
 ·rename_i k k' q huk
  rw [huk] at hu1
  obtain rfl:=Jr hu1.symm
  split at hxs
  ·rename_i hq
   cases hzf:VO te with
   | none=>rw [hzf] at hxs;cases hxs
   | some z =>
    rw [hzf] at hxs
    simp only [Option.bind_some] at hxs
    split at hxs
    ·rename_i hgood
     cases hxs
     obtain rfl:=EP hx
     obtain ⟨hcl,hzr⟩:=RN hH hzf hzl hone hgood
     obtain ⟨i,zv,hi,hisz,hib,hzv,hzc⟩:∃ i z,(∀ w,(typeInfo elem).run P w=.ok i w)∧i.size=te.size∧i.bytes=te.bytes∧(∀ w,(zeroValue elem).run P w=.ok z w)∧z.cells.toList=te.zero:=by
      obtain ⟨d,i,z,hd,hi,hz,e⟩:=ES (hty.2 _ _ hte)
      rw [e]
      exact ⟨i,z,fun w=>by unfold typeInfo;simp [hi],rfl,rfl,fun w=>by unfold zeroValue typeInfo;simp [hi,hz],rfl⟩
     have hzsz:zv.cells.size=te.size:=by have:=congrArg List.length hzc;simp at this;omega
     have hqn:((q.toNat:Nat):Int)=q:=Int.toNat_of_nonneg hq
     refine ⟨if q.toNat*te.size=0 then [] else (Builtin.zeroCells zv.cells q.toNat).toList,⟨_,hd1,.inr ⟨rfl,k',by rw [hqn],by omega,i,zv,hi,by rw [hib];omega,hzv,rfl⟩⟩,?_,fun _ _=>hcl,?_⟩
     ·split
      ·rename_i h;simp [h]
      ·simp [Builtin.zeroCells,hzsz]
     ·intro i' j u hi' hu
      replace hu:z.cells[j]?=some u:=hu
      have hj:j<te.size:=by have:=(List.getElem?_eq_some_iff.1 hu).1;omega
      have hne:¬ q.toNat*te.size=0:=by
       intro h
       rcases Nat.mul_eq_zero.1 h with h | h <;> omega
      obtain ⟨hk,v,hv,hr⟩:=hzr j u hu
      rw [if_neg hne]
      refine ⟨hk,_,Q1 zv.cells te.size _ i' j hzsz hi' hj,?_⟩
      have:zv.cells[j]'(by omega)=v:=by
       rw [← hzc] at hv
       have e:zv.cells.toList[j]?=some (zv.cells[j]'(by omega)):=by simp [show j<zv.cells.size by omega]
       rw [e] at hv;exact Option.some.inj hv
      rw [this];exact hr
    ·cases hxs
  ·cases hxs
 ·cases hxs
 ·rename_i hni1 hni2
  obtain ⟨c,hc⟩:=Xn (P:=P) hH rfl hx hxs h0 hg0
  refine ⟨c,⟨d1,hd1,.inl ⟨?_,hc.lenOf,fun d=>?_⟩⟩,hc.len,hc.gl,hc.rep⟩
  ·cases hd:d1 with
   | int k=>rw [hd] at hu1;first | exact absurd hu1 (hni2 k) | exact absurd hu1 (hni1 k) | exact (hni1 k hu1).elim | exact (hni2 k hu1).elim
   | _=>rfl
  ·have:=hc.first d n (Nat.le_refl _)
   rw [← hc.len,List.take_length] at this
   exact this
theorem H4 {m i:Nat} (g:Nat→F) (h:i<m):one m g i=g i:=by
 unfold one
 split
 ·obtain rfl:i=0:=by omega
  rfl
 ·rfl
theorem Tt (hty:Gl P ty) (hH:HOK w Z m st.heap) {slot:Option Nat} (hs:De st.heap slot) {t0 t1 ty0:TypeId} {s x:U} {vs vx:Value} (hs':RepU w Z m st.heap s vs) (hx:RepU w Z m st.heap x vx)
  (h:Gc ty slot t0 t1 s x st K=some r) :
  ∃ u st',K u st'=some r∧st'.tmps=st.tmps∧∃ v w' m',(Builtin.append_ #[t0,t1] ty0 #[vs,vx]).run P w=.ok v w'∧Ext w Z m st.heap w' Z m' st'.heap∧HOK w' Z m' st'.heap∧RepU w' Z m' st'.heap u v:=by
 unfold Gc at h
 split at h
 ·rename_i ti tj hti htj
  obtain ⟨d,hd,hu⟩:=Cl (hty.2 _ _ hti)
  split at h
  ·rename_i e huk
   rw [huk] at hu
   obtain rfl:=CN hu.symm
   split at h
   ·rename_i te hte
    obtain ⟨n,g,hxs,h⟩:=KZ h
    ·replace h:=AI h;obtain ⟨h1,h⟩:=h
     replace h:=AI h;obtain ⟨h2,h⟩:=h
     simp only [Bool.and_eq_true,bne_iff_ne,ne_eq,beq_iff_eq,decide_eq_true_eq] at h1
     obtain ⟨⟨⟨h0,hzl⟩,hone⟩,hby⟩:=h1
     simp only [Bool.or_eq_true,decide_eq_true_eq] at h2
     have hlimit:(BC:Int)=17592186044416:=DL
     split at h
     ·-- onto an empty one
      cases hs' with
      | nils A =>
      by_cases hn:n=0
      ·subst hn
       simp only [decide_true,AF] at h
       obtain ⟨c,happ,hcl,hgl,hgr⟩:=Qk hty hH hte htj h0 hzl hone hx hxs h2 (by simp)
       have hc0:c=[]:=List.length_eq_zero_iff.1 (by simpa using hcl)
       subst hc0
       refine ⟨_,_,h,rfl,_,w,m,KX hd (hty.2 _ _ hte) happ (Nat.le_refl _) ?_,Ext.refl _ _ _ _,hH,.nils _⟩
       cases A <;> simp [storeCells]
      ·rw [show decide (n=0)=false by simpa using hn,AJ] at h
       replace h:=AI h;obtain ⟨h3,h⟩:=h
       have h3:=of_decide_eq_true h3
       rw [hlimit] at h3
       obtain ⟨c,happ,hcl,hgl,hgr⟩:=Qk hty hH hte htj h0 hzl hone hx hxs h2 h3
       replace hgl:∀ i,i<n→(one n g i).cells.length=te.size:=fun i hi=>by rw [H4 g hi];exact hgl i hi
       replace hgr:∀ (i j:Nat) (u:F),i<n→(one n g i).cells[j]?=some u→Be u=true∧∃ v,c[i*te.size+j]?=some v∧RepF w Z u v:=fun i j u hi hu=>hgr i j u hi (by rw [← H4 g hi];exact hu)
       obtain ⟨newCap,rest,dr,hcap,hrl,hrun⟩:=KY (ty0:=ty0) (base:=A) (sLen:=0) (sCap:=0) (old:=[]) hd (hty.2 _ _ hte) hzl happ (by omega)
        (fun d=>by cases A <;> simp [Builtin.firstCells,loadCells,loadCellsFrom]) (by simpa using h3) hby
       simp only [Nat.zero_add,List.nil_append] at hrun hcap hrl
       have hE1:=KH (w:=w) (Z:=Z) (m:=m) (H:=st.heap) dr
       have hH1:=Mn dr hH
       obtain ⟨m',p1,p2,p3⟩:=Kp hH1 hs e te.size n newCap (one n g) (c++rest) h0 hcap (by
         rw [List.length_append,hcl,hrl,← Nat.add_mul];congr 1;omega)
        hgl (fun i j u hi hu=>by
         obtain ⟨hk,v,hv,hr⟩:=hgr i j u hi hu
         refine ⟨hk,v,?_,RepF.mono (w:=w) (w':=CH w dr) (fun _ h=>h) (fun _ _=>rfl) hr⟩
         rw [List.getElem?_append_left (List.getElem?_eq_some_iff.1 hv).1];exact hv)
       exact ⟨_,_,h,HP _ _ _,_,_,m',hrun,hE1.trans p1,p2,p3⟩
     ·-- onto one that has no room
      replace h:=AI h;obtain ⟨h00,h⟩:=h
      cases hs' with
      | f _ _ hf =>
      cases hf with
      | cl _ _ _ hf h0' =>
      obtain ⟨A,rfl⟩:=h0' (of_decide_eq_true h00)
      by_cases hn:n=0
      ·subst hn
       simp only [decide_true,AF] at h
       obtain ⟨c,happ,hcl,hgl,hgr⟩:=Qk hty hH hte htj h0 hzl hone hx hxs h2 (by simp)
       have hc0:c=[]:=List.length_eq_zero_iff.1 (by simpa using hcl)
       subst hc0
       refine ⟨_,_,h,rfl,_,w,m,KX hd (hty.2 _ _ hte) happ (Nat.le_refl _) ?_,Ext.refl _ _ _ _,hH,.nils _⟩
       cases A <;> simp [storeCells]
      ·rw [show decide (n=0)=false by simpa using hn,AJ] at h
       replace h:=AI h;obtain ⟨h3,h⟩:=h
       have h3:=of_decide_eq_true h3
       rw [hlimit] at h3
       obtain ⟨c,happ,hcl,hgl,hgr⟩:=Qk hty hH hte htj h0 hzl hone hx hxs h2 h3
       replace hgl:∀ i,i<n→(one n g i).cells.length=te.size:=fun i hi=>by rw [H4 g hi];exact hgl i hi
       replace hgr:∀ (i j:Nat) (u:F),i<n→(one n g i).cells[j]?=some u→Be u=true∧∃ v,c[i*te.size+j]?=some v∧RepF w Z u v:=fun i j u hi hu=>hgr i j u hi (by rw [← H4 g hi];exact hu)
       obtain ⟨newCap,rest,dr,hcap,hrl,hrun⟩:=KY (ty0:=ty0) (base:=A) (sLen:=0) (sCap:=0) (old:=[]) hd (hty.2 _ _ hte) hzl happ (by omega)
        (fun d=>by cases A <;> simp [Builtin.firstCells,loadCells,loadCellsFrom]) (by simpa using h3) hby
       simp only [Nat.zero_add,List.nil_append] at hrun hcap hrl
       have hE1:=KH (w:=w) (Z:=Z) (m:=m) (H:=st.heap) dr
       have hH1:=Mn dr hH
       obtain ⟨m',p1,p2,p3⟩:=Kp hH1 hs e te.size n newCap (one n g) (c++rest) h0 hcap (by
         rw [List.length_append,hcl,hrl,← Nat.add_mul];congr 1;omega)
        hgl (fun i j u hi hu=>by
         obtain ⟨hk,v,hv,hr⟩:=hgr i j u hi hu
         refine ⟨hk,v,?_,RepF.mono (w:=w) (w':=CH w dr) (fun _ h=>h) (fun _ _=>rfl) hr⟩
         rw [List.getElem?_append_left (List.getElem?_eq_some_iff.1 hv).1];exact hv)
       exact ⟨_,_,h,HP _ _ _,_,_,m',hrun,hE1.trans p1,p2,p3⟩
     ·-- onto an own one
      rename_i o gen off len _
      split at h
      ·rename_i sz nn gg hob
       replace h:=AI h;obtain ⟨_,h⟩:=h
       replace h:=AI h;obtain ⟨h3,h⟩:=h
       replace h:=AI h;obtain ⟨h4,h⟩:=h
       replace h:=AI h;obtain ⟨h5,h⟩:=h
       replace h:=AI h;obtain ⟨h6,h⟩:=h
       replace h:=AI h;obtain ⟨h7,h⟩:=h
       obtain rfl:=of_decide_eq_true h3
       obtain rfl:=of_decide_eq_true h4
       obtain rfl:=of_decide_eq_true h5
       obtain rfl:=of_decide_eq_true h6
       have h7:=of_decide_eq_true h7
       rw [hlimit] at h7
       cases hs' with
       | hs _ _ _ _ _ hone' ho hg hv =>
       obtain ⟨hle,A,c0,rfl,hc,hA,hcap⟩:=hv _ _ _ hob rfl
       have hb:=hH.ob o _ hob
       obtain ⟨_,cc,el,fr,hblk,hf,hsz,hgl0,hr0⟩:=hb
       have hnlim:(n:Int)*(te.bytes+1)≤17592186044416:=by
        have e1:((len+n:Nat):Int)*(te.bytes+1)=(len:Int)*(te.bytes+1)+(n:Int)*(te.bytes+1):=by rw [Int.natCast_add,Int.add_mul]
        have:0≤(len:Int)*(te.bytes+1):=Int.mul_nonneg (by omega) (by omega)
        omega
       obtain ⟨c,happ,hcl,hgl,hgr⟩:=Qk hty hH hte htj h0 hzl hone hx hxs h2 hnlim
       replace hgl:∀ i,i<n→(one n g i).cells.length=te.size:=fun i hi=>by rw [H4 g hi];exact hgl i hi
       replace hgr:∀ (i j:Nat) (u:F),i<n→(one n g i).cells[j]?=some u→Be u=true∧∃ v,c[i*te.size+j]?=some v∧RepF w Z u v:=fun i j u hi hu=>hgr i j u hi (by rw [← H4 g hi];exact hu)
       have hlive:(HO.arr te.size len gg).live=true:=rfl
       by_cases hroom:len+n≤c0
       ·-- there is room
        have hin:len*te.size+n*te.size≤cc.size:=by
         rw [LQ hblk] at hcap
         have:(len+n)*te.size≤(0+c0)*te.size:=Nat.mul_le_mul_right _ (by omega)
         rw [Nat.add_mul] at this
         omega
        have hone2:∀ v ∈ c,v.oneCell'=true:=by
         intro v hv
         obtain ⟨q,hq,rfl⟩:=List.getElem_of_mem hv
         rw [hcl] at hq
         have hi:q / te.size<n:=Nat.div_lt_of_lt_mul (by rw [Nat.mul_comm];exact hq)
         have hj:q % te.size<te.size:=Nat.mod_lt _ (by omega)
         have hq':q / te.size*te.size+q % te.size=q:=by rw [Nat.mul_comm];exact Nat.div_add_mod q te.size
         have hu:(one n g (q / te.size)).cells[q % te.size]?=some ((one n g (q / te.size)).cells[q % te.size]'(by rw [hgl _ hi];exact hj)):=List.getElem?_eq_getElem _
         obtain ⟨hk,v,hv',hr⟩:=hgr _ _ _ hi hu
         rw [hq'] at hv'
         have:c[q]=v:=by rw [List.getElem?_eq_getElem (by omega)] at hv';exact Option.some.inj hv'
         rw [this];exact hr.one hk
        have hst:(match A with | some a=>(storeCells (a.add (len*te.size)) c).run P w | none=>.ok () w)=.ok () (Bd w (m o) (.cells (wr cc.toList (len*te.size) c).toArray el fr)):=by
         by_cases hc0:c0=0
         ·have hn0:n=0:=by omega
          have hl0:len=0:=by omega
          subst hn0
          have hce:c=[]:=List.length_eq_zero_iff.1 (by simpa using hcl)
          subst hce
          have:Bd w (m o) (.cells (wr cc.toList (len*te.size) []).toArray el fr)=w:=OG (by simpa [wr] using hblk)
          rw [this]
          cases A <;> simp [storeCells]
         ·rw [hA hc0]
          simp only [Nat.zero_mul,Gk,Nat.zero_add]
          have:=Jv (P:=P) (b:=m o) (off:=len*te.size) (el:=el) (fr:=fr) c 0 w cc.toList (by simpa using hblk) (by simp;omega) (fun j hj=>hf j (by simpa using hj)) hone2
          simpa using this
        have hsz2:(wr cc.toList (len*te.size) c).length=cc.size:=by simp [II]
        have hE:Ext w Z m st.heap (Bd w (m o) (.cells (wr cc.toList (len*te.size) c).toArray el fr)) Z m (st.heap.set o (.arr te.size (len+n) fun j=>if j<len then gg j else one n g (j-len))):=by
         refine O9 hH hob rfl ?_
         simp only [Bu,true_and]
         refine ⟨by omega,fun _=>?_⟩
         simp only [Az,Co,hblk]
         simp [blk_lt hblk,hsz2]
        have hgget:(Bd w (m o) (.cells (wr cc.toList (len*te.size) c).toArray el fr)).heap[m o]?=some (.cells (wr cc.toList (len*te.size) c).toArray el fr):=by
         rw [Co];simp [blk_lt hblk]
        have hlt:=(List.getElem?_eq_some_iff.1 hob).1
        refine ⟨_,_,h,rfl,_,_,m,KX hd (hty.2 _ _ hte) happ hroom hst,hE,O7 hH hob rfl hE ?_,?_⟩
        ·refine ⟨h0,_,el,fr,hgget,fun j hj=>?_,by simp only [List.size_toArray,hsz2,Nat.add_mul];omega,fun i hi=>?_,fun i j u hi hu=>?_⟩
         ·rw [JC hblk hgget];exact hf j (by simpa [hsz2] using hj)
         ·simp only
          split
          ·rename_i h;exact hgl0 _ h
          ·exact hgl _ (by omega)
         ·have e:∀ q:Nat,(wr cc.toList (len*te.size) c).toArray[q]?=(wr cc.toList (len*te.size) c)[q]?:=by simp
          rw [e,S1 _ _ _ _ (by simp;omega),hcl]
          simp only at hu
          split at hu
          ·rename_i hil
           have hj:j<te.size:=by have:=(List.getElem?_eq_some_iff.1 hu).1;rwa [hgl0 _ hil] at this
           have:(i+1)*te.size≤len*te.size:=Nat.mul_le_mul_right _ hil
           rw [Nat.add_mul] at this
           rw [if_neg (by omega)]
           obtain ⟨hk,v,hv',hr'⟩:=hr0 _ _ _ hil hu
           exact ⟨hk,v,by simpa using hv',hr'.mono hE.sub hE.kept⟩
          ·rename_i hil
           have hj:j<te.size:=by have:=(List.getElem?_eq_some_iff.1 hu).1;rwa [hgl _ (by omega)] at this
           obtain ⟨hk,v,hv',hr'⟩:=hgr (i-len) j u (by omega) hu
           have e1:(i-len)*te.size+len*te.size=i*te.size:=by rw [← Nat.add_mul];congr 1;omega
           have e2:(i-len+1)*te.size≤n*te.size:=Nat.mul_le_mul_right _ (by omega)
           rw [Nat.add_mul] at e2
           rw [if_pos (by omega),show i*te.size+j-len*te.size=(i-len)*te.size+j by omega]
           exact ⟨hk,v,hv',hr'.mono hE.sub hE.kept⟩
        ·refine .hs _ _ _ _ _ rfl ⟨_,List.getElem?_set_self hlt,by simp⟩ (fun sz' n' g' e1=>?_) fun sz' n' g' e1 _=>?_
         ·rw [List.getElem?_set_self hlt] at e1;cases e1;exact Nat.le_refl _
         ·rw [List.getElem?_set_self hlt] at e1;cases e1
          refine ⟨by omega,_,_,rfl,hroom,hA,?_⟩
          simp only [Az,hgget,List.size_toArray,hsz2]
          rw [LQ hblk] at hcap
          exact hcap
       ·-- a new block
        have hnpos:0<n:=by omega
        have hold:∀ d,(Builtin.firstCells te.size len (.slice A len c0)).run P (CH w d)=.ok (cc.toList.take (len*te.size)).toArray (CH w d):=by
         intro d
         by_cases hl0:len=0
         ·subst hl0
          cases A <;> simp [Builtin.firstCells,loadCells,loadCellsFrom]
         ·rw [hA (by omega)]
          have:=GH (P:=P) (w:=CH w d) (a:=⟨m o,0,none⟩) (n:=len) (c:=c0) (sz:=te.size) (cs:=cc.toList.take (len*te.size)) (by simp;omega) (fun j v hj=>by
           rw [List.getElem?_take] at hj
           split at hj
           ·rw [Gk]
            simp only [World.cell?,CH,hblk,Nat.zero_add]
            simpa using hj
           ·cases hj) len len (Nat.le_refl _)
          simp only [Nat.zero_mul]
          rw [List.take_take,Nat.min_self] at this
          exact this
        obtain ⟨newCap,rest,dr,hcap',hrl,hrun⟩:=KY (ty0:=ty0) (base:=A) (sLen:=len) (sCap:=c0) hd (hty.2 _ _ hte) hzl happ hroom hold h7 hby
        have hE1:=KH (w:=w) (Z:=Z) (m:=m) (H:=st.heap) dr
        have hH1:=Mn dr hH
        have hlt:=(List.getElem?_eq_some_iff.1 hob).1
        have hE2:=XL (g':=fun j=>if j<len then gg j else one n g (j-len)) (c:=.cells (cc.toList.take (len*te.size)++c++rest).toArray e) hH1 hob (show len<len+n by omega)
        have hlen1:(cc.toList.take (len*te.size)).length=len*te.size:=by simp;omega
        have hlenall:(cc.toList.take (len*te.size)++c++rest).length=newCap*te.size:=by
         rw [List.length_append,List.length_append,hlen1,hcl,hrl,← Nat.add_mul,← Nat.add_mul];congr 1;omega
        refine ⟨_,_,h,rfl,_,_,_,hrun,hE1.trans hE2,nM hH1 hob (by omega) ?_,?_⟩
        ·refine ⟨h0,_,e,(0,0),C8 _ _,fun j _=>JB _ _ _ _,?_,fun i hi=>?_,fun i j u hi hu=>?_⟩
         ·simp only [List.size_toArray,hlenall];exact Nat.mul_le_mul_right _ hcap'
         ·simp only
          split
          ·rename_i h;exact hgl0 _ h
          ·exact hgl _ (by omega)
         ·simp only at hu
          have e3:∀ q:Nat,(cc.toList.take (len*te.size)++c++rest).toArray[q]?=(cc.toList.take (len*te.size)++(c++rest))[q]?:=by simp [List.append_assoc]
          rw [e3]
          split at hu
          ·rename_i hil
           have hj:j<te.size:=by have:=(List.getElem?_eq_some_iff.1 hu).1;rwa [hgl0 _ hil] at this
           have:(i+1)*te.size≤len*te.size:=Nat.mul_le_mul_right _ hil
           rw [Nat.add_mul] at this
           obtain ⟨hk,v,hv',hr'⟩:=hr0 _ _ _ hil hu
           refine ⟨hk,v,?_,(RepF.mono (w:=w) (w':=CH w dr) (Z:=Z) (Z':=Z) (fun _ h=>h) (fun _ _=>rfl) hr').mono hE2.sub hE2.kept⟩
           rw [List.getElem?_append_left (by omega),List.getElem?_take,if_pos (by omega)]
           simpa using hv'
          ·rename_i hil
           have hj:j<te.size:=by have:=(List.getElem?_eq_some_iff.1 hu).1;rwa [hgl _ (by omega)] at this
           obtain ⟨hk,v,hv',hr'⟩:=hgr (i-len) j u (by omega) hu
           have e1:(i-len)*te.size+len*te.size=i*te.size:=by rw [← Nat.add_mul];congr 1;omega
           refine ⟨hk,v,?_,(RepF.mono (w:=w) (w':=CH w dr) (Z:=Z) (Z':=Z) (fun _ h=>h) (fun _ _=>rfl) hr').mono hE2.sub hE2.kept⟩
           rw [List.getElem?_append_right (by omega),hlen1,show i*te.size+j-len*te.size=(i-len)*te.size+j by omega,List.getElem?_append_left (List.getElem?_eq_some_iff.1 hv').1]
           exact hv'
        ·refine .hs _ _ _ _ _ rfl ⟨_,List.getElem?_set_self hlt,by simp⟩ (fun sz' n' g' e1=>?_) fun sz' n' g' e1 _=>?_
         ·rw [List.getElem?_set_self hlt] at e1;cases e1;exact Nat.le_refl _
         ·rw [List.getElem?_set_self hlt] at e1;cases e1
          refine ⟨by omega,_,_,rfl,hcap',fun _=>by simp [CH],?_⟩
          simp only [if_true,Az]
          rw [C8]
          simp only [List.size_toArray,hlenall,Nat.zero_add]
          exact Nat.le_refl _
      ·cases h
     ·cases h
   ·cases h
  ·cases h
 ·cases h
end
section
variable {P:Program} {w:World} {Z:Nat→Prop} {m:Nat→Nat} {H:List HO} {ty:TypeId→Option TI} {ρ:Type} {r:ρ} {st:St} {K:U→St→Option ρ}
theorem Te (vs:List Value):∀ (k:Nat) (off:Nat) (cells:Array Value),((vs.zipIdx k).foldl (fun cs (x:Value × Nat)=>cs.setIfInBounds (off+x.2) x.1) cells).toList=wr cells.toList (off+k) vs:=by
 induction vs with
 | nil=>intro k off cells;rfl
 | cons v vs ih =>
  intro k off cells
  simp only [List.zipIdx_cons,List.foldl_cons,wr]
  rw [ih]
  rw [Array.toList_setIfInBounds,Nat.add_assoc]
theorem QH (vs:Array Value) (off:Nat) (cells:Array Value) :
  (vs.zipIdx.foldl (fun cs (x:Value × Nat)=>cs.setIfInBounds (off+x.2) x.1) cells).toList=wr cells.toList off vs.toList:=by
 have:=Te vs.toList 0 off cells
 rw [← Array.foldl_toList]
 simpa using this
def CP (w:World) (Z:Nat→Prop) (m:Nat→Nat) (H:List HO) (us:List U) (vs:List Value):Prop:=us.length=vs.length∧∀ (j:Nat) (u:U) (v:Value),us[j]?=some u→vs[j]?=some v→RepU w Z m H u v
def Kb (w:World) (Z:Nat→Prop) (m:Nat→Nat) (H:List HO):List (Nat × U)→List (Nat × Value)→Prop
 | [],[]=>True
 | (i,u) :: us,(j,v) :: vs=>i=j∧RepU w Z m H u v∧Kb w Z m H us vs
 | _,_=>False
theorem wr_reps {cs:List U} {vs:List Value} (h:CP w Z m H cs vs) {xs:List U} {ys:List Value} (hx:CP w Z m H xs ys) {off:Nat} (hin:off+xs.length≤cs.length):CP w Z m H (Jx cs off xs) (wr vs off ys):=by
 refine ⟨by simp [Ix,II,h.1],fun j u v hu hv=>?_⟩
 rw [Ra _ _ _ _ hin] at hu
 rw [S1 _ _ _ _ (by rw [← hx.1,← h.1];exact hin)] at hv
 rw [← hx.1] at hv
 split at hu
 ·rename_i hc;rw [if_pos hc] at hv;exact hx.2 _ _ _ hu hv
 ·rename_i hc;rw [if_neg hc] at hv;exact h.2 _ _ _ hu hv
theorem Yn {u:U} {v:Value} (h:RepU w Z m H u v) (ha:u.cells.all KW=true):CP w Z m H u.cells v.cells.toList:=by
 obtain ⟨a,b,c⟩:=JH h ha
 refine ⟨by simpa using a,fun j x y hx hy=>?_⟩
 obtain ⟨y',hy',hr⟩:=b j x hx
 have:y'=y:=by
  have e:v.cells.toList[j]?=v.cells[j]?:=by simp
  rw [e,hy'] at hy;exact Option.some.inj hy
 exact this ▸ hr
theorem JE (Bv:Nat→Option (Nat × Nat)):∀ (ps:List (Nat × U)) (qs:List (Nat × Value)) (cs cs':List U) (vs:Array Value),Kb w Z m H ps qs→CP w Z m H cs vs.toList →
  QI Bv cs ps=some cs'→∃ vs',Instr.fill Bv vs qs=some vs'∧CP w Z m H cs' vs'.toList
 | [],[],cs,cs',vs,_,hc,h=>by
  simp only [QI,Option.some.injEq] at h
  subst h
  exact ⟨vs,rfl,hc⟩
 | (i,u) :: ps,(j,v) :: qs,cs,cs',vs,hp,hc,h=>by
  obtain ⟨rfl,hu,hp⟩:=hp
  simp only [QI] at h
  split at h
  ·cases h
  ·rename_i off size hpl
   split at h
   ·rename_i hcond
    obtain ⟨h1,h2,h3⟩:=hcond
    have hcells:=Yn hu h3
    have hvs:v.cells.size=size:=by have:=hcells.1;simp at this;omega
    have hlv:cs.length=vs.size:=by simpa using hc.1
    have hrec:=JE Bv ps qs (Jx cs off u.cells) cs' (v.cells.zipIdx.foldl (fun cs (x:Value × Nat)=>cs.setIfInBounds (off+x.2) x.1) vs) hp (by
     rw [QH];exact wr_reps hc hcells (by omega)) h
    obtain ⟨vs',e1,e2⟩:=hrec
    refine ⟨vs',?_,e2⟩
    simp only [Instr.fill,hpl]
    rw [if_neg (by simp [hvs];omega)]
    exact e1
   ·cases h
 | [],_ :: _,_,_,_,hp,_,_=>hp.elim
 | _ :: _,[],_,_,_,hp,_,_=>hp.elim
theorem MX (hty:Gl P ty):∀ (fs:List Field) (ps:List (Nat × Nat)),J5 ty (fs.map fun f=>(f.offset,f.type))=some ps →
  (fs.mapM (m:=Sem) fun f=>do pure (f.offset,← sizeOf f.type)).run P w=.ok ps w
 | [],ps,h=>by simp only [List.map_nil,J5,Option.some.injEq] at h;subst h;simp
 | f :: fs,ps,h=>by
  simp only [List.map_cons,J5] at h
  split at h
  ·rename_i ti ps' hti hps
   cases h
   have ih:=MX hty fs ps' hps
   rw [List.mapM_cons]
   simp only [Sem.run_bind,Bc (hty.2 _ _ hti),Result.andThen,Sem.run_pure,ih]
  ·cases h
theorem cV (zs:List Value):CP w Z m H (zs.map cv) zs:=⟨by simp,fun j u v hu hv=>by
 rw [List.getElem?_map,hv] at hu;cases hu;exact Qb _⟩
theorem Xz (hty:Gl P ty) {t:TypeId} {ps:List (Nat × U)} {qs:Array (Nat × Value)} (hp:Kb w Z m st.heap ps qs.toList) (h:Hu ty t ps st K=some r) :
  ∃ u,K u st=some r∧∃ v,(Instr.build t qs).run P w=.ok v w∧RepU w Z m st.heap u v:=by
 unfold Hu at h
 split at h
 ·rename_i ti hti
  obtain ⟨d,hd,hu⟩:=Cl (hty.2 _ _ hti)
  obtain ⟨z,hz,hzc⟩:=MK (hty.2 _ _ hti) w
  split at h
  ·rename_i fs huk
   rw [huk] at hu
   obtain ⟨fa,rfl,rfl⟩:=Jq hu.symm
   split at h
   ·rename_i pl hpl
    split at h
    ·rename_i cs hcs
     obtain ⟨vs',e1,e2⟩:=JE (pl[·]?) ps qs.toList (ti.zero.map cv) cs z.cells hp (by rw [hzc];exact cV _) hcs
     refine ⟨_,h,.agg vs',?_,.agg _ _ e2.1 e2.2⟩
     have hpr:=MX (w:=w) hty _ _ hpl
     have hpr':(fa.mapM (m:=Sem) fun f=>do pure (f.offset,← sizeOf f.type)).run P w=.ok pl.toArray w:=by
      rw [← Array.toArray_toList (xs:=fa)]
      rw [List.mapM_toArray]
      simp only [Sem.run_map,hpr,Result.andThen]
     simp only [Instr.build,Sem.run_bind,hz,Result.andThen,Ao hd,Sem.run_pure]
     have hg:∀ i:Nat,pl.toArray[i]?=pl[i]?:=by intro i;simp
     simp only [Sem.run_bind,Sem.run_pure,hpr',Result.andThen,hg,e1]
    ·cases h
   ·cases h
  ·rename_i n e huk
   rw [huk] at hu
   obtain rfl:=PJ hu.symm
   split at h
   ·rename_i te hte
    split at h
    ·rename_i cs hcs
     obtain ⟨vs',e1,e2⟩:=JE _ ps qs.toList (ti.zero.map cv) cs z.cells hp (by rw [hzc];exact cV _) hcs
     refine ⟨_,h,.agg vs',?_,.agg _ _ e2.1 e2.2⟩
     simp only [Instr.build,Sem.run_bind,hz,Result.andThen,Ao hd,Sem.run_pure,Bc (hty.2 _ _ hte),e1]
    ·cases h
   ·cases h
  ·cases h
 ·cases h
end
end Go.Proofs.YtlefbocihikaoaaGreat.R
