/-
  The own reflective walk, part 14: every operation.
-/
import Derived.Test.YtjbilidfnfnpfaaR13
namespace Go.Proofs.Ytjbilidfnfnpfaa.R
open Go
set_option linter.unusedVariables false
set_option linter.unusedSimpArgs false

/-- Old blocks stand as they stood. -/
structure Grows (w w' : World) : Prop where
  os : w'.os = w.os
  tape : w'.tape = w.tape
  output : w'.output = w.output
  size : w.heap.size ≤ w'.heap.size
  old : ∀ b, b < w.heap.size → w'.heap[b]? = w.heap[b]?

/-- A call that comes to its end. -/
def CallDoes (P : Program) (f : FuncId) (args : Array Value) (w : World) (R : Value → World → Prop) : Prop :=
  ((callFunc f args).run P w = .ok (.enter f args) w ∧ Calls P f args w fun | .returned v, w' => R v w' | _, _ => False) ∨
  ∃ v w', (callFunc f args).run P w = .ok (.value v) w' ∧ R v w'

theorem CallDoes.mono {P : Program} {f : FuncId} {args : Array Value} {w : World} {R R' : Value → World → Prop} (h : CallDoes P f args w R) (hr : ∀ v w', R v w' → R' v w') : CallDoes P f args w R' := by
  rcases h with ⟨h1, h2⟩ | ⟨v, w', h1, h2⟩
  · refine .inl ⟨h1, fun cs => ?_⟩
    obtain ⟨e, w', fr, he, hc⟩ := h2 cs
    refine ⟨e, w', fr, ?_, hc⟩
    cases e with
    | returned v => exact hr _ _ he
    | _ => exact he.elim
  · exact .inr ⟨v, w', h1, hr _ _ h2⟩

def PureOK (P : Program) (f : FuncId) (pre : List F → Bool) (res : List F → F) : Prop :=
  ∀ xs, pre xs = true → ∀ (w : World) (Z : Nat → Prop) (args : Array Value), (∀ b, Z b → b < w.heap.size) → RepL w Z xs args.toList →
    CallDoes P f args w fun v w' => Grows w w' ∧ ∃ Z' : Nat → Prop, (∀ b, Z' b → Z b ∨ (w.heap.size ≤ b ∧ b < w'.heap.size)) ∧ RepF w' Z' (res xs) v

def SharedOK (P : Program) (f : FuncId) (pre : List U → List HO → Bool) (res : List U → List HO → U × List HO) : Prop :=
  ∀ us H, pre us H = true → ∀ (w : World) (Z : Nat → Prop) (m : Nat → Nat) (args : Array Value), HOK w Z m H → RepUs w Z m H us args.toList →
    CallDoes P f args w fun v w' => ∃ Z' m', Ext w Z m H w' Z' m' (res us H).2 ∧ HOK w' Z' m' (res us H).2 ∧ RepU w' Z' m' (res us H).2 (res us H).1 v

/-- A method's behaviour, by its receiver's fields and its arguments. -/
def ptrPre (pre : List F → List F → Bool) : List U → List HO → Bool
  | .hp o 0 :: us, H => match H[o]? with
    | some (.box cu) => match toFs [] cu, toFs [] us with
      | some cs, some xs => pre cs xs
      | _, _ => false
    | _ => false
  | _, _ => false
def ptrRes (res : List F → List F → F × List F) : List U → List HO → U × List HO
  | .hp o 0 :: us, H => match H[o]? with
    | some (.box cu) => match toFs [] cu, toFs [] us with
      | some cs, some xs => (.f (res cs xs).1, H.set o (boxF (res cs xs).2))
      | _, _ => (.bad, H)
    | _ => (.bad, H)
  | _, H => (.bad, H)
/-- A function that hands back a pointer to a new box. -/
def newPre (pre : List F → Bool) : List U → List HO → Bool := fun us _ => match toFs [] us with
  | some xs => pre xs
  | none => false
def newRes (res : List F → List F) : List U → List HO → U × List HO := fun us H => match toFs [] us with
  | some xs => (.hp H.length 0, H ++ [boxF (res xs)])
  | none => (.bad, H)

def ownPre (pre : List F → Bool) : List U → List HO → Bool := fun us H => match toFs H us with
  | some xs => pre xs
  | none => false
def ownRes (slot : Option Nat) (c : List F → Bool) (r1 r2 : List F → F) : List U → List HO → U × List HO := fun us H => match toFs H us with
  | some xs => place H slot (if c xs then r1 xs else r2 xs)
  | none => (.bad, H)
def OwnOK (P : Program) (f : FuncId) (pre c : List F → Bool) (r1 r2 : List F → F) : Prop :=
  ∀ us H slot, SlotOK H slot → ownPre pre us H = true → ∀ (w : World) (Z : Nat → Prop) (m : Nat → Nat) (args : Array Value), HOK w Z m H → RepUs w Z m H us args.toList →
    CallDoes P f args w fun v w' => ∃ Z' m', Ext w Z m H w' Z' m' (ownRes slot c r1 r2 us H).2 ∧ HOK w' Z' m' (ownRes slot c r1 r2 us H).2 ∧ RepU w' Z' m' (ownRes slot c r1 r2 us H).2 (ownRes slot c r1 r2 us H).1 v
def arrPre (sz0 : Nat) (pre : Nat → (Nat → F) → List F → Bool) : List U → List HO → Bool
  | .hs o gen off len :: us, H => match H[o]?, toFs [] us with
    | some (.arr sz n g), some xs => Nat.beq sz sz0 && decide (gen = n) && decide (off = 0) && decide (len = n) && pre n g xs
    | _, _ => false
  | .nils :: us, _ => match toFs [] us with
    | some xs => pre 0 (fun _ => .dflt) xs
    | none => false
  | .f (.sl n _) :: us, _ => match toFs [] us with
    | some xs => Nat.beq n 0 && pre 0 (fun _ => .dflt) xs
    | none => false
  | _, _ => false
def arrRes (res : Nat → (Nat → F) → List F → F × (Nat → F)) : List U → List HO → U × List HO
  | .hs o _ _ _ :: us, H => match H[o]?, toFs [] us with
    | some (.arr sz n g), some xs => (.f (res n g xs).1, H.set o (.arr sz n (res n g xs).2))
    | _, _ => (.bad, H)
  | .nils :: us, H => match toFs [] us with
    | some xs => (.f (res 0 (fun _ => .dflt) xs).1, H)
    | none => (.bad, H)
  | .f (.sl _ _) :: us, H => match toFs [] us with
    | some xs => (.f (res 0 (fun _ => .dflt) xs).1, H)
    | none => (.bad, H)
  | _, H => (.bad, H)

def lentPre (sz0 : Nat) (pre : List U → Nat → (Nat → F) → Bool) (pre0 : List F → Bool) : List U → List HO → Bool := fun us H => match refsAll us with
  | [o] => match H[o]? with
    | some (.arr sz n g) => Nat.beq sz sz0 && pre (renUs [o] us) n g
    | _ => false
  | [] => match toFs [] us with
    | some xs => pre0 xs
    | none => false
  | _ => false
def lentRes (res : List U → Nat → (Nat → F) → F × (Nat → F)) (res0 : List F → F) : List U → List HO → U × List HO := fun us H => match refsAll us with
  | [o] => match H[o]? with
    | some (.arr sz n g) => (.f (res (renUs [o] us) n g).1, H.set o (.arr sz n (res (renUs [o] us) n g).2))
    | _ => (.bad, H)
  | [] => match toFs [] us with
    | some xs => (.f (res0 xs), H)
    | none => (.bad, H)
  | _ => (.bad, H)

def SpOK (P : Program) (f : FuncId) : Sp → Prop
  | .none => True
  | .pure pre res => PureOK P f pre res
  | .shared pre res => SharedOK P f pre res
  | .ptr pre res => SharedOK P f (ptrPre pre) (ptrRes res)
  | .new pre res => SharedOK P f (newPre pre) (newRes res)
  | .own pre c r1 r2 => OwnOK P f pre c r1 r2
  | .lent sz pre res pre0 res0 => SharedOK P f (lentPre sz pre pre0) (lentRes res res0)
  | .arrw sz pre res => SharedOK P f (arrPre sz pre) (arrRes res)
def EnvOK (P : Program) (C : Env) : Prop := ∀ f, SpOK P f (C f)

/-- The walk's state, in memory. -/
structure AOK (w : World) (Z : Nat → Prop) (m : Nat → Nat) (st : St) (a : Act) : Prop where
  len : st.tmps.length = a.tmps.size
  rep : ∀ (i : Nat) (u : U) (v : Value), st.tmps[i]? = some u → a.tmps[i]? = some v → RepU w Z m st.heap u v
  hok : HOK w Z m st.heap

section
variable {P : Program} {w : World} {Z : Nat → Prop} {m : Nat → Nat} {H : List HO} {ty : TypeId → Option TI} {C : Env} {ρ : Type} {r : ρ} {st : St} {K : U → St → Option ρ} {a : Act}

theorem ev_rep (hA : AOK w Z m st a) (o : Operand) : RepU w Z m st.heap (st.ev o) (a.eval o) := by
  cases o with
  | tmp t =>
    simp only [St.ev, Act.eval]
    by_cases ht : t < st.tmps.length
    · have h1 : st.tmps[t]? = some st.tmps[t] := List.getElem?_eq_getElem ht
      have ht' : t < a.tmps.size := by rw [← hA.len]; exact ht
      have h2 : a.tmps[t]? = some a.tmps[t] := Array.getElem?_eq_getElem ht'
      have := hA.rep t _ _ h1 h2
      simpa [List.getD, h1, Array.getD, ht'] using this
    · rw [List.getD, List.getElem?_eq_none (Nat.le_of_not_lt ht)]
      exact .bad _
  | const v => exact cv_rep v
  | func f => exact .fn f [] [] rfl (fun j u v hu => by simp at hu)
  | global g => exact .bad _

theorem evs_rep (hA : AOK w Z m st a) (os : List Operand) : RepUs w Z m st.heap (os.map st.ev) (os.map a.eval) := by
  refine ⟨by simp, fun j u v hu hv => ?_⟩
  rw [List.getElem?_map] at hu hv
  cases ho : os[j]? with
  | none => rw [ho] at hu; cases hu
  | some o => rw [ho] at hu hv; cases hu; cases hv; exact ev_rep hA o

theorem parts_rep (hA : AOK w Z m st a) : ∀ ps : List (Nat × Operand), RepParts w Z m st.heap (ps.map fun p => (p.1, st.ev p.2)) (ps.map fun p => (p.1, a.eval p.2))
  | [] => trivial
  | (i, o) :: ps => ⟨rfl, ev_rep hA o, parts_rep hA ps⟩

theorem opt_rep (hA : AOK w Z m st a) (o : Option Operand) : OptRep w Z m st.heap (o.map st.ev) (o.map a.eval) := by
  cases o with
  | none => trivial
  | some o => exact ev_rep hA o

/-- What a call of known behaviour does. -/
theorem call_sound {slot : Option Nat} (hs : SlotOK st.heap slot) (hC : EnvOK P C) (hH : HOK w Z m st.heap) {f : FuncId} {us : List U} {args : Array Value} (hu : RepUs w Z m st.heap us args.toList) (h : evCall C slot f us st K = some r) :
    ∃ u st', K u st' = some r ∧ st'.tmps = st.tmps ∧ CallDoes P f args w fun v w' => ∃ Z' m', Ext w Z m st.heap w' Z' m' st'.heap ∧ HOK w' Z' m' st'.heap ∧ RepU w' Z' m' st'.heap u v := by
  unfold evCall at h
  have hf := hC f
  split at h
  · cases h
  · rename_i pre res he
    rw [he] at hf
    replace h := toFsC_some _ _ h
    obtain ⟨xs, hxs, h⟩ := h
    · replace h := bsel_some h; obtain ⟨hp, h⟩ := h
      have hgrow : ∀ {w' : World} {Z1 : Nat → Prop} {H1 : List HO}, HOK w Z1 m H1 → Grows w w' → Ext w Z1 m H1 w' Z1 m H1 := fun {w' Z1 H1} hH1 g => by
        refine ⟨g.os, g.tape, g.output, g.size, fun _ h => h, fun _ h => .inl h, fun b hb => g.old b (hH1.zlt b hb), fun b hb _ => g.old b hb, Nat.le_refl _, fun o ob ob' h1 h2 => ?_, fun o h => .inl ⟨h, rfl⟩⟩
        rw [h1] at h2; cases h2
        by_cases hd : ob.live = true
        case neg => cases ob <;> simp_all [Evol, HO.live]
        · have hlt := hH1.blk_lt (live_of h1 hd)
          have : blockCells w' (m o) = blockCells w (m o) := by simp only [blockCells, g.old _ hlt]
          cases ob <;> simp_all [Evol]
      cases hsc : scalar (res xs) with
      | true =>
        rw [hsc] at h
        refine ⟨_, _, h, rfl, ?_⟩
        -- the arguments' blocks, seen as data for the time of the call
        have hL : RepL w (fun b => Z b ∨ ∃ o, o ∈ objsAll us ∧ liveAt st.heap o ∧ m o = b) xs args.toList := by
          obtain ⟨hl, hg⟩ := toFs_get us xs hxs
          refine ⟨by rw [← hl]; exact hu.1, fun j x v hx' hv => ?_⟩
          have hj := (List.getElem?_eq_some_iff.1 hx').1
          have hu' : us[j]? = some us[j] := List.getElem?_eq_getElem (by omega)
          refine (toF_rep hH (fun _ _ h => h) (hu.2 j _ v hu' hv) (hg j _ x hu' hx')).mono ?_ (fun _ _ => rfl)
          rintro b (hb | ⟨o, ho, hlv, rfl⟩)
          · exact .inl hb
          · exact .inr ⟨o, objsAll_mem us _ o (List.getElem_mem _) ho, hlv, rfl⟩
        refine (hf xs hp w _ args (by
          rintro b (hb | ⟨o, _, hlv, rfl⟩)
          · exact hH.zlt b hb
          · exact hH.blk_lt hlv) hL).mono fun v w' ⟨g, Z', hZ', hr⟩ => ?_
        have hE := hgrow hH g
        refine ⟨Z, m, hE, ?_, .f _ _ (hr.scalar_any hsc)⟩
        refine ⟨fun b hb => Nat.lt_of_lt_of_le (hH.zlt b hb) g.size, hH.apart, hH.inj, fun o ob ho => ?_⟩
        by_cases hd : ob.live = true
        case neg => cases ob <;> simp_all [ObOK, HO.live]
        · exact (hH.ob o ob ho).mono hE (g.old _ (hH.blk_lt (live_of ho hd)))
      | false =>
        rw [hsc, bsel_false] at h
        replace h := bsel_some h; obtain ⟨_, h⟩ := h
        refine ⟨_, _, h, rfl, ?_⟩
        obtain ⟨Z1, hE1, hH1, hL, _⟩ := freeze_sound hH hu hxs
        refine (hf xs hp w Z1 args hH1.zlt hL).mono fun v w' ⟨g, Z', hZ', hr⟩ => ?_
        refine ⟨fun b => Z1 b ∨ (w.heap.size ≤ b ∧ b < w'.heap.size), m, ?_, ?_, .f _ _ (hr.mono hZ' (fun _ _ => rfl))⟩
        · refine hE1.trans ?_
          have e := hgrow hH1 g
          exact ⟨e.os, e.tape, e.output, e.size, fun _ h => .inl h, fun b h => by rcases h with h | h; exact .inl h; exact .inr (.inl h.1), e.kept, e.rest, e.len, e.evol, e.new⟩
        · have e := hgrow hH1 g
          have e2 : Ext w Z1 m (killAll st.heap (objsAll us)) w' (fun b => Z1 b ∨ (w.heap.size ≤ b ∧ b < w'.heap.size)) m (killAll st.heap (objsAll us)) :=
            ⟨e.os, e.tape, e.output, e.size, fun _ h => .inl h, fun b h => by rcases h with h | h; exact .inl h; exact .inr (.inl h.1), e.kept, e.rest, e.len, e.evol, e.new⟩
          refine ⟨fun b hb => ?_, fun o ho hb => ?_, hH1.inj, fun o ob ho => ?_⟩
          · rcases hb with hb | hb
            · exact Nat.lt_of_lt_of_le (hH1.zlt b hb) g.size
            · exact hb.2
          · rcases hb with hb | hb
            · exact hH1.apart o ho hb
            · have := hH1.blk_lt ho; omega
          · by_cases hd : ob.live = true
            case neg => cases ob <;> simp_all [ObOK, HO.live]
            · exact (hH1.ob o ob ho).mono e2 (g.old _ (hH1.blk_lt (live_of ho hd)))
  · rename_i pre res he
    rw [he] at hf
    replace h := bsel_some h; obtain ⟨hp, h⟩ := h
    simp only [Bool.and_eq_true] at hp
    replace hp := hp.2
    exact ⟨_, _, h, rfl, hf us st.heap hp w Z m args hH hu⟩
  · rename_i pre res he
    rw [he] at hf
    split at h
    · rename_i o us'
      split at h
      · rename_i cu ho
        split at h
        · rename_i cs xs hcs hxs
          replace h := bsel_some h; obtain ⟨hp, h⟩ := h
          simp only [Bool.and_eq_true] at hp
          have hres : ptrRes res (.hp o 0 :: us') st.heap = (.f (res cs xs).1, st.heap.set o (boxF (res cs xs).2)) := by simp only [ptrRes, ho, hcs, hxs]
          have hpre : ptrPre pre (.hp o 0 :: us') st.heap = true := by simp only [ptrPre, ho, hcs, hxs]; exact hp.2
          have := hf _ st.heap hpre w Z m args hH hu
          rw [hres] at this
          exact ⟨_, _, h, rfl, this⟩
        · cases h
      · cases h
    · cases h
  · rename_i pre res he
    rw [he] at hf
    split at h
    · rename_i xs hxs
      replace h := bsel_some h; obtain ⟨hp, h⟩ := h
      simp only [Bool.and_eq_true] at hp
      have hres : newRes res us st.heap = (.hp st.heap.length 0, st.heap ++ [boxF (res xs)]) := by simp only [newRes, hxs]
      have hpre : newPre pre us st.heap = true := by simp only [newPre, hxs]; exact hp.2
      have := hf _ st.heap hpre w Z m args hH hu
      rw [hres] at this
      exact ⟨_, _, h, rfl, this⟩
    · cases h
  · rename_i pre c r1 r2 he
    rw [he] at hf
    replace h := toFsC_some _ _ h
    obtain ⟨xs, hxs, h⟩ := h
    replace h := bsel_some h; obtain ⟨hp, h⟩ := h
    have hpre : ownPre pre us st.heap = true := by simp only [ownPre, hxs]; exact hp
    have := hf us st.heap slot hs hpre w Z m args hH hu
    cases hc : c xs with
    | true =>
      rw [hc, bsel_true] at h
      have hres : ownRes slot c r1 r2 us st.heap = place st.heap slot (r1 xs) := by simp only [ownRes, hxs, hc, if_true]
      rw [hres] at this
      exact ⟨_, _, h, rfl, this⟩
    | false =>
      rw [hc, bsel_false] at h
      have hres : ownRes slot c r1 r2 us st.heap = place st.heap slot (r2 xs) := by simp only [ownRes, hxs, hc, Bool.false_eq_true, if_false]
      rw [hres] at this
      exact ⟨_, _, h, rfl, this⟩
  · rename_i sz0 pre res pre0 res0 he
    rw [he] at hf
    split at h
    · rename_i o hrf
      split at h
      · rename_i sz n g ho
        replace h := bsel_some h; obtain ⟨hp, h⟩ := h
        replace h := bsel_some h; obtain ⟨hp2, h⟩ := h
        simp only [Bool.and_eq_true] at hp
        have hres : lentRes res res0 us st.heap = (.f (res (renUs [o] us) n g).1, st.heap.set o (.arr sz n (res (renUs [o] us) n g).2)) := by simp only [lentRes, hrf, ho]
        have hpre : lentPre sz0 pre pre0 us st.heap = true := by simp only [lentPre, hrf, ho, Bool.and_eq_true]; exact ⟨hp.2, hp2⟩
        have := hf us st.heap hpre w Z m args hH hu
        rw [hres] at this
        exact ⟨_, _, h, rfl, this⟩
      · cases h
    · rename_i hrf
      split at h
      · rename_i xs hxs
        replace h := bsel_some h; obtain ⟨hp, h⟩ := h
        simp only [Bool.and_eq_true] at hp
        have hres : lentRes res res0 us st.heap = (.f (res0 xs), st.heap) := by simp only [lentRes, hrf, hxs]
        have hpre : lentPre sz0 pre pre0 us st.heap = true := by simp only [lentPre, hrf, hxs]; exact hp.2
        have := hf us st.heap hpre w Z m args hH hu
        rw [hres] at this
        exact ⟨_, _, h, rfl, this⟩
      · cases h
    · cases h
  · rename_i sz0 pre res he
    rw [he] at hf
    split at h
    · rename_i o gen off len us'
      split at h
      · rename_i sz n g xs ho hxs
        replace h := bsel_some h; obtain ⟨hp, h⟩ := h
        replace h := bsel_some h; obtain ⟨hp2, h⟩ := h
        simp only [Bool.and_eq_true] at hp
        have hres : arrRes res (.hs o gen off len :: us') st.heap = (.f (res n g xs).1, st.heap.set o (.arr sz n (res n g xs).2)) := by simp only [arrRes, ho, hxs]
        have hpre : arrPre sz0 pre (.hs o gen off len :: us') st.heap = true := by simp only [arrPre, ho, hxs, Bool.and_eq_true]; exact ⟨hp.2, hp2⟩
        have := hf _ st.heap hpre w Z m args hH hu
        rw [hres] at this
        exact ⟨_, _, h, rfl, this⟩
      · cases h
    · rename_i us'
      split at h
      · rename_i xs hxs
        replace h := bsel_some h; obtain ⟨hp, h⟩ := h
        simp only [Bool.and_eq_true] at hp
        have hres : arrRes res (.nils :: us') st.heap = (.f (res 0 (fun _ => .dflt) xs).1, st.heap) := by simp only [arrRes, hxs]
        have hpre : arrPre sz0 pre (.nils :: us') st.heap = true := by simp only [arrPre, hxs]; exact hp.2
        have := hf _ st.heap hpre w Z m args hH hu
        rw [hres] at this
        exact ⟨_, _, h, rfl, this⟩
      · cases h
    · rename_i n g us'
      split at h
      · rename_i xs hxs
        replace h := bsel_some h; obtain ⟨hp, h⟩ := h
        replace h := bsel_some h; obtain ⟨hp2, h⟩ := h
        simp only [Bool.and_eq_true] at hp
        have hres : arrRes res (.f (.sl n g) :: us') st.heap = (.f (res 0 (fun _ => .dflt) xs).1, st.heap) := by simp only [arrRes, hxs]
        have hpre : arrPre sz0 pre (.f (.sl n g) :: us') st.heap = true := by simp only [arrPre, hxs, Bool.and_eq_true]; exact ⟨hp.2, hp2⟩
        have := hf _ st.heap hpre w Z m args hH hu
        rw [hres] at this
        exact ⟨_, _, h, rfl, this⟩
      · cases h
    · cases h

/-- What an operation does. -/
def Does (P : Program) (o : Oper) (a : Act) (w : World) (R : Value → World → Prop) : Prop :=
  (∃ v w', (execOp a.eval o).run P w = .ok (.value v) w' ∧ R v w') ∨ (∃ w', (execOp a.eval o).run P w = .ok .skip w' ∧ R undef w') ∨
  ∃ f args, (execOp a.eval o).run P w = (callFunc f args).run P w ∧ CallDoes P f args w R

theorem Does.wp {o : Oper} {R : Value → World → Prop} (h : Does P o a w R) {next : Act → World → Prop} {Q : Exit → Act → World → Prop} (hn : ∀ v w', R v w' → next (a.put o.dst v) w') : o.wp P a w next Q := by
  unfold Oper.wp
  rcases h with ⟨v, w', h, hr⟩ | ⟨w', h, hr⟩ | ⟨f, args, h, ⟨h1, h2⟩ | ⟨v, w', h1, h2⟩⟩
  · rw [h]; exact hn _ _ hr
  · rw [h]; exact hn _ _ hr
  · rw [h, h1]
    intro cs
    obtain ⟨e, w', fr, he, hc⟩ := h2 cs
    refine ⟨e, w', fr, ?_, hc⟩
    cases e with
    | returned v => exact hn _ _ he
    | _ => exact he.elim
  · rw [h, h1]; exact hn _ _ h2

/-- The walk's answer, in memory. -/
def Post (w : World) (Z : Nat → Prop) (m : Nat → Nat) (H : List HO) (u : U) (H' : List HO) (v : Value) (w' : World) : Prop := ∃ Z' m', Ext w Z m H w' Z' m' H' ∧ HOK w' Z' m' H' ∧ RepU w' Z' m' H' u v

theorem does_pure {o : Oper} (hH : HOK w Z m st.heap) {s : Sem Value} (hs : execOp a.eval o = (do pure (.value (← s)))) (h : ∃ u, K u st = some r ∧ ∃ v, s.run P w = .ok v w ∧ RepU w Z m st.heap u v) :
    ∃ u st', K u st' = some r ∧ st'.tmps = st.tmps ∧ Does P o a w (Post w Z m st.heap u st'.heap) := by
  obtain ⟨u, hk, v, hv, hr⟩ := h
  exact ⟨u, st, hk, rfl, .inl ⟨v, w, by rw [hs]; simp [hv, Result.andThen], Z, m, Ext.refl _ _ _ _, hH, hr⟩⟩

theorem does_new {o : Oper} {s : Sem Value} (hs : execOp a.eval o = (do pure (.value (← s))))
    (h : ∃ u st', K u st' = some r ∧ st'.tmps = st.tmps ∧ ∃ v w' m', s.run P w = .ok v w' ∧ Ext w Z m st.heap w' Z m' st'.heap ∧ HOK w' Z m' st'.heap ∧ RepU w' Z m' st'.heap u v) :
    ∃ u st', K u st' = some r ∧ st'.tmps = st.tmps ∧ Does P o a w (Post w Z m st.heap u st'.heap) := by
  obtain ⟨u, st', hk, ht, v, w', m', hv, hE, hH, hr⟩ := h
  exact ⟨u, st', hk, ht, .inl ⟨v, w', by rw [hs]; simp [hv, Result.andThen], Z, m', hE, hH, hr⟩⟩

theorem op_sound (hty : TyOK P ty) (hC : EnvOK P C) (hA : AOK w Z m st a) {slot : Option Nat} (hs : SlotOK st.heap slot) {o : Oper} (h : evOp P ty C slot o st K = some r) :
    ∃ u st', K u st' = some r ∧ st'.tmps = st.tmps ∧ Does P o a w (Post w Z m st.heap u st'.heap) := by
  have hH := hA.hok
  unfold evOp at h
  split at h
  · rename_i x hop
    exact does_pure hH (s := pure (a.eval x)) (by simp [execOp, hop]) ⟨_, h, _, rfl, ev_rep hA x⟩
  · rename_i x hop
    exact does_pure hH (s := pure (a.eval x)) (by simp [execOp, hop]) ⟨_, h, _, rfl, ev_rep hA x⟩
  · rename_i c x y hop
    split at h
    · rename_i t ht
      have hc := ev_rep hA c
      rw [ht] at hc
      have hc := bool_rep hc
      refine does_pure hH (s := do pure (if ← asBool (a.eval c) then a.eval x else a.eval y)) (by simp [execOp, hop]) ?_
      cases t with
      | true => exact ⟨_, h, a.eval x, by rw [hc]; simp [asBool, Result.andThen], ev_rep hA x⟩
      | false => exact ⟨_, h, a.eval y, by rw [hc]; simp [asBool, Result.andThen], ev_rep hA y⟩
    · cases h
  · rename_i e hop
    split at h
    · rename_i te hte
      obtain ⟨v, w', m', p⟩ := alloc_sound (P := P) hty hH hs hte
      exact does_new (s := Instr.alloc e true (.tuple #[])) (by simp [execOp, hop]) ⟨_, _, h, new_tmps _ _ _, v, w', m', p⟩
    · cases h
  · rename_i e x hop
    split at h
    · cases h
    · cases h
    · cases h
    · cases h
    · rename_i h1 h2 h3 h4
      obtain ⟨v, w', m', p⟩ := boxv_sound (P := P) hH hs (e := e) (ev_rep hA x) h1 h2 ⟨fun us e => h3 us e, fun xs e => h4 xs e⟩
      exact does_new (s := Instr.box e (a.eval x)) (by simp [execOp, hop]) ⟨_, _, h, new_tmps _ _ _, v, w', m', p⟩
  · rename_i t parts hop
    exact does_pure hH (s := Instr.build t (parts.map fun (i, x) => (i, a.eval x))) (by simp [execOp, hop]) (build_sound hty (by rw [Array.toList_map]; exact parts_rep hA _) h)
  · rename_i t len parts hop
    obtain ⟨u, st', hk, ht, v, w', Z', m', hv, hE, hH', hr⟩ := buildSlice_sound (P := P) hty hH hs (qs := parts.map fun (i, x) => (i, a.eval x)) (by rw [Array.toList_map]; exact parts_rep hA _) h
    exact ⟨u, st', hk, ht, .inl ⟨v, w', by simp [execOp, hop, hv, Result.andThen], Z', m', hE, hH', hr⟩⟩
  · rename_i t x hop
    split at h
    · rename_i ti hti
      exact does_pure hH (s := Instr.loadAt t (a.eval x)) (by simp [execOp, hop]) (load_sound (hty.2 _ _ hti) hH (ev_rep hA x) h)
    · cases h
  · rename_i t x y hop
    split at h
    · rename_i ti hti
      replace h := bsel_some h; obtain ⟨_, h⟩ := h
      obtain ⟨st', hk, ht, w', hw, hE, hH'⟩ := store_sound (hty.2 _ _ hti) hH (ev_rep hA x) (ev_rep hA y) h
      exact ⟨_, st', hk, ht, .inr (.inl ⟨w', by simp [execOp, hop, hw, Result.andThen], Z, m, hE, hH', .undef⟩)⟩
    · cases h
  · rename_i x hop
    have hx := ev_rep hA x
    split at h
    · rename_i o k he
      rw [he] at hx
      split at h
      · rename_i cs hob
        cases hx with
        | hp _ _ _ h1 ho hv =>
        have hv' := hv _ hob
        exact does_pure hH (s := pure (a.eval x)) (by simp [execOp, hop, hv']) ⟨_, h, _, rfl, .hp _ _ _ h1 ho hv⟩
      · cases h
    · rename_i o gen i k he
      rw [he] at hx
      split at h
      · rename_i sz n g hob
        replace h := bsel_some h; obtain ⟨hg', h⟩ := h
        cases hx with
        | ep _ _ _ _ _ h1 ho hg hv =>
        have hv' := hv _ _ _ hob (of_decide_eq_true hg')
        exact does_pure hH (s := pure (a.eval x)) (by simp [execOp, hop, hv']) ⟨_, h, _, rfl, .ep _ _ _ _ _ h1 ho hg hv⟩
      · cases h
    · rename_i cs he
      rw [he] at hx
      have hx' := hx
      generalize hq : a.eval x = q at hx'
      cases hx' with
      | va _ ad hZ V hV hr =>
      rw [hq] at hx
      exact does_pure hH (s := pure (.pointer (some ad))) (by simp [execOp, hop, hq]) ⟨_, h, _, rfl, hx⟩
    · rename_i f cap he
      rw [he] at hx
      have hx' := hx
      generalize hq : a.eval x = q at hx'
      cases hx' with
      | fn _ _ vs hl hr =>
      rw [hq] at hx
      exact does_pure hH (s := pure (.func (.func f) #[] vs.toArray)) (by simp [execOp, hop, hq]) ⟨_, h, _, rfl, hx⟩
    · cases h
  · rename_i op t x y hn hop
    exact does_pure hH (s := do eqGuard op t x y (a.eval x) (a.eval y); binOp op t (a.eval x) (a.eval y)) (by simp [execOp, hop]) (bin_sound hH (ev_rep hA x) (ev_rep hA y) h)
  · rename_i op t x hop
    exact does_pure hH (s := Op.unary op (a.eval x)) (by simp [execOp, hop]) (un_sound (ev_rep hA x) h)
  · rename_i src dst x hop
    exact does_new (s := convert src dst (a.eval x)) (by simp [execOp, hop]) (convert_sound hty hH hs (ev_rep hA x) h)
  · rename_i f first captured hop
    replace h := bsel_some h; obtain ⟨h1, h⟩ := h
    have hf : first = #[] := by simpa using h1
    subst hf
    refine does_pure hH (s := Instr.makeFunc (.func f) (#[].map a.eval) (captured.map a.eval)) (by simp [execOp, hop]) ⟨_, h, _, rfl, ?_⟩
    have := evs_rep hA captured.toList
    have e : captured.map a.eval = (captured.toList.map a.eval).toArray := by apply Array.ext'; simp
    rw [e]
    simpa using RepU.fn f _ _ this.1 this.2
  · rename_i t l c hop
    exact does_new (s := Instr.makeSlice t (a.eval l) (a.eval c)) (by simp [execOp, hop]) (make_sound hty hH hs (ev_rep hA l) (ev_rep hA c) h)
  · rename_i t x lo hi mx hop
    exact does_pure hH (s := Instr.sliceAt t (a.eval x) (lo.map a.eval) (hi.map a.eval) (mx.map a.eval)) (by simp [execOp, hop]) (slice_sound hty hH (ev_rep hA x) (opt_rep hA lo) (opt_rep hA hi) (opt_rep hA mx) h)
  · rename_i s x f hop
    exact does_pure hH (s := Instr.fieldAt s (a.eval x) f) (by simp [execOp, hop]) (fieldAddr_sound hty (ev_rep hA x) h)
  · rename_i t x f hop
    exact does_pure hH (s := Instr.field t (a.eval x) f) (by simp [execOp, hop]) (field_sound hty (ev_rep hA x) h)
  · rename_i t x ix hop
    exact does_pure hH (s := Instr.indexAt t (a.eval x) (a.eval ix)) (by simp [execOp, hop]) (indexAddr_sound hty hH (ev_rep hA x) (ev_rep hA ix) h)
  · rename_i t x ix hop
    exact does_pure hH (s := Instr.index t (a.eval x) (a.eval ix)) (by simp [execOp, hop]) (index_sound hty (ev_rep hA x) (ev_rep hA ix) h)
  · rename_i t i hop
    have hx := ev_rep hA t
    split at h
    · rename_i us he
      rw [he] at hx
      split at h
      · rename_i u hu
        generalize hq : a.eval t = q at hx
        cases hx with
        | tup _ vs hl hr =>
        have hi := (List.getElem?_eq_some_iff.1 hu).1
        have hv : vs[i]? = some (vs[i]'(by omega)) := List.getElem?_eq_getElem _
        exact does_pure hH (s := Instr.extract (a.eval t) i) (by simp [execOp, hop]) ⟨_, h, _, by rw [hq]; simp [Instr.extract, hv], hr _ _ _ hu hv⟩
      · cases h
    · rename_i xs he
      rw [he] at hx
      split at h
      · rename_i x hu
        generalize hq : a.eval t = q at hx
        cases hx with
        | f _ _ hx =>
        cases hx with
        | tup _ vs hl hr =>
        have hi := (List.getElem?_eq_some_iff.1 hu).1
        have hv : vs[i]? = some (vs[i]'(by omega)) := List.getElem?_eq_getElem _
        exact does_pure hH (s := Instr.extract (a.eval t) i) (by simp [execOp, hop]) ⟨_, h, _, by rw [hq]; simp [Instr.extract, hv], .f _ _ (hr _ _ _ hu hv)⟩
      · cases h
    · cases h
  · rename_i c hop
    have hargs := evs_rep hA c.args.toList
    have hmap : (c.args.map a.eval).toList = c.args.toList.map a.eval := by simp
    split at h
    · -- len
      rename_i x t hcal hx ht
      rw [hx] at hargs
      obtain ⟨hl, hr⟩ := hargs
      obtain ⟨v, hv⟩ : ∃ v, c.args.toList.map a.eval = [v] := by
        match hq : c.args.toList.map a.eval, hl with
        | [v], _ => exact ⟨v, rfl⟩
      have hrx := hr 0 x v rfl (by rw [hv]; rfl)
      have ha : c.args.map a.eval = #[v] := by apply Array.ext'; simpa using hv
      have hat : c.argTypes = #[t] := by apply Array.ext'; simpa using ht
      have hrun : execOp a.eval o = (do pure (.value (← Builtin.len_ #[t] o.type #[v]))) := by
        simp [execOp, hop, resolve, hcal, ha, hat, invoke, builtin]
      split at h
      · rename_i ti hti
        obtain ⟨d, hd, hu⟩ := under_of (hty.2 _ _ hti)
        split at h
        · rename_i s e1
          rw [e1] at hu
          obtain rfl := ukOf_str hu.symm
          obtain rfl := str_rep hrx
          exact does_pure hH hrun ⟨_, h, _, by simp [Builtin.len_, run_under hd, Result.andThen, goInt], rep_int _ _⟩
        · rename_i e n g e1
          rw [e1] at hu
          obtain rfl := ukOf_slice hu.symm
          cases hrx with
          | f _ _ hrx => cases hrx with
          | sl _ _ A c sz a V hc hs hk hA hV hr =>
          exact does_pure hH hrun ⟨_, h, _, by simp [Builtin.len_, run_under hd, Result.andThen, goInt], rep_int _ _⟩
        · rename_i e oo gen off len e1
          rw [e1] at hu
          obtain rfl := ukOf_slice hu.symm
          split at h
          · rename_i sz n g hob
            replace h := bsel_some h; obtain ⟨hg', h⟩ := h
            cases hrx with
            | hs _ _ _ _ _ hone ho hg hv =>
            obtain ⟨hle, A, c, rfl, hc, hA', hcap⟩ := hv _ _ _ hob (of_decide_eq_true hg')
            exact does_pure hH hrun ⟨_, h, _, by simp [Builtin.len_, run_under hd, Result.andThen, goInt], rep_int _ _⟩
          · cases h
        · rename_i e e1
          rw [e1] at hu
          obtain rfl := ukOf_slice hu.symm
          cases hrx with
          | nils A =>
          exact does_pure hH hrun ⟨_, h, _, by simp [Builtin.len_, run_under hd, Result.andThen, goInt], rep_int _ _⟩
        · cases h
      · cases h
    · -- append
      rename_i s x ts tx hcal hx ht
      rw [hx] at hargs
      obtain ⟨hl, hr⟩ := hargs
      obtain ⟨v1, v2, hv⟩ : ∃ v1 v2, c.args.toList.map a.eval = [v1, v2] := by
        match hq : c.args.toList.map a.eval, hl with
        | [v1, v2], _ => exact ⟨v1, v2, rfl⟩
      have hr1 := hr 0 s v1 rfl (by rw [hv]; rfl)
      have hr2 := hr 1 x v2 rfl (by rw [hv]; rfl)
      have ha : c.args.map a.eval = #[v1, v2] := by apply Array.ext'; simpa using hv
      have hat : c.argTypes = #[ts, tx] := by apply Array.ext'; simpa using ht
      have hrun : execOp a.eval o = (do pure (.value (← Builtin.append_ #[ts, tx] o.type #[v1, v2]))) := by
        simp [execOp, hop, resolve, hcal, ha, hat, invoke, builtin]
      exact does_new hrun (append_sound hty hH hs hr1 hr2 h)
    · -- max
      rename_i k b us hcal hx
      rw [hx] at hargs
      obtain ⟨hl, hr⟩ := hargs
      obtain ⟨v, vs, hv⟩ : ∃ v vs, c.args.toList.map a.eval = v :: vs := by
        match hq : c.args.toList.map a.eval, hl with
        | v :: vs, _ => exact ⟨v, vs, rfl⟩
      have hr1 := hr 0 _ v rfl (by rw [hv]; rfl)
      obtain rfl := int_rep hr1
      have ha : (c.args.map a.eval).toList = .int k b :: vs := by simpa using hv
      have hrun : execOp a.eval o = (do pure (.value (← Builtin.max_ c.argTypes o.type (c.args.map a.eval)))) := by
        simp [execOp, hop, resolve, hcal, invoke, builtin]
      split at h
      · rename_i q hq
        have := minMax_sound (P := P) (w := w) (Z := Z) (m := m) (H := st.heap) true us vs b k q (by rw [hv] at hl; simpa using hl) (fun j u v hu hv' => hr (j + 1) u v (by simpa using hu) (by rw [hv]; simpa using hv')) hq
        exact does_pure hH hrun ⟨_, h, _, by unfold Builtin.max_; rw [ha]; exact this, rep_int _ _⟩
      · cases h
    · -- min
      rename_i k b us hcal hx
      rw [hx] at hargs
      obtain ⟨hl, hr⟩ := hargs
      obtain ⟨v, vs, hv⟩ : ∃ v vs, c.args.toList.map a.eval = v :: vs := by
        match hq : c.args.toList.map a.eval, hl with
        | v :: vs, _ => exact ⟨v, vs, rfl⟩
      have hr1 := hr 0 _ v rfl (by rw [hv]; rfl)
      obtain rfl := int_rep hr1
      have ha : (c.args.map a.eval).toList = .int k b :: vs := by simpa using hv
      have hrun : execOp a.eval o = (do pure (.value (← Builtin.min_ c.argTypes o.type (c.args.map a.eval)))) := by
        simp [execOp, hop, resolve, hcal, invoke, builtin]
      split at h
      · rename_i q hq
        have := minMax_sound (P := P) (w := w) (Z := Z) (m := m) (H := st.heap) false us vs b k q (by rw [hv] at hl; simpa using hl) (fun j u v hu hv' => hr (j + 1) u v (by simpa using hu) (by rw [hv]; simpa using hv')) hq
        exact does_pure hH hrun ⟨_, h, _, by unfold Builtin.min_; rw [ha]; exact this, rep_int _ _⟩
      · cases h
    · -- a function
      rename_i f hcal
      split at h
      · rename_i g cap hf
        have hrf := ev_rep hA f
        rw [hf] at hrf
        generalize hq : a.eval f = q at hrf
        cases hrf with
        | fn _ _ vs hl hr =>
        have hu : RepUs w Z m st.heap (c.args.toList.map st.ev ++ cap) (c.args.map a.eval ++ vs.toArray).toList := by
          refine ⟨by simp [hl], fun j u v hu hv => ?_⟩
          simp only [Array.toList_append, Array.toList_map] at hv
          rw [List.getElem?_append] at hu hv
          simp only [List.length_map] at hu hv
          split at hu
          · rename_i hj
            rw [if_pos hj] at hv
            exact hargs.2 j u v hu hv
          · rename_i hj
            rw [if_neg hj] at hv
            exact hr _ u v hu hv
        obtain ⟨u, st', hk, ht, hd⟩ := call_sound hs hC hH hu h
        refine ⟨u, st', hk, ht, .inr (.inr ⟨_, _, ?_, hd⟩)⟩
        simp [execOp, hop, resolve, hcal, hq, Deferred.ofValue, invoke, Result.andThen]
      · cases h
    · cases h
  · cases h
end
end Go.Proofs.Ytjbilidfnfnpfaa.R
