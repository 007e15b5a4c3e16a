/-
  The own reflective walk, part 17: functions of data.
-/
import Derived.Test.YtjbilidfnfnpfaaR16
namespace Go.Proofs.Ytjbilidfnfnpfaa.R
open Go
set_option linter.unusedVariables false
set_option linter.unusedSimpArgs false

def startN (ntmps : Nat) (us : List U) (H : List HO) : St := ⟨us ++ List.replicate (ntmps - us.length) .undef, H⟩
def start (ntmps : Nat) (us : List U) : St := ⟨us ++ List.replicate (ntmps - us.length) .undef, []⟩

section
variable {P : Program} {w : World} {Z : Nat → Prop} {m : Nat → Nat} {H : List HO} {ty : TypeId → Option TI} {C : Env} {ρ : Type} {r : ρ} {st : St} {a : Act}

theorem resU_run (hA : AOK w Z m st a) : ∀ (rs : List ResultVar) (us : List U), resU P st rs = some us →
    ∃ vs, (rs.mapM (m := Sem) fun | .tmp t => pure (a.tmps.getD t undef) | .cell x t => do loadVar t (← asAddr (a.tmps.getD x undef))).run P w = .ok vs w ∧ RepUs w Z m st.heap us vs
  | [], us, h => by
    simp only [resU, Option.some.injEq] at h
    subst h
    exact ⟨[], by simp, rfl, fun j u v hu => by simp at hu⟩
  | .cell x t :: rs, us, h => by
    simp only [resU] at h
    split at h
    · rename_i o ti us' hx hti h'
      split at h
      case isFalse => cases h
      have hr := ev_rep hA (.tmp x)
      simp only [St.ev, Act.eval] at hr
      rw [hx] at hr
      obtain ⟨u, hk, v, hv, hu⟩ := load_sound (P := P) hti hA.hok hr h
      cases hk
      obtain ⟨vs, h1, h2⟩ := resU_run hA rs us' h'
      obtain ⟨ad, had⟩ : ∃ ad, a.tmps.getD x undef = .pointer (some ad) := by
        simp only [evLoad] at h
        split at h
        · rename_i cs ho
          cases hr with | hp _ _ _ _ _ hvv => exact ⟨_, hvv _ ho⟩
        · cases h
      refine ⟨v :: vs, ?_, by simp [h2.1], fun j u' v' hu' hv' => ?_⟩
      · rw [List.mapM_cons]
        rw [had] at hv
        simp only []
        rw [had]
        have hv : (loadVar t ad).run P w = .ok v w := by simpa [Instr.loadAt, Instr.sureAddr, pure_bind] using hv
        have ha : (asAddr (.pointer (some ad))).run P w = .ok ad w := rfl
        simp only [Sem.run_bind, ha, Sem.run_pure, Result.andThen, h1, hv]
      · cases j with
        | zero => simp at hu' hv'; subst hu'; subst hv'; exact hu
        | succ j => simp at hu' hv'; exact h2.2 j u' v' hu' hv'
    · cases h
  | .tmp t :: rs, us, h => by
    simp only [resU] at h
    split at h
    · rename_i us' h'
      cases h
      obtain ⟨vs, h1, h2⟩ := resU_run hA rs us' h'
      refine ⟨a.tmps.getD t undef :: vs, ?_, by simp [h2.1], fun j u v hu hv => ?_⟩
      · rw [List.mapM_cons]
        simp only [Sem.run_bind, Sem.run_pure, Result.andThen, h1]
      · cases j with
        | zero =>
          simp only [List.getElem?_cons_zero, Option.some.injEq] at hu hv
          subst hu; subst hv
          exact ev_rep hA (.tmp t)
        | succ j => simp only [List.getElem?_cons_succ] at hu hv; exact h2.2 j u v hu hv
    · cases h

/-- From these items and this state on the function hands x back (and the boxes that it was lent). -/
def EndsN (P : Program) (hn : Nat) (rs : List ResultVar) (items : List Item) (st : St) (x : F) : Prop :=
  ∀ (w0 : World) (Z0 : Nat → Prop) (m0 : Nat → Nat) (H0 : List HO) (ds : List Deferred) (a : Act) (w : World) (Z : Nat → Prop) (m : Nat → Nat), hn = H0.length → AOK w Z m st a → a.defers = ds → Ext w0 Z0 m0 H0 w Z m st.heap →
    ∀ (b : Frame) (cs : List Frame), Reach P hn rs w0 Z0 m0 H0 ds b cs (lone (b.at a items) cs w) (.ret x)
abbrev Ends (P : Program) (rs : List ResultVar) (items : List Item) (st : St) (x : F) : Prop := EndsN P 0 rs items st x

/-- Where a stretch has come to, the function hands x back. -/
def EndsE (P : Program) (hn : Nat) (rs : List ResultVar) (x : F) : End → Prop
  | .ret y => y = x
  | .cut items st => EndsN P hn rs items st x

def Good (P : Program) (hn : Nat) (rs : List ResultVar) (x : F) (o : Option End) : Prop := ∃ e, o = some e ∧ EndsE P hn rs x e

theorem Ends.of_run (hty : TyOK P ty) (hC : EnvOK P C) {T : Tab} {hn : Nat} {rs : List ResultVar} {n : Nat} {items : List Item} {x : F} (h : Good P hn rs x (run P ty C T hn rs some n items st)) : EndsN P hn rs items st x := by
  obtain ⟨e, he, hs⟩ := h
  intro w0 Z0 m0 H0 ds a w Z m hhn hA hd hE b cs
  obtain ⟨e', h1, h2⟩ := run_sound hty hC hhn n items st a w Z m hA hd hE he b cs
  cases h1
  cases e with
  | ret y => cases hs; exact h2
  | cut items' st' =>
    obtain ⟨a', w', ⟨hd', Z', m', hA', hE'⟩, hst⟩ := h2
    exact (hs w0 Z0 m0 H0 ds a' w' Z' m' hhn hA' hd' hE' b cs).head hst

theorem Ends.of_cut (hty : TyOK P ty) (hC : EnvOK P C) {T : Tab} {hn : Nat} {rs : List ResultVar} {n : Nat} {items : List Item} {x : F} (h : Good P hn rs x (runCut P ty C T hn rs some n items st)) : EndsN P hn rs items st x := by
  obtain ⟨e, he, hs⟩ := h
  intro w0 Z0 m0 H0 ds a w Z m hhn hA hd hE b cs
  obtain ⟨e', h1, h2⟩ := runCut_sound hty hC hhn n items st a w Z m hA hd hE he b cs
  cases h1
  cases e with
  | ret y => cases hs; exact h2
  | cut items' st' =>
    obtain ⟨a', w', ⟨hd', Z', m', hA', hE'⟩, hst⟩ := h2
    exact (hs w0 Z0 m0 H0 ds a' w' Z' m' hhn hA' hd' hE' b cs).head hst

theorem fn_pure {f : FuncId} {fn : Func} {c : Code} (hf : P.funcs[f]? = some fn) (hb : fn.body = some c) (hodd : oddFn fn = false) {pre : List F → Bool} {res : List F → F}
    (h : ∀ xs, pre xs = true → Ends P fn.results.toList [.code c] (start fn.ntmps (xs.map .f)) (res xs)) : PureOK P f pre res := by
  have hname := oddFn_name hodd
  have hmark := oddFn_mark hodd
  intro xs hp w Z args hZ hL
  refine .inl ⟨by
    have hp : (program).run P w = .ok P w := rfl
    unfold callFunc
    simp only [Sem.run_bind, hp, Result.andThen, hf, hname, hb, Option.isNone_some, Bool.false_eq_true, if_false, Sem.run_pure], fun cs => ?_⟩
  have hlen : xs.length = args.size := by simpa using hL.1
  have hA : AOK w Z (fun _ => 0) (start fn.ntmps (xs.map .f)) { tmps := args ++ Array.replicate (fn.ntmps - args.size) undef, defers := [] } := by
    refine ⟨by simp [start, hlen], fun i u v hu hv => ?_, ?_⟩
    · simp only [start, List.length_map] at hu
      rw [List.getElem?_append] at hu
      rw [Array.getElem?_append] at hv
      simp only [List.length_map] at hu
      split at hu
      · rename_i hi
        rw [if_pos (by omega)] at hv
        rw [List.getElem?_map] at hu
        cases hx : xs[i]? with
        | none => rw [hx] at hu; cases hu
        | some x =>
          rw [hx] at hu; cases hu
          exact .f _ _ (hL.2 i x v hx (by simpa using hv))
      · rename_i hi
        rw [if_neg (by omega)] at hv
        rw [List.getElem?_replicate] at hu
        rw [Array.getElem?_replicate] at hv
        split at hu
        · split at hv
          · cases hu; cases hv; exact .undef
          · cases hv
        · cases hu
    · exact ⟨hZ, fun o ⟨ob, ho, _⟩ => by simp [start] at ho, fun o o' ⟨ob, ho, _⟩ => by simp [start] at ho, fun o ob ho => by simp [start] at ho⟩
  let b : Frame := { (default : Frame) with fn := f, kind := .normal }
  have henter : Frame.enter P f args .normal = b.at { tmps := args ++ Array.replicate (fn.ntmps - args.size) undef, defers := [] } [.code c] := by
    simp [Frame.enter, Frame.at, hf, hb, b]
  obtain ⟨st', a', w', todo, hk, ⟨hd, Z', m', hA', hE'⟩, hs⟩ := h xs hp w Z (fun _ => 0) [] [] _ w Z (fun _ => 0) rfl hA rfl (Ext.refl _ _ _ _) b cs
  unfold retF at hk
  rw [hmark] at hk
  simp only [Bool.false_and, Bool.false_eq_true, if_false] at hk
  split at hk
  · rename_i us hus
    split at hk
    · rename_i ys hys
      obtain ⟨vs, hvs, hR⟩ := resU_run (P := P) hA' _ _ hus
      have hlive0 : ∀ o, ¬ liveAt ([] : List HO) o := fun o ⟨ob, ho, _⟩ => by simp at ho
      let Z2 : Nat → Prop := fun b => Z' b ∨ ∃ o, liveAt st'.heap o ∧ m' o = b
      have hL2 : RepL w' Z2 ys vs := by
        obtain ⟨hl, hg⟩ := toFs_get us ys hys
        refine ⟨by rw [← hl]; exact hR.1, fun j x v hx' hv => ?_⟩
        have hj := (List.getElem?_eq_some_iff.1 hx').1
        have hu' : us[j]? = some us[j] := List.getElem?_eq_getElem (by omega)
        refine (toF_rep hA'.hok (fun _ _ h => h) (hR.2 j _ v hu' hv) (hg j _ x hu' hx')).mono ?_ (fun _ _ => rfl)
        rintro b (hb | ⟨o, ho, hlv, rfl⟩)
        · exact .inl hb
        · exact .inr ⟨o, hlv, rfl⟩
      have hres : (results fn a'.tmps).run P w' = .ok (if h : vs.toArray.size = 1 then vs.toArray[0] else .tuple vs.toArray) w' := by
        unfold results
        rw [← Array.toArray_toList (xs := fn.results), List.mapM_toArray]
        simp only [Sem.run_bind, Sem.run_map]
        refine (congrArg (fun q => Result.andThen (Result.andThen q fun x w => Result.ok x.toArray w) fun vs w => (pure (if h : vs.size = 1 then vs[0] else .tuple vs) : Sem Value).run P w) hvs).trans ?_
        simp [Result.andThen]
      refine ⟨.returned _, w', { b.at a' todo with mode := .returning }, ?_, ?_, rfl, rfl, hd, rfl, fn, hf, hres⟩
      · refine ⟨⟨hE'.os, hE'.tape, hE'.output, hE'.size, fun b hb => hE'.rest b hb fun o ho => absurd ho (hlive0 o)⟩, Z2, ?_, ?_⟩
        · rintro b (hb | ⟨o, hlv, rfl⟩)
          · have hlt := hA'.hok.zlt b hb
            rcases hE'.back b hb with h | h | ⟨o, ho, _⟩
            · exact .inl h
            · exact .inr ⟨h, hlt⟩
            · exact absurd ho (hlive0 o)
          · rcases hE'.new o hlv with ⟨h, _⟩ | h
            · exact absurd h (hlive0 o)
            · exact .inr ⟨h, hA'.hok.blk_lt hlv⟩
        · have hrs : res xs = tupF ys := (Option.some.inj hk).symm
          rw [hrs]
          match ys, vs, hL2 with
          | [y], [v], hL2 => exact hL2.2 0 y v rfl rfl
          | [], [], hL2 => exact .tup [] [] rfl hL2.2
          | y1 :: y2 :: ys, v1 :: v2 :: vs, hL2 =>
            have : RepF w' Z2 (.tup (y1 :: y2 :: ys)) (.tuple (v1 :: v2 :: vs).toArray) := .tup _ _ hL2.1 hL2.2
            simpa [tupF] using this
          | [_], [], hL2 => have := hL2.1; simp at this
          | [_], _ :: _ :: _, hL2 => have := hL2.1; simp at this
          | [], _ :: _, hL2 => have := hL2.1; simp at this
          | _ :: _ :: _, [], hL2 => have := hL2.1; simp at this
          | _ :: _ :: _, [_], hL2 => have := hL2.1; simp at this
      · rw [henter]; exact hs
    · cases hk
  · cases hk
end
end Go.Proofs.Ytjbilidfnfnpfaa.R
