/-
  The own reflective walk, part 19: how a stretch's tree is read; states that tell less; the law's call.
-/
import Derived.Test.YtjbilidfnfnpfaaR17
import Derived.KernelRfl
import Derived.Lib.Bytealg
namespace Go.Proofs.Ytjbilidfnfnpfaa.R
open Go Go.RowKit
set_option linter.unusedVariables false
set_option linter.unusedSimpArgs false

section
variable {P : Program} {w : World} {Z : Nat → Prop} {m : Nat → Nat} {H H' : List HO} {hn : Nat} {rs : List ResultVar} {x : F}

theorem good_sel {R : Type} {c : Bool} {X Y : Option End} {A B : Option R} {r : R} (h : bsel c A B = some r) (h1 : c = true → A = some r → Good P hn rs x X) (h2 : c = false → B = some r → Good P hn rs x Y) : Good P hn rs x (bsel c X Y) := by
  cases c with
  | true => exact h1 rfl h
  | false => exact h2 rfl h
theorem good_ret {y : F} (h : y = x) : Good P hn rs x (some (.ret y)) := ⟨_, rfl, h⟩
theorem good_cut {items : List Item} {st : St} (h : EndsN P hn rs items st x) : Good P hn rs x (some (.cut items st)) := ⟨_, rfl, h⟩

/-- Objects that tell no more. -/
def ObLe (ob ob' : HO) : Prop := ob' = ob ∨ ∃ sz n g g', ob = .arr sz n g ∧ ob' = .arr sz n g' ∧ ∀ j, j < n → g j = g' j
def HLe (H H' : List HO) : Prop := H.length = H'.length ∧ ∀ (o : Nat) (ob ob' : HO), H[o]? = some ob → H'[o]? = some ob' → ObLe ob ob'

theorem HLe.get (h : HLe H H') {o : Nat} {ob' : HO} (ho : H'[o]? = some ob') : ∃ ob, H[o]? = some ob ∧ ObLe ob ob' := by
  have hlt := (List.getElem?_eq_some_iff.1 ho).1
  have : o < H.length := by rw [h.1]; exact hlt
  exact ⟨_, List.getElem?_eq_getElem this, h.2 _ _ _ (List.getElem?_eq_getElem this) ho⟩

theorem RepU.hle (h : HLe H H') {u : U} {v : Value} (hu : RepU w Z m H u v) : RepU w Z m H' u v := by
  have hk : ∀ {o : Nat}, known H o → known H' o := by
    rintro o ⟨ob, ho, hn⟩
    have hlt := (List.getElem?_eq_some_iff.1 ho).1
    have hlt' : o < H'.length := by rw [← h.1]; exact hlt
    have ho' : H'[o]? = some H'[o] := List.getElem?_eq_getElem hlt'
    refine ⟨_, ho', ?_⟩
    rcases h.2 o _ _ ho ho' with e | ⟨sz, n, g, g', e1, e2, _⟩
    · rw [e]; exact hn
    · rw [e2]; simp
  have harr : ∀ {o sz n : Nat} {g' : Nat → F}, H'[o]? = some (.arr sz n g') → ∃ g, H[o]? = some (.arr sz n g) := by
    intro o sz n g' ho
    obtain ⟨ob, hob, e | ⟨sz', n', g1, g2, e1, e2, _⟩⟩ := h.get ho
    · exact ⟨_, by rw [hob, ← e]⟩
    · cases e2; exact ⟨_, by rw [hob, e1]⟩
  have hbox : ∀ {o : Nat} {cs : List U}, H'[o]? = some (.box cs) → H[o]? = some (.box cs) := by
    intro o cs ho
    obtain ⟨ob, hob, e | ⟨sz', n', g1, g2, e1, e2, _⟩⟩ := h.get ho
    · rw [hob, ← e]
    · cases e2
  induction hu with
  | f x v h => exact .f x v h
  | agg cs vs hl hr ih => exact .agg cs vs hl ih
  | tup cs vs hl hr ih => exact .tup cs vs hl ih
  | hs o gen off len v h1 ho hg hv =>
    exact .hs o gen off len v h1 (hk ho) (fun sz n g e => by obtain ⟨g0, e0⟩ := harr e; exact hg _ _ _ e0) (fun sz n g e eg => by obtain ⟨g0, e0⟩ := harr e; exact hv _ _ _ e0 eg)
  | hp o off v h1 ho hv => exact .hp o off v h1 (hk ho) (fun cs e => hv _ (hbox e))
  | ep o gen i off v h1 ho hg hv =>
    exact .ep o gen i off v h1 (hk ho) (fun sz n g e => by obtain ⟨g0, e0⟩ := harr e; exact hg _ _ _ e0) (fun sz n g e eg => by obtain ⟨g0, e0⟩ := harr e; exact hv _ _ _ e0 eg)
  | va cs a hZ V hV hr => exact .va cs a hZ V hV hr
  | nilp => exact .nilp
  | nils A => exact .nils A
  | fn f us vs hl hr ih => exact .fn f us vs hl ih
  | nilfn => exact .nilfn
  | undef => exact .undef
  | bad v => exact .bad v

/-- Values that tell no more. -/
def FLe (x y : F) : Prop := ∀ (w : World) (Z : Nat → Prop) (v : Value), RepF w Z x v → RepF w Z y v
theorem FLe.refl (x : F) : FLe x x := fun _ _ _ h => h
theorem FLe.sl {n : Nat} {g g' : Nat → F} (h : ∀ j, j < n → g j = g' j) : FLe (.sl n g) (.sl n g') := by
  intro w Z v hv
  cases hv with
  | sl _ _ A c sz a V hc hs hk hA hV hr =>
    exact .sl n g' A c sz a V hc (fun i hi => by rw [← h i hi]; exact hs i hi) (fun i j u hi hu => hk i j u hi (by rw [h i hi]; exact hu)) hA (fun i j u hi hu => hV i j u hi (by rw [h i hi]; exact hu))
      (fun i j u hi hu => hr i j u hi (by rw [h i hi]; exact hu))
def ULe (u u' : U) : Prop := u' = .bad ∨ ∀ (w : World) (Z : Nat → Prop) (m : Nat → Nat) (H : List HO) (v : Value), RepU w Z m H u v → RepU w Z m H u' v
theorem ULe.refl (u : U) : ULe u u := .inr fun _ _ _ _ _ h => h
theorem ULe.f {x y : F} (h : FLe x y) : ULe (.f x) (.f y) := .inr fun w Z m H v hv => by cases hv with | f _ _ hv => exact .f _ _ (h _ _ _ hv)
def UsLe : List U → List U → Prop
  | [], [] => True
  | u :: us, u' :: us' => ULe u u' ∧ UsLe us us'
  | _, _ => False
theorem UsLe.refl : ∀ us : List U, UsLe us us
  | [] => trivial
  | u :: us => ⟨.refl u, .refl us⟩
theorem UsLe.get : ∀ {us us' : List U}, UsLe us us' → us.length = us'.length ∧ ∀ (i : Nat) (u' : U), us'[i]? = some u' → ∃ u, us[i]? = some u ∧ ULe u u'
  | [], [], _ => ⟨rfl, fun i u' h => by simp at h⟩
  | u :: us, u1 :: us', h => by
    obtain ⟨h1, h2⟩ := UsLe.get h.2
    refine ⟨by simp [h1], fun i u' hi => ?_⟩
    cases i with
    | zero => simp at hi; subst hi; exact ⟨u, rfl, h.1⟩
    | succ i => simp at hi; obtain ⟨u2, h3, h4⟩ := h2 i u' hi; exact ⟨u2, by simpa using h3, h4⟩
  | [], _ :: _, h => h.elim
  | _ :: _, [], h => h.elim

theorem Ends.weak {items : List Item} {st st' : St} (ht : UsLe st.tmps st'.tmps) (hh : HLe st.heap st'.heap) (h : EndsN P hn rs items st' x) : EndsN P hn rs items st x := by
  intro w0 Z0 m0 H0 ds a w Z m hhn hA hd hE b cs
  have hlive : ∀ o, liveAt st'.heap o → liveAt st.heap o := by
    rintro o ⟨ob', ho', hl⟩
    obtain ⟨ob, hob, e | ⟨sz, n, g, g', e1, e2, _⟩⟩ := hh.get ho'
    · exact ⟨ob, hob, by rw [← e]; exact hl⟩
    · exact ⟨ob, hob, by rw [e1]; rfl⟩
  obtain ⟨hl, hg⟩ := ht.get
  refine h w0 Z0 m0 H0 ds a w Z m hhn ⟨by rw [← hl]; exact hA.len, fun i u v hu hv => ?_, ?_⟩ hd ?_ b cs
  · obtain ⟨u0, h0, e | hle⟩ := hg i u hu
    · rw [e]; exact .bad v
    · exact hle _ _ _ _ _ ((hA.rep i u0 v h0 hv).hle hh)
  · refine ⟨hA.hok.zlt, fun o ho => hA.hok.apart o (hlive o ho), fun o o' h h' => hA.hok.inj o o' (hlive o h) (hlive o' h'), fun o ob' ho' => ?_⟩
    obtain ⟨ob, hob, e | ⟨sz, n, g, g', rfl, rfl, hgg⟩⟩ := hh.get ho'
    · subst e
      have := hA.hok.ob o _ hob
      cases ob' with
      | dead => trivial
      | free => trivial
      | arr sz n g => exact this
      | box cs =>
        obtain ⟨c, el, fr, h1, h2, h3, h4⟩ := this
        exact ⟨c, el, fr, h1, h2, h3, fun j u hu => by obtain ⟨v, hv, hr⟩ := h4 j u hu; exact ⟨v, hv, hr.hle hh⟩⟩
    · obtain ⟨h0, c, el, fr, h1, h2, h3, h4, h5⟩ := hA.hok.ob o _ hob
      exact ⟨h0, c, el, fr, h1, h2, h3, fun i hi => by rw [← hgg i hi]; exact h4 i hi, fun i j u hi hu => h5 i j u hi (by rw [hgg i hi]; exact hu)⟩
  · refine ⟨hE.os, hE.tape, hE.output, hE.size, hE.sub, hE.back, hE.kept, hE.rest, by rw [← hh.1]; exact hE.len, fun o ob ob' h h' => ?_, fun o ho => hE.new o (hlive o ho)⟩
    obtain ⟨ob1, h1, e | ⟨sz, n, g, g', rfl, rfl, _⟩⟩ := hh.get h'
    · subst e; exact hE.evol o _ _ h h1
    · have := hE.evol o _ _ h h1
      cases ob <;> simp_all [Evol]

theorem Ends.same {items : List Item} {st st' : St} (e : st = st') (h : EndsN P hn rs items st' x) : EndsN P hn rs items st x := e ▸ h

theorem PureOK.sub {f : FuncId} {pre pre' : List F → Bool} {res res' : List F → F} (h : PureOK P f pre res) (hp : ∀ xs, pre' xs = true → pre xs = true ∧ res xs = res' xs) : PureOK P f pre' res' := by
  intro xs hx w Z args hZ hL
  obtain ⟨h1, h2⟩ := hp xs hx
  rw [← h2]
  exact h xs h1 w Z args hZ hL

theorem PureOK.le {f : FuncId} {pre pre' : List F → Bool} {res res' : List F → F} (h : PureOK P f pre res) (hp : ∀ xs, pre' xs = true → pre xs = true ∧ FLe (res xs) (res' xs)) : PureOK P f pre' res' := by
  intro xs hx w Z args hZ hL
  obtain ⟨h1, h2⟩ := hp xs hx
  exact (h xs h1 w Z args hZ hL).mono fun v w' ⟨hg, Z', hz, hr⟩ => ⟨hg, Z', hz, h2 _ _ _ hr⟩

/-- A function whose answer tells at least what is said of it. -/
theorem fn_pure_le {f : FuncId} {fn : Func} {c : Code} (hf : P.funcs[f]? = some fn) (hb : fn.body = some c) (hname : oddFn fn = false) {pre : List F → Bool} {res : List F → F}
    (h : ∀ xs, pre xs = true → ∃ y, Ends P fn.results.toList [.code c] (start fn.ntmps (xs.map .f)) y ∧ FLe y (res xs)) : PureOK P f pre res := by
  have h1 : ∀ xs, ∃ y, pre xs = true → Ends P fn.results.toList [.code c] (start fn.ntmps (xs.map .f)) y ∧ FLe y (res xs) := fun xs => by
    by_cases hp : pre xs = true
    · obtain ⟨y, hy⟩ := h xs hp; exact ⟨y, fun _ => hy⟩
    · exact ⟨.dflt, fun hp' => absurd hp' hp⟩
  exact (fn_pure hf hb hname (pre := pre) (res := fun xs => Classical.choose (h1 xs)) fun xs hp => (Classical.choose_spec (h1 xs) hp).1).le fun xs hp => ⟨hp, (Classical.choose_spec (h1 xs) hp).2⟩

theorem below_of_grows {w w' : World} (h : Grows w w') : Below w.heap.size w w' := ⟨h.os, h.tape, h.output, h.size, h.old⟩

/-- A law's call, as the row asks for it. -/
theorem law_calls {f : FuncId} {fn : Func} {c : Code} (hf : P.funcs[f]? = some fn) (hb : fn.body = some c) (hname : (fn.name == "runtime.NumGoroutine") = false) {pre : List F → Bool} {res : List F → F} (h : PureOK P f pre res)
    {xs : List F} {args : Array Value} {b : Bool} (hp : pre xs = true) (hr : res xs = .bool b) (w : World) (Z : Nat → Prop) (hZ : ∀ b, Z b → b < w.heap.size) (hL : RepL w Z xs args.toList) :
    Calls P f args w fun e w' => e = .returned (.bool b) ∧ Below w.heap.size w w' := by
  rcases h xs hp w Z args hZ hL with ⟨_, h2⟩ | ⟨v, w', h1, _⟩
  · refine h2.mono fun e w' he => ?_
    cases e with
    | returned v =>
      obtain ⟨g, Z', _, hr'⟩ := he
      rw [hr] at hr'
      cases hr'
      exact ⟨rfl, below_of_grows g⟩
    | _ => exact he.elim
  · have hp' : (program).run P w = .ok P w := rfl
    unfold callFunc at h1
    simp only [Sem.run_bind, hp', Result.andThen, hf, hname, hb, Option.isNone_some, Bool.false_eq_true, if_false, Sem.run_pure] at h1
    cases h1
end
end Go.Proofs.Ytjbilidfnfnpfaa.R
