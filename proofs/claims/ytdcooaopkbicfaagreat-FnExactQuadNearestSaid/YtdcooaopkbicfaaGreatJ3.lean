/-
  The own walk and what it shows, part 3 of 8.
-/
import Derived.KernelRfl
import Derived.Lib.Bytealg
import Derived.ChangeSlices
import Derived.Carry
import Derived.OpenShut
import Derived.WideShapes
import Derived.Test.YtdcooaopkbicfaaGreatProg
import Derived.Test.YtdcooaopkbicfaaGreatJ1
import Derived.Test.YtdcooaopkbicfaaGreatJ2
set_option linter.unusedVariables false
set_option linter.unusedSimpArgs false
set_option maxRecDepth 100000
set_option exponentiation.threshold 30000
namespace Go.Proofs.YtdcooaopkbicfaaGreat.R
open Go Go.RowKit
section
variable {P : Program} {w : World} {Z : Nat → Prop} {m : Nat → Nat} {H H' : List HO} {hn : Nat} {rs : List ResultVar} {x : F}
theorem good_sel {R : Type} {c : Bool} {X Y : Option End} {A B : Option R} {r : R} (h : bsel c A B = some r) (h1 : c = true → A = some r → Good P hn rs x X) (h2 : c = false → B = some r → Good P hn rs x Y) : Good P hn rs x (bsel c X Y) := by
  cases c with
  | true => exact h1 rfl h
  | false => exact h2 rfl h
theorem good_ret {y : F} (h : y = x) : Good P hn rs x (some (.ret y)) := ⟨_, rfl, h⟩
theorem good_cut {items : List Item} {st : St} (h : EndsN P hn rs items st x) : Good P hn rs x (some (.cut items st)) := ⟨_, rfl, h⟩
def ObLe (ob ob' : HO) : Prop := ob' = ob ∨ ∃ sz n g g', ob = .arr sz n g ∧ ob' = .arr sz n g' ∧ ∀ j, j < n → g j = g' j
def HLe (H H' : List HO) : Prop := H.length = H'.length ∧ ∀ (o : Nat) (ob ob' : HO), H[o]? = some ob → H'[o]? = some ob' → ObLe ob ob'
theorem HLe.get (h : HLe H H') {o : Nat} {ob' : HO} (ho : H'[o]? = some ob') : ∃ ob, H[o]? = some ob ∧ ObLe ob ob' := by
  have hlt := (List.getElem?_eq_some_iff.1 ho).1
  have : o < H.length := by rw [h.1]; exact hlt
  exact ⟨_, List.getElem?_eq_getElem this, h.2 _ _ _ (List.getElem?_eq_getElem this) ho⟩
theorem RepU.hle (h : HLe H H') {u : U} {v : Value} (hu : RepU w Z m H u v) : RepU w Z m H' u v := by
  have hk : ∀ {o : Nat}, known H o → known H' o := by
    rintro o ⟨ob, ho, hn⟩
    have hlt := (List.getElem?_eq_some_iff.1 ho).1
    have hlt' : o < H'.length := by rw [← h.1]; exact hlt
    have ho' : H'[o]? = some H'[o] := List.getElem?_eq_getElem hlt'
    refine ⟨_, ho', ?_⟩
    rcases h.2 o _ _ ho ho' with e | ⟨sz, n, g, g', e1, e2, _⟩
    · rw [e]; exact hn
    · rw [e2]; simp
  have harr : ∀ {o sz n : Nat} {g' : Nat → F}, H'[o]? = some (.arr sz n g') → ∃ g, H[o]? = some (.arr sz n g) := by
    intro o sz n g' ho
    obtain ⟨ob, hob, e | ⟨sz', n', g1, g2, e1, e2, _⟩⟩ := h.get ho
    · exact ⟨_, by rw [hob, ← e]⟩
    · cases e2; exact ⟨_, by rw [hob, e1]⟩
  have hbox : ∀ {o : Nat} {cs : List U}, H'[o]? = some (.box cs) → H[o]? = some (.box cs) := by
    intro o cs ho
    obtain ⟨ob, hob, e | ⟨sz', n', g1, g2, e1, e2, _⟩⟩ := h.get ho
    · rw [hob, ← e]
    · cases e2
  induction hu with
  | f x v h => exact .f x v h
  | agg cs vs hl hr ih => exact .agg cs vs hl ih
  | tup cs vs hl hr ih => exact .tup cs vs hl ih
  | hs o gen off len v h1 ho hg hv =>
    exact .hs o gen off len v h1 (hk ho) (fun sz n g e => by obtain ⟨g0, e0⟩ := harr e; exact hg _ _ _ e0) (fun sz n g e eg => by obtain ⟨g0, e0⟩ := harr e; exact hv _ _ _ e0 eg)
  | hp o off v h1 ho hv => exact .hp o off v h1 (hk ho) (fun cs e => hv _ (hbox e))
  | ep o gen i off v h1 ho hg hv =>
    exact .ep o gen i off v h1 (hk ho) (fun sz n g e => by obtain ⟨g0, e0⟩ := harr e; exact hg _ _ _ e0) (fun sz n g e eg => by obtain ⟨g0, e0⟩ := harr e; exact hv _ _ _ e0 eg)
  | va cs a hZ V hV hr => exact .va cs a hZ V hV hr
  | nilp => exact .nilp
  | nils A => exact .nils A
  | fn f us vs hl hr ih => exact .fn f us vs hl ih
  | nilfn => exact .nilfn
  | undef => exact .undef
  | bad v => exact .bad v
def FLe (x y : F) : Prop := ∀ (w : World) (Z : Nat → Prop) (v : Value), RepF w Z x v → RepF w Z y v
theorem FLe.refl (x : F) : FLe x x := fun _ _ _ h => h
theorem FLe.sl {n : Nat} {g g' : Nat → F} (h : ∀ j, j < n → g j = g' j) : FLe (.sl n g) (.sl n g') := by
  intro w Z v hv
  cases hv with
  | sl _ _ A c sz a V hc hs hk hA hV hr =>
    exact .sl n g' A c sz a V hc (fun i hi => by rw [← h i hi]; exact hs i hi) (fun i j u hi hu => hk i j u hi (by rw [h i hi]; exact hu)) hA (fun i j u hi hu => hV i j u hi (by rw [h i hi]; exact hu))
      (fun i j u hi hu => hr i j u hi (by rw [h i hi]; exact hu))
def ULe (u u' : U) : Prop := u' = .bad ∨ ∀ (w : World) (Z : Nat → Prop) (m : Nat → Nat) (H : List HO) (v : Value), RepU w Z m H u v → RepU w Z m H u' v
theorem ULe.refl (u : U) : ULe u u := .inr fun _ _ _ _ _ h => h
theorem ULe.f {x y : F} (h : FLe x y) : ULe (.f x) (.f y) := .inr fun w Z m H v hv => by cases hv with | f _ _ hv => exact .f _ _ (h _ _ _ hv)
def UsLe : List U → List U → Prop
  | [], [] => True
  | u :: us, u' :: us' => ULe u u' ∧ UsLe us us'
  | _, _ => False
theorem UsLe.refl : ∀ us : List U, UsLe us us
  | [] => trivial
  | u :: us => ⟨.refl u, .refl us⟩
theorem UsLe.get : ∀ {us us' : List U}, UsLe us us' → us.length = us'.length ∧ ∀ (i : Nat) (u' : U), us'[i]? = some u' → ∃ u, us[i]? = some u ∧ ULe u u'
  | [], [], _ => ⟨rfl, fun i u' h => by simp at h⟩
  | u :: us, u1 :: us', h => by
    obtain ⟨h1, h2⟩ := UsLe.get h.2
    refine ⟨by simp [h1], fun i u' hi => ?_⟩
    cases i with
    | zero => simp at hi; subst hi; exact ⟨u, rfl, h.1⟩
    | succ i => simp at hi; obtain ⟨u2, h3, h4⟩ := h2 i u' hi; exact ⟨u2, by simpa using h3, h4⟩
  | [], _ :: _, h => h.elim
  | _ :: _, [], h => h.elim
theorem Ends.same {items : List Item} {st st' : St} (e : st = st') (h : EndsN P hn rs items st' x) : EndsN P hn rs items st x := e ▸ h
theorem PureOK.sub {f : FuncId} {pre pre' : List F → Bool} {res res' : List F → F} (h : PureOK P f pre res) (hp : ∀ xs, pre' xs = true → pre xs = true ∧ res xs = res' xs) : PureOK P f pre' res' := by
  intro xs hx w Z args hZ hL
  obtain ⟨h1, h2⟩ := hp xs hx
  rw [← h2]
  exact h xs h1 w Z args hZ hL
theorem PureOK.le {f : FuncId} {pre pre' : List F → Bool} {res res' : List F → F} (h : PureOK P f pre res) (hp : ∀ xs, pre' xs = true → pre xs = true ∧ FLe (res xs) (res' xs)) : PureOK P f pre' res' := by
  intro xs hx w Z args hZ hL
  obtain ⟨h1, h2⟩ := hp xs hx
  exact (h xs h1 w Z args hZ hL).mono fun v w' ⟨hg, Z', hz, hr⟩ => ⟨hg, Z', hz, h2 _ _ _ hr⟩
theorem below_of_grows {w w' : World} (h : Grows w w') : Below w.heap.size w w' := ⟨h.os, h.tape, h.output, h.size, h.old⟩
theorem law_calls {f : FuncId} {fn : Func} {c : Code} (hf : P.funcs[f]? = some fn) (hb : fn.body = some c) (hname : (fn.name == "runtime.NumGoroutine") = false) {pre : List F → Bool} {res : List F → F} (h : PureOK P f pre res)
    {xs : List F} {args : Array Value} {b : Bool} (hp : pre xs = true) (hr : res xs = .bool b) (w : World) (Z : Nat → Prop) (hZ : ∀ b, Z b → b < w.heap.size) (hL : RepL w Z xs args.toList) :
    Calls P f args w fun e w' => e = .returned (.bool b) ∧ Below w.heap.size w w' := by
  rcases h xs hp w Z args hZ hL with ⟨_, h2⟩ | ⟨v, w', h1, _⟩
  · refine h2.mono fun e w' he => ?_
    cases e with
    | returned v =>
      obtain ⟨g, Z', _, hr'⟩ := he
      rw [hr] at hr'
      cases hr'
      exact ⟨rfl, below_of_grows g⟩
    | _ => exact he.elim
  · have hp' : (program).run P w = .ok P w := rfl
    unfold callFunc at h1
    simp only [Sem.run_bind, hp', Result.andThen, hf, hname, hb, Option.isNone_some, Bool.false_eq_true, if_false, Sem.run_pure] at h1
    cases h1
end
end Go.Proofs.YtdcooaopkbicfaaGreat.R
namespace Go.Proofs.YtdcooaopkbicfaaGreat.R
open Go
section
variable {P : Program} {w : World} {Z : Nat → Prop} {m : Nat → Nat} {H : List HO}
end
end Go.Proofs.YtdcooaopkbicfaaGreat.R
namespace Go.Proofs.YtdcooaopkbicfaaGreat.R
open Go
section
variable {P : Program} {w : World} {Z : Nat → Prop} {m : Nat → Nat} {H : List HO}
def FsLe : List F → List F → Prop
  | [], [] => True
  | x :: xs, y :: ys => FLe x y ∧ FsLe xs ys
  | _, _ => False
theorem FsLe.refl : ∀ xs : List F, FsLe xs xs
  | [] => trivial
  | x :: xs => ⟨.refl x, .refl xs⟩
theorem FsLe.get : ∀ {xs ys : List F}, FsLe xs ys → xs.length = ys.length ∧ ∀ (i : Nat) (y : F), ys[i]? = some y → ∃ x, xs[i]? = some x ∧ FLe x y
  | [], [], _ => ⟨rfl, fun i y h => by simp at h⟩
  | x :: xs, y :: ys, h => by
    obtain ⟨h1, h2⟩ := FsLe.get h.2
    refine ⟨by simp [h1], fun i z hi => ?_⟩
    cases i with
    | zero => simp at hi; subst hi; exact ⟨x, rfl, h.1⟩
    | succ i => simp at hi; obtain ⟨u2, h3, h4⟩ := h2 i z hi; exact ⟨u2, by simpa using h3, h4⟩
  | [], _ :: _, h => h.elim
  | _ :: _, [], h => h.elim
theorem RepL.le {xs ys : List F} {vs : List Value} (h : FsLe xs ys) (hL : RepL w Z xs vs) : RepL w Z ys vs := by
  obtain ⟨h1, h2⟩ := h.get
  refine ⟨by rw [← h1]; exact hL.1, fun j y v hy hv => ?_⟩
  obtain ⟨x, hx, hle⟩ := h2 j y hy
  exact hle _ _ _ (hL.2 j x v hx hv)
theorem fn_pure_at {f : FuncId} {fn : Func} {c : Code} (hf : P.funcs[f]? = some fn) (hb : fn.body = some c) (hname : oddFn fn = false) {pre : List F → Bool} {res : List F → F}
    (h : ∀ xs, pre xs = true → ∃ ys y, FsLe xs ys ∧ Ends P fn.results.toList [.code c] (start fn.ntmps (ys.map .f)) y ∧ FLe y (res xs)) : PureOK P f pre res := by
  intro xs hp w Z args hZ hL
  obtain ⟨ys, y, h1, h2, h3⟩ := h xs hp
  have := fn_pure hf hb hname (pre := fun _ => true) (res := fun zs => y) (P := P) (f := f)
  have key : PureOK P f (fun zs => @decide (zs = ys) (Classical.propDecidable _)) (fun _ => y) := fn_pure hf hb hname fun zs hz => by
    obtain rfl := @of_decide_eq_true _ (Classical.propDecidable _) hz
    exact h2
  exact (key ys (@decide_eq_true _ (Classical.propDecidable _) rfl) w Z args hZ (hL.le h1)).mono fun v w' ⟨hg, Z', hz, hr⟩ => ⟨hg, Z', hz, h3 _ _ _ hr⟩
def slF {α : Type} (enc : α → F) (d : α) (l : List α) : F := .sl l.length fun i => enc (l.getD i d)
def isSl (is : F → Bool) : F → Bool
  | .sl n g => (List.range n).all fun i => is (g i)
  | _ => false
def unSl {α : Type} (un : F → α) : F → List α
  | .sl n g => (List.range n).map fun i => un (g i)
  | _ => []
theorem unSl_slF {α : Type} {enc : α → F} {un : F → α} {d : α} (h : ∀ a, un (enc a) = a) (l : List α) : unSl un (slF enc d l) = l := by
  simp only [unSl, slF, h]
  apply List.ext_getElem
  · simp
  · intro i h1 h2
    simp [List.getD, List.getElem?_eq_getElem h2]
theorem isSl_slF {α : Type} {enc : α → F} {is : F → Bool} {d : α} (l : List α) (h : ∀ a ∈ l, is (enc a) = true) : isSl is (slF enc d l) = true := by
  simp only [isSl, slF, List.all_eq_true, List.mem_range]
  intro i hi
  rw [show l.getD i d = l[i] by simp [List.getD, List.getElem?_eq_getElem hi]]
  exact h _ (List.getElem_mem hi)
theorem unSl_len {α : Type} (un : F → α) (n : Nat) (g : Nat → F) : (unSl un (.sl n g)).length = n := by simp [unSl]
theorem slF_eqv {α : Type} {enc : α → F} {un : F → α} {is : F → Bool} {d : α} (h : ∀ x, is x = true → enc (un x) = x) {x : F} (hx : isSl is x = true) : FLe x (slF enc d (unSl un x)) ∧ FLe (slF enc d (unSl un x)) x := by
  cases x with
  | sl n g =>
    simp only [isSl, List.all_eq_true, List.mem_range] at hx
    have e : ∀ j, j < n → enc ((unSl un (.sl n g)).getD j d) = g j := fun j hj => by
      have : (unSl un (.sl n g)).getD j d = un (g j) := by simp [unSl, List.getD, hj]
      rw [this, h _ (hx j hj)]
    have hl := unSl_len un n g
    unfold slF
    rw [hl]
    exact ⟨FLe.sl fun j hj => (e j hj).symm, FLe.sl fun j hj => e j hj⟩
  | _ => simp [isSl] at hx
theorem sl_at {α : Type} {enc : α → F} {un : F → α} {is : F → Bool} (d : α) (h : ∀ x, is x = true → enc (un x) = x) {n : Nat} {g : Nat → F} (hx : isSl is (.sl n g) = true) {j : Nat} (hj : j < n) : g j = enc ((unSl un (.sl n g)).getD j d) := by
  simp only [isSl, List.all_eq_true, List.mem_range] at hx
  have : (unSl un (.sl n g)).getD j d = un (g j) := by simp [unSl, List.getD, hj]
  rw [this, h _ (hx j hj)]
theorem HLe.nil : HLe [] [] := ⟨rfl, fun o ob ob' h => by simp at h⟩
theorem HLe.cons {a b : HO} {H H' : List HO} (h : ObLe a b) (t : HLe H H') : HLe (a :: H) (b :: H') := by
  refine ⟨by simp [t.1], fun o ob ob' ho ho' => ?_⟩
  cases o with
  | zero => simp at ho ho'; subst ho; subst ho'; exact h
  | succ o => exact t.2 o ob ob' (by simpa using ho) (by simpa using ho')
theorem ObLe.refl (a : HO) : ObLe a a := .inl rfl
theorem ObLe.arr {sz n : Nat} {g g' : Nat → F} (h : ∀ j, j < n → g j = g' j) : ObLe (.arr sz n g) (.arr sz n g') := .inr ⟨sz, n, g, g', rfl, rfl, h⟩
end
end Go.Proofs.YtdcooaopkbicfaaGreat.R
namespace Go.Proofs.YtdcooaopkbicfaaGreat.R
open Go Go.ChangeShapes Go.WideShapes Go.RowKit
section
variable {H : Type} {enc : TypeId × Value → H} {P : Program} {W : World} {base : Nat} {t e : TypeId} {v : Value} {d : DataW H} {ps : List MemPlace}
theorem cell_lt {a : Addr} {x : Value} (h : W.cell? a = some x) : a.block < W.heap.size := by
  unfold World.cell? at h
  cases hb : W.heap[a.block]? with
  | none => rw [hb] at h; simp at h
  | some o => exact (Array.getElem?_eq_some_iff.1 hb).1
end
end Go.Proofs.YtdcooaopkbicfaaGreat.R
namespace Go.Proofs.YtdcooaopkbicfaaGreat.R
open Go
def bodyOf (fn : Func) : Code := match fn.body with | some c => c | none => .skip
def at_ (fn : Func) (id : Nat) : List Item := (itemsAt id (bodyOf fn) []).getD []
theorem tyOK : TyOK Tryz.prog (tiOf Tryz.prog) := ⟨by kernel_rfl, fun _ _ h => h⟩
def env0 : Env := fun _ => .none
theorem env0_ok : EnvOK Tryz.prog env0 := fun _ => trivial
def Lists {α : Type} (enc : α → F) (d : α) (n : Nat) (g : Nat → F) (o : List α) : Prop := n = o.length ∧ ∀ j, j < n → g j = enc (o.getD j d)
theorem Lists.nil {α : Type} {enc : α → F} {d : α} {g : Nat → F} : Lists enc d 0 g [] := ⟨rfl, fun j h => by omega⟩
theorem Lists.push {α : Type} {enc : α → F} {d : α} {n : Nat} {g : Nat → F} {o : List α} (h : Lists enc d n g o) (x : α) : Lists enc d (n + 1) (fun j => if j < n then g j else enc x) (o ++ [x]) := by
  obtain ⟨h1, h2⟩ := h
  refine ⟨by simp [h1], fun j hj => ?_⟩
  by_cases hjn : j < n
  · simp only [if_pos hjn, h2 j hjn, List.getD]
    rw [List.getElem?_append_left (by omega)]
  · obtain rfl : j = n := by omega
    simp only [if_neg hjn, List.getD]
    rw [List.getElem?_append_right (by omega), h1]
    simp
theorem Lists.le {α : Type} {enc : α → F} {d : α} {n : Nat} {g : Nat → F} {o : List α} (h : Lists enc d n g o) : FLe (.sl n g) (slF enc d o) := by
  obtain ⟨rfl, h2⟩ := h
  exact FLe.sl h2
theorem FLe.tup {xs ys : List F} (h : FsLe xs ys) : FLe (.tup xs) (.tup ys) := by
  intro w Z v hv
  cases hv with
  | tup _ vs hl hr =>
    obtain ⟨h1, h2⟩ := h.get
    refine .tup ys vs (by rw [← h1]; exact hl) fun j y v hy hv => ?_
    obtain ⟨x, hx, hle⟩ := h2 j y hy
    exact hle _ _ _ (hr j x v hx hv)
def i64F (n : Int) : F := .int .i64 n
def intsF (l : List Int) : F := slF i64F 0 l
theorem PureOK.sp {P : Program} {f : FuncId} {pre : List F → Bool} {res : List F → F} (h : PureOK P f pre res) : SpOK P f (.pure pre res) := h
def Env.add (C : Env) (f : FuncId) (s : Sp) : Env := fun g => match Nat.beq g f with
  | true => s
  | false => C g
theorem Env.add_ok {C : Env} (hC : EnvOK Tryz.prog C) {f : FuncId} {s : Sp} (h : SpOK Tryz.prog f s) : EnvOK Tryz.prog (C.add f s) := by
  intro g
  unfold Env.add
  split
  · rename_i e
    have := Nat.eq_of_beq_eq_true e
    subst this
    exact h
  · exact hC g
end Go.Proofs.YtdcooaopkbicfaaGreat.R
namespace Go.Proofs.YtdcooaopkbicfaaGreat.R
open Go
def FSame (x y : F) : Prop := FLe x y ∧ FLe y x
theorem FSame.refl (x : F) : FSame x x := ⟨.refl x, .refl x⟩
theorem FSame.symm {x y : F} (h : FSame x y) : FSame y x := ⟨h.2, h.1⟩
theorem FLe.trans {x y z : F} (h : FLe x y) (k : FLe y z) : FLe x z := fun w Z v hv => k w Z v (h w Z v hv)
structure ElLe (x y : F) : Prop where
  cells : FsLe x.cells y.cells
  cell : (∀ u ∈ x.cells, cellF u = true) → ∀ u ∈ y.cells, cellF u = true
theorem ElLe.refl (x : F) : ElLe x x := ⟨.refl _, fun h => h⟩
theorem FLe.slEl {n : Nat} {g g' : Nat → F} (h : ∀ j, j < n → ElLe (g j) (g' j)) : FLe (.sl n g) (.sl n g') := by
  intro w Z v hv
  cases hv with
  | sl _ _ A c sz a V hc hs hk hA hV hr =>
    have hget : ∀ (i j : Nat) (u : F), i < n → (g' i).cells[j]? = some u → ∃ x, (g i).cells[j]? = some x ∧ FLe x u := fun i j u hi hu => (h i hi).cells.get.2 j u hu
    refine .sl n g' A c sz a V hc (fun i hi => by rw [← (h i hi).cells.get.1]; exact hs i hi) (fun i j u hi hu => ?_) hA (fun i j u hi hu => ?_) (fun i j u hi hu => ?_)
    · refine (h i hi).cell (fun u hu => ?_) u (List.mem_of_getElem? hu)
      obtain ⟨k, hk'⟩ := List.getElem?_of_mem hu
      exact hk i k u hi hk'
    · obtain ⟨x, hx, _⟩ := hget i j u hi hu
      exact hV i j x hi hx
    · obtain ⟨x, hx, hle⟩ := hget i j u hi hu
      exact hle _ _ _ (hr i j x hi hx)
theorem slF_eqv' {α : Type} {enc : α → F} {un : F → α} {is : F → Bool} {d : α} (h : ∀ x, is x = true → ElLe x (enc (un x)) ∧ ElLe (enc (un x)) x) {x : F} (hx : isSl is x = true) : FLe x (slF enc d (unSl un x)) ∧ FLe (slF enc d (unSl un x)) x := by
  cases x with
  | sl n g =>
    simp only [isSl, List.all_eq_true, List.mem_range] at hx
    have e : ∀ j, j < n → (unSl un (.sl n g)).getD j d = un (g j) := fun j hj => by simp [unSl, List.getD, hj]
    have hl := unSl_len un n g
    unfold slF
    rw [hl]
    exact ⟨FLe.slEl fun j hj => by rw [e j hj]; exact (h _ (hx j hj)).1, FLe.slEl fun j hj => by rw [e j hj]; exact (h _ (hx j hj)).2⟩
  | _ => simp [isSl] at hx
theorem FLe.agg {xs ys : List F} (h : FsLe xs ys) : FLe (.agg xs) (.agg ys) := by
  intro w Z v hv
  cases hv with
  | agg _ vs hl hr =>
    obtain ⟨h1, h2⟩ := h.get
    refine .agg ys vs (by rw [← h1]; exact hl) fun j y v hy hv => ?_
    obtain ⟨x, hx, hle⟩ := h2 j y hy
    exact hle _ _ _ (hr j x v hx hv)
theorem ElLe.agg {xs ys : List F} (h : FsLe xs ys) (hc : (∀ u ∈ xs, cellF u = true) → ∀ u ∈ ys, cellF u = true) : ElLe (.agg xs) (.agg ys) := ⟨h, hc⟩
end Go.Proofs.YtdcooaopkbicfaaGreat.R
namespace Go.Proofs.YtdcooaopkbicfaaGreat.R
open Go
/-! ### function 29 -/
def T29 {ρ : Type} (ret : (Bool) → Option ρ) (a0 : Int) (a1 : Int) (a2 : Int) : Option ρ :=
 (bsel (decide (a0 ≥ a1) == true)
 (ret (decide (a0 ≤ a2)))
 (ret (false)))
def G29 (a0 : Int) (a1 : Int) (a2 : Int) : Option (Bool) := T29 some a0 a1 a2
theorem t29 (a0 : Int) (a1 : Int) (a2 : Int) (r : Bool) (h : G29 a0 a1 a2 = some r) : Ends Tryz.prog Tryz.f29.results.toList [.code (bodyOf Tryz.f29)] (start Tryz.f29.ntmps ([F.int .i64 a0, F.int .i64 a1, F.int .i64 a2].map .f)) (F.bool r) := by
  refine Ends.of_run tyOK env0_ok (T := []) (n := 200) ?_
  have e : run Tryz.prog (tiOf Tryz.prog) env0 [] 0 Tryz.f29.results.toList some 200 [.code (bodyOf Tryz.f29)] (start Tryz.f29.ntmps ([F.int .i64 a0, F.int .i64 a1, F.int .i64 a2].map .f)) = T29 (fun r => some (.ret (F.bool r))) a0 a1 a2 := by kernel_rfl
  rw [e]
  exact (good_sel h (fun _ h => good_ret (by cases h; rfl)) (fun _ h => good_ret (by cases h; rfl)))
/-! ### function 40 -/
def T40 {ρ : Type} (ret : (Bool) → Option ρ) (a0 : Int) (a1 : Int) (a2 : Int) : Option ρ :=
 (bsel (decide (a1 ≤ a0) == true)
 (ret (decide (a0 ≤ a2)))
 (ret (false)))
def G40 (a0 : Int) (a1 : Int) (a2 : Int) : Option (Bool) := T40 some a0 a1 a2
theorem t40 (a0 : Int) (a1 : Int) (a2 : Int) (r : Bool) (h : G40 a0 a1 a2 = some r) : Ends Tryz.prog Tryz.f40.results.toList [.code (bodyOf Tryz.f40)] (start Tryz.f40.ntmps ([F.int .i64 a0, F.int .i64 a1, F.int .i64 a2].map .f)) (F.bool r) := by
  refine Ends.of_run tyOK env0_ok (T := []) (n := 200) ?_
  have e : run Tryz.prog (tiOf Tryz.prog) env0 [] 0 Tryz.f40.results.toList some 200 [.code (bodyOf Tryz.f40)] (start Tryz.f40.ntmps ([F.int .i64 a0, F.int .i64 a1, F.int .i64 a2].map .f)) = T40 (fun r => some (.ret (F.bool r))) a0 a1 a2 := by kernel_rfl
  rw [e]
  exact (good_sel h (fun _ h => good_ret (by cases h; rfl)) (fun _ h => good_ret (by cases h; rfl)))
/-! ### function 52 -/
def T52 {ρ : Type} (ret : (Bool) → Option ρ) (x0 : Int) (y0 : Int) (x1 : Int) (y1 : Int) : Option ρ :=
 (bsel (decide (x0 < x1) == false)
 (bsel ((x0 == x1) == true)
 (ret (decide (y0 < y1)))
 (ret (false)))
 (ret (true)))
def G52 (x0 : Int) (y0 : Int) (x1 : Int) (y1 : Int) : Option (Bool) := T52 some x0 y0 x1 y1
theorem t52 (x0 : Int) (y0 : Int) (x1 : Int) (y1 : Int) (r : Bool) (h : G52 x0 y0 x1 y1 = some r) : Ends Tryz.prog Tryz.f52.results.toList [.code (bodyOf Tryz.f52)] (start Tryz.f52.ntmps ([F.agg [F.int .i64 x0, F.int .i64 y0], F.agg [F.int .i64 x1, F.int .i64 y1]].map .f)) (F.bool r) := by
  refine Ends.of_run tyOK env0_ok (T := []) (n := 200) ?_
  have e : run Tryz.prog (tiOf Tryz.prog) env0 [] 0 Tryz.f52.results.toList some 200 [.code (bodyOf Tryz.f52)] (start Tryz.f52.ntmps ([F.agg [F.int .i64 x0, F.int .i64 y0], F.agg [F.int .i64 x1, F.int .i64 y1]].map .f)) = T52 (fun r => some (.ret (F.bool r))) x0 y0 x1 y1 := by kernel_rfl
  rw [e]
  exact (good_sel h (fun _ h => (good_sel h (fun _ h => good_ret (by cases h; rfl)) (fun _ h => good_ret (by cases h; rfl)))) (fun _ h => good_ret (by cases h; rfl)))
/-! ### function 66 -/
def T66 {ρ : Type} (ret : (Int) → Option ρ) (x0 : Int) (y0 : Int) (x1 : Int) (y1 : Int) : Option ρ :=
 (bsel (x0 == x1 && (y0 == y1 && true))
 (ret (0))
 (bsel (decide (x0 < x1) == false)
 (bsel ((x0 == x1) == true)
 (bsel (decide (y0 < y1))
 (ret (-1))
 (ret (1)))
 (ret (1)))
 (ret (-1))))
def G66 (x0 : Int) (y0 : Int) (x1 : Int) (y1 : Int) : Option (Int) := T66 some x0 y0 x1 y1
theorem t66 (x0 : Int) (y0 : Int) (x1 : Int) (y1 : Int) (r : Int) (h : G66 x0 y0 x1 y1 = some r) : Ends Tryz.prog Tryz.f66.results.toList [.code (bodyOf Tryz.f66)] (start Tryz.f66.ntmps ([F.agg [F.int .i64 x0, F.int .i64 y0], F.agg [F.int .i64 x1, F.int .i64 y1]].map .f)) (F.int .i64 r) := by
  refine Ends.of_run tyOK env0_ok (T := []) (n := 200) ?_
  have e : run Tryz.prog (tiOf Tryz.prog) env0 [] 0 Tryz.f66.results.toList some 200 [.code (bodyOf Tryz.f66)] (start Tryz.f66.ntmps ([F.agg [F.int .i64 x0, F.int .i64 y0], F.agg [F.int .i64 x1, F.int .i64 y1]].map .f)) = T66 (fun r => some (.ret (F.int .i64 r))) x0 y0 x1 y1 := by kernel_rfl
  rw [e]
  exact (good_sel h (fun _ h => good_ret (by cases h; rfl)) (fun _ h => (good_sel h (fun _ h => (good_sel h (fun _ h => (good_sel h (fun _ h => good_ret (by cases h; rfl)) (fun _ h => good_ret (by cases h; rfl)))) (fun _ h => good_ret (by cases h; rfl)))) (fun _ h => good_ret (by cases h; rfl)))))
/-! ### function 99 -/
def T99 {ρ : Type} (ret : (Int) → Option ρ) (a0 : Int) : Option ρ :=
 (bsel (decide (a0 < 0))
 (ret (-1))
 (bsel (decide (a0 > 0))
 (ret (1))
 (ret (0))))
def G99 (a0 : Int) : Option (Int) := T99 some a0
theorem t99 (a0 : Int) (r : Int) (h : G99 a0 = some r) : Ends Tryz.prog Tryz.f99.results.toList [.code (bodyOf Tryz.f99)] (start Tryz.f99.ntmps ([F.int .i64 a0].map .f)) (F.int .i64 r) := by
  refine Ends.of_run tyOK env0_ok (T := []) (n := 200) ?_
  have e : run Tryz.prog (tiOf Tryz.prog) env0 [] 0 Tryz.f99.results.toList some 200 [.code (bodyOf Tryz.f99)] (start Tryz.f99.ntmps ([F.int .i64 a0].map .f)) = T99 (fun r => some (.ret (F.int .i64 r))) a0 := by kernel_rfl
  rw [e]
  exact (good_sel h (fun _ h => good_ret (by cases h; rfl)) (fun _ h => (good_sel h (fun _ h => good_ret (by cases h; rfl)) (fun _ h => good_ret (by cases h; rfl)))))
/-! ### function 71 -/
def T71 {ρ : Type} (ret : (Int) → Option ρ) (x0 : Int) (y0 : Int) (x1 : Int) (y1 : Int) (x2 : Int) (y2 : Int) : Option ρ :=
 (ret (IntKind.i64.wrap (IntKind.i64.wrap (IntKind.i64.wrap (x1 - x0) * IntKind.i64.wrap (y2 - y0)) - IntKind.i64.wrap (IntKind.i64.wrap (y1 - y0) * IntKind.i64.wrap (x2 - x0)))))
def G71 (x0 : Int) (y0 : Int) (x1 : Int) (y1 : Int) (x2 : Int) (y2 : Int) : Option (Int) := T71 some x0 y0 x1 y1 x2 y2
theorem t71 (x0 : Int) (y0 : Int) (x1 : Int) (y1 : Int) (x2 : Int) (y2 : Int) (r : Int) (h : G71 x0 y0 x1 y1 x2 y2 = some r) : Ends Tryz.prog Tryz.f71.results.toList [.code (bodyOf Tryz.f71)] (start Tryz.f71.ntmps ([F.agg [F.int .i64 x0, F.int .i64 y0], F.agg [F.int .i64 x1, F.int .i64 y1], F.agg [F.int .i64 x2, F.int .i64 y2]].map .f)) (F.int .i64 r) := by
  refine Ends.of_run tyOK env0_ok (T := []) (n := 200) ?_
  have e : run Tryz.prog (tiOf Tryz.prog) env0 [] 0 Tryz.f71.results.toList some 200 [.code (bodyOf Tryz.f71)] (start Tryz.f71.ntmps ([F.agg [F.int .i64 x0, F.int .i64 y0], F.agg [F.int .i64 x1, F.int .i64 y1], F.agg [F.int .i64 x2, F.int .i64 y2]].map .f)) = T71 (fun r => some (.ret (F.int .i64 r))) x0 y0 x1 y1 x2 y2 := by kernel_rfl
  rw [e]
  exact good_ret (by cases h; rfl)
/-! ### function 97 -/
def T97 {ρ : Type} (ret : (Int) → Option ρ) (x0 : Int) (y0 : Int) (x1 : Int) (y1 : Int) (x2 : Int) (y2 : Int) : Option ρ :=
 (bsel (decide (IntKind.i64.wrap (IntKind.i64.wrap (IntKind.i64.wrap (x1 - x0) * IntKind.i64.wrap (y2 - y0)) - IntKind.i64.wrap (IntKind.i64.wrap (y1 - y0) * IntKind.i64.wrap (x2 - x0))) < 0))
 (ret (-1))
 (bsel (decide (IntKind.i64.wrap (IntKind.i64.wrap (IntKind.i64.wrap (x1 - x0) * IntKind.i64.wrap (y2 - y0)) - IntKind.i64.wrap (IntKind.i64.wrap (y1 - y0) * IntKind.i64.wrap (x2 - x0))) > 0))
 (ret (1))
 (ret (0))))
def G97 (x0 : Int) (y0 : Int) (x1 : Int) (y1 : Int) (x2 : Int) (y2 : Int) : Option (Int) := T97 some x0 y0 x1 y1 x2 y2
theorem t97 (x0 : Int) (y0 : Int) (x1 : Int) (y1 : Int) (x2 : Int) (y2 : Int) (r : Int) (h : G97 x0 y0 x1 y1 x2 y2 = some r) : Ends Tryz.prog Tryz.f97.results.toList [.code (bodyOf Tryz.f97)] (start Tryz.f97.ntmps ([F.agg [F.int .i64 x0, F.int .i64 y0], F.agg [F.int .i64 x1, F.int .i64 y1], F.agg [F.int .i64 x2, F.int .i64 y2]].map .f)) (F.int .i64 r) := by
  refine Ends.of_run tyOK env0_ok (T := []) (n := 200) ?_
  have e : run Tryz.prog (tiOf Tryz.prog) env0 [] 0 Tryz.f97.results.toList some 200 [.code (bodyOf Tryz.f97)] (start Tryz.f97.ntmps ([F.agg [F.int .i64 x0, F.int .i64 y0], F.agg [F.int .i64 x1, F.int .i64 y1], F.agg [F.int .i64 x2, F.int .i64 y2]].map .f)) = T97 (fun r => some (.ret (F.int .i64 r))) x0 y0 x1 y1 x2 y2 := by kernel_rfl
  rw [e]
  exact (good_sel h (fun _ h => good_ret (by cases h; rfl)) (fun _ h => (good_sel h (fun _ h => good_ret (by cases h; rfl)) (fun _ h => good_ret (by cases h; rfl)))))
def pre3i : List F → Bool | [.int .i64 _, .int .i64 _, .int .i64 _] => true | _ => false
def pre1i : List F → Bool | [.int .i64 _] => true | _ => false
def pre1p : List F → Bool | [.agg [.int .i64 _, .int .i64 _]] => true | _ => false
def pre2p : List F → Bool | [.agg [.int .i64 _, .int .i64 _], .agg [.int .i64 _, .int .i64 _]] => true | _ => false
def pre3p : List F → Bool | [.agg [.int .i64 _, .int .i64 _], .agg [.int .i64 _, .int .i64 _], .agg [.int .i64 _, .int .i64 _]] => true | _ => false
def inV (a lo hi : Int) : Bool := decide (lo ≤ a) && decide (a ≤ hi)
def resIn : List F → F | [.int .i64 a, .int .i64 b, .int .i64 c] => .bool (inV a b c) | _ => .dflt
theorem inV_spec (a b c : Int) : G29 a b c = some (inV a b c) := by
  unfold G29 T29 inV
  have e : decide (a ≥ b) = decide (b ≤ a) := rfl
  rw [e]
  cases decide (b ≤ a) <;> rfl
theorem inV_impl (a b c : Int) : G40 a b c = some (inV a b c) := by
  unfold G40 T40 inV
  cases decide (b ≤ a) <;> rfl
theorem okIn : PureOK Tryz.prog 29 pre3i resIn :=
  fn_pure (c := bodyOf Tryz.f29) Tryz.func29 (by kernel_rfl) (by kernel_rfl) fun xs hp => match xs, hp with
  | [.int .i64 a, .int .i64 b, .int .i64 c], hp => t29 a b c _ (inV_spec a b c)
theorem okWithin : PureOK Tryz.prog 40 pre3i resIn :=
  fn_pure (c := bodyOf Tryz.f40) Tryz.func40 (by kernel_rfl) (by kernel_rfl) fun xs hp => match xs, hp with
  | [.int .i64 a, .int .i64 b, .int .i64 c], hp => t40 a b c _ (inV_impl a b c)
def lessV (x0 y0 x1 y1 : Int) : Bool := decide (x0 < x1) || (x0 == x1 && decide (y0 < y1))
theorem lessV_spec (x0 y0 x1 y1 : Int) : G52 x0 y0 x1 y1 = some (lessV x0 y0 x1 y1) := by
  unfold G52 T52 lessV
  cases decide (x0 < x1) <;> cases (x0 == x1) <;> rfl
def resLess : List F → F | [.agg [.int .i64 a, .int .i64 b], .agg [.int .i64 c, .int .i64 d]] => .bool (lessV a b c d) | _ => .dflt
theorem okLess : PureOK Tryz.prog 52 pre2p resLess :=
  fn_pure (c := bodyOf Tryz.f52) Tryz.func52 (by kernel_rfl) (by kernel_rfl) fun xs hp => match xs, hp with
  | [.agg [.int .i64 a, .int .i64 b], .agg [.int .i64 c, .int .i64 d]], hp => t52 a b c d _ (lessV_spec a b c d)
def cmpV (x0 y0 x1 y1 : Int) : Int := bif x0 == x1 && y0 == y1 then 0 else bif lessV x0 y0 x1 y1 then -1 else 1
theorem cmpV_impl (x0 y0 x1 y1 : Int) : G66 x0 y0 x1 y1 = some (cmpV x0 y0 x1 y1) := by
  unfold G66 T66 cmpV lessV
  rw [Bool.and_true]
  cases (x0 == x1) <;> cases (y0 == y1) <;> cases decide (x0 < x1) <;> cases decide (y0 < y1) <;> rfl
def resCmp : List F → F | [.agg [.int .i64 a, .int .i64 b], .agg [.int .i64 c, .int .i64 d]] => .int .i64 (cmpV a b c d) | _ => .dflt
theorem okCmp : PureOK Tryz.prog 66 pre2p resCmp :=
  fn_pure (c := bodyOf Tryz.f66) Tryz.func66 (by kernel_rfl) (by kernel_rfl) fun xs hp => match xs, hp with
  | [.agg [.int .i64 a, .int .i64 b], .agg [.int .i64 c, .int .i64 d]], hp => t66 a b c d _ (cmpV_impl a b c d)
def signV (n : Int) : Int := bif decide (n < 0) then -1 else bif decide (n > 0) then 1 else 0
theorem signV_impl (n : Int) : G99 n = some (signV n) := by
  unfold G99 T99 signV
  cases decide (n < 0) <;> cases decide (n > 0) <;> rfl
def resSign : List F → F | [.int .i64 n] => .int .i64 (signV n) | _ => .dflt
theorem okSign : PureOK Tryz.prog 99 pre1i resSign :=
  fn_pure (c := bodyOf Tryz.f99) Tryz.func99 (by kernel_rfl) (by kernel_rfl) fun xs hp => match xs, hp with
  | [.int .i64 n], hp => t99 n _ (signV_impl n)
def crossW (x0 y0 x1 y1 x2 y2 : Int) : Int := IntKind.i64.wrap (IntKind.i64.wrap (IntKind.i64.wrap (x1 - x0) * IntKind.i64.wrap (y2 - y0)) - IntKind.i64.wrap (IntKind.i64.wrap (y1 - y0) * IntKind.i64.wrap (x2 - x0)))
def resCross : List F → F | [.agg [.int .i64 a, .int .i64 b], .agg [.int .i64 c, .int .i64 d], .agg [.int .i64 e, .int .i64 f]] => .int .i64 (crossW a b c d e f) | _ => .dflt
theorem okCross : PureOK Tryz.prog 71 pre3p resCross :=
  fn_pure (c := bodyOf Tryz.f71) Tryz.func71 (by kernel_rfl) (by kernel_rfl) fun xs hp => match xs, hp with
  | [.agg [.int .i64 a, .int .i64 b], .agg [.int .i64 c, .int .i64 d], .agg [.int .i64 e, .int .i64 f]], hp => t71 a b c d e f _ rfl
def turnV (x0 y0 x1 y1 x2 y2 : Int) : Int := signV (crossW x0 y0 x1 y1 x2 y2)
theorem turnV_spec (x0 y0 x1 y1 x2 y2 : Int) : G97 x0 y0 x1 y1 x2 y2 = some (turnV x0 y0 x1 y1 x2 y2) := by
  unfold G97 T97 turnV signV crossW
  generalize IntKind.i64.wrap (IntKind.i64.wrap (IntKind.i64.wrap (x1 - x0) * IntKind.i64.wrap (y2 - y0)) - IntKind.i64.wrap (IntKind.i64.wrap (y1 - y0) * IntKind.i64.wrap (x2 - x0))) = n
  cases decide (n < 0) <;> cases decide (n > 0) <;> rfl
def resTurn : List F → F | [.agg [.int .i64 a, .int .i64 b], .agg [.int .i64 c, .int .i64 d], .agg [.int .i64 e, .int .i64 f]] => .int .i64 (turnV a b c d e f) | _ => .dflt
theorem okTurn : PureOK Tryz.prog 97 pre3p resTurn :=
  fn_pure (c := bodyOf Tryz.f97) Tryz.func97 (by kernel_rfl) (by kernel_rfl) fun xs hp => match xs, hp with
  | [.agg [.int .i64 a, .int .i64 b], .agg [.int .i64 c, .int .i64 d], .agg [.int .i64 e, .int .i64 f]], hp => t97 a b c d e f _ (turnV_spec a b c d e f)
def envW1 : Env := ((((((env0.add 29 (.pure pre3i resIn)).add 40 (.pure pre3i resIn)).add 52 (.pure pre2p resLess)).add 66 (.pure pre2p resCmp)).add 99 (.pure pre1i resSign)).add 71 (.pure pre3p resCross)).add 97 (.pure pre3p resTurn)
theorem envW1_ok : EnvOK Tryz.prog envW1 := (Env.add_ok (Env.add_ok (Env.add_ok (Env.add_ok (Env.add_ok (Env.add_ok (Env.add_ok env0_ok okIn.sp) okWithin.sp) okLess.sp) okCmp.sp) okSign.sp) okCross.sp) okTurn.sp)
end Go.Proofs.YtdcooaopkbicfaaGreat.R
namespace Go.Proofs.YtdcooaopkbicfaaGreat.R
open Go
/-! ### function 14 -/
def T14 {ρ : Type} (ret : (Bool) → Option ρ) (x0 : Int) (y0 : Int) : Option ρ :=
 (bsel (inV x0 (-1000000) 1000000 == true)
 (ret (inV y0 (-1000000) 1000000))
 (ret (false)))
def G14 (x0 : Int) (y0 : Int) : Option (Bool) := T14 some x0 y0
theorem t14 (x0 : Int) (y0 : Int) (r : Bool) (h : G14 x0 y0 = some r) : Ends Tryz.prog Tryz.f14.results.toList [.code (bodyOf Tryz.f14)] (start Tryz.f14.ntmps ([F.agg [F.int .i64 x0, F.int .i64 y0]].map .f)) (F.bool r) := by
  refine Ends.of_run tyOK envW1_ok (T := []) (n := 200) ?_
  have e : run Tryz.prog (tiOf Tryz.prog) envW1 [] 0 Tryz.f14.results.toList some 200 [.code (bodyOf Tryz.f14)] (start Tryz.f14.ntmps ([F.agg [F.int .i64 x0, F.int .i64 y0]].map .f)) = T14 (fun r => some (.ret (F.bool r))) x0 y0 := by kernel_rfl
  rw [e]
  exact (good_sel h (fun _ h => good_ret (by cases h; rfl)) (fun _ h => good_ret (by cases h; rfl)))
/-! ### function 21 -/
def T21 {ρ : Type} (ret : (Bool) → Option ρ) (x0 : Int) (y0 : Int) : Option ρ :=
 (bsel (inV x0 (-1000000) 1000000 == true)
 (ret (inV y0 (-1000000) 1000000))
 (ret (false)))
def G21 (x0 : Int) (y0 : Int) : Option (Bool) := T21 some x0 y0
theorem t21 (x0 : Int) (y0 : Int) (r : Bool) (h : G21 x0 y0 = some r) : Ends Tryz.prog Tryz.f21.results.toList [.code (bodyOf Tryz.f21)] (start Tryz.f21.ntmps ([F.agg [F.int .i64 x0, F.int .i64 y0]].map .f)) (F.bool r) := by
  refine Ends.of_run tyOK envW1_ok (T := []) (n := 200) ?_
  have e : run Tryz.prog (tiOf Tryz.prog) envW1 [] 0 Tryz.f21.results.toList some 200 [.code (bodyOf Tryz.f21)] (start Tryz.f21.ntmps ([F.agg [F.int .i64 x0, F.int .i64 y0]].map .f)) = T21 (fun r => some (.ret (F.bool r))) x0 y0 := by kernel_rfl
  rw [e]
  exact (good_sel h (fun _ h => good_ret (by cases h; rfl)) (fun _ h => good_ret (by cases h; rfl)))
def spotOkV (x y : Int) : Bool := inV x (-1000000) 1000000 && inV y (-1000000) 1000000
theorem spotOk_spec (x y : Int) : G14 x y = some (spotOkV x y) := by
  unfold G14 T14 spotOkV
  cases inV x (-1000000) 1000000 <;> rfl
theorem spotOk_impl (x y : Int) : G21 x y = some (spotOkV x y) := by
  unfold G21 T21 spotOkV
  cases inV x (-1000000) 1000000 <;> rfl
def resSpotOk : List F → F | [.agg [.int .i64 x, .int .i64 y]] => .bool (spotOkV x y) | _ => .dflt
theorem okSpotOkS : PureOK Tryz.prog 14 pre1p resSpotOk :=
  fn_pure (c := bodyOf Tryz.f14) Tryz.func14 (by kernel_rfl) (by kernel_rfl) fun xs hp => match xs, hp with
  | [.agg [.int .i64 x, .int .i64 y]], hp => t14 x y _ (spotOk_spec x y)
theorem okSpotOkI : PureOK Tryz.prog 21 pre1p resSpotOk :=
  fn_pure (c := bodyOf Tryz.f21) Tryz.func21 (by kernel_rfl) (by kernel_rfl) fun xs hp => match xs, hp with
  | [.agg [.int .i64 x, .int .i64 y]], hp => t21 x y _ (spotOk_impl x y)
theorem spotOk_iff {x y : Int} : spotOkV x y = true ↔ -1000000 ≤ x ∧ x ≤ 1000000 ∧ -1000000 ≤ y ∧ y ≤ 1000000 := by
  simp only [spotOkV, inV, Bool.and_eq_true, decide_eq_true_eq]
  omega
def envW2 : Env := (envW1.add 14 (.pure pre1p resSpotOk)).add 21 (.pure pre1p resSpotOk)
theorem envW2_ok : EnvOK Tryz.prog envW2 := (Env.add_ok (Env.add_ok envW1_ok okSpotOkS.sp) okSpotOkI.sp)
end Go.Proofs.YtdcooaopkbicfaaGreat.R
namespace Go.Proofs.YtdcooaopkbicfaaGreat.R
open Go
theorem wrapi {x : Int} (h0 : -9223372036854775808 ≤ x) (h1 : x ≤ 9223372036854775807) : IntKind.i64.wrap x = x := by
  unfold IntKind.wrap
  simp [IntKind.bits, IntKind.signed]
  omega
end Go.Proofs.YtdcooaopkbicfaaGreat.R
namespace Go.Proofs.YtdcooaopkbicfaaGreat.R
open Go
/-! ### function 30 -/
def T30 {ρ : Type} (ret : (Bool) → Option ρ) (x0 : Int) (y0 : Int) (x1 : Int) (y1 : Int) : Option ρ :=
 (bsel (spotOkV x0 y0 == true)
 (bsel (spotOkV x1 y1 == true)
 (ret (lessV x0 y0 x1 y1))
 (ret (false)))
 (ret (false)))
def G30 (x0 : Int) (y0 : Int) (x1 : Int) (y1 : Int) : Option (Bool) := T30 some x0 y0 x1 y1
theorem t30 (x0 : Int) (y0 : Int) (x1 : Int) (y1 : Int) (r : Bool) (h : G30 x0 y0 x1 y1 = some r) : Ends Tryz.prog Tryz.f30.results.toList [.code (bodyOf Tryz.f30)] (start Tryz.f30.ntmps ([F.agg [F.int .i64 x0, F.int .i64 y0, F.int .i64 x1, F.int .i64 y1]].map .f)) (F.bool r) := by
  refine Ends.of_run tyOK envW2_ok (T := []) (n := 200) ?_
  have e : run Tryz.prog (tiOf Tryz.prog) envW2 [] 0 Tryz.f30.results.toList some 200 [.code (bodyOf Tryz.f30)] (start Tryz.f30.ntmps ([F.agg [F.int .i64 x0, F.int .i64 y0, F.int .i64 x1, F.int .i64 y1]].map .f)) = T30 (fun r => some (.ret (F.bool r))) x0 y0 x1 y1 := by kernel_rfl
  rw [e]
  exact (good_sel h (fun _ h => (good_sel h (fun _ h => good_ret (by cases h; rfl)) (fun _ h => good_ret (by cases h; rfl)))) (fun _ h => good_ret (by cases h; rfl)))
/-! ### function 41 -/
def T41 {ρ : Type} (ret : (Bool) → Option ρ) (x0 : Int) (y0 : Int) (x1 : Int) (y1 : Int) : Option ρ :=
 (bsel (spotOkV x0 y0 == true)
 (bsel (spotOkV x1 y1 == true)
 (ret (decide (cmpV x0 y0 x1 y1 < 0)))
 (ret (false)))
 (ret (false)))
def G41 (x0 : Int) (y0 : Int) (x1 : Int) (y1 : Int) : Option (Bool) := T41 some x0 y0 x1 y1
theorem t41 (x0 : Int) (y0 : Int) (x1 : Int) (y1 : Int) (r : Bool) (h : G41 x0 y0 x1 y1 = some r) : Ends Tryz.prog Tryz.f41.results.toList [.code (bodyOf Tryz.f41)] (start Tryz.f41.ntmps ([F.agg [F.int .i64 x0, F.int .i64 y0, F.int .i64 x1, F.int .i64 y1]].map .f)) (F.bool r) := by
  refine Ends.of_run tyOK envW2_ok (T := []) (n := 200) ?_
  have e : run Tryz.prog (tiOf Tryz.prog) envW2 [] 0 Tryz.f41.results.toList some 200 [.code (bodyOf Tryz.f41)] (start Tryz.f41.ntmps ([F.agg [F.int .i64 x0, F.int .i64 y0, F.int .i64 x1, F.int .i64 y1]].map .f)) = T41 (fun r => some (.ret (F.bool r))) x0 y0 x1 y1 := by kernel_rfl
  rw [e]
  exact (good_sel h (fun _ h => (good_sel h (fun _ h => good_ret (by cases h; rfl)) (fun _ h => good_ret (by cases h; rfl)))) (fun _ h => good_ret (by cases h; rfl)))
/-! ### function 82 -/
def S82_6n0 (x0 : Int) (y0 : Int) (x1 : Int) (y1 : Int) (lx : Int) (ly : Int) (hx : Int) (hy : Int) (x7 : Int) (x8 : Int) : St := ⟨[.bad, .bad, .bad, (U.hp 0 0), .bad, .bad, .bad, (U.f (F.int .i64 x7)), (U.f (F.int .i64 x8)), .bad, .bad, .bad, .bad, .bad, .bad, .bad, .bad, .bad, .bad, .bad, .bad, .bad, .bad, .bad, .bad, .bad, .bad, .bad, .bad, .bad, .bad, .bad, .bad, .bad, .bad, .bad, .bad, .bad, .bad, .bad, .bad, .bad, .bad, .bad, .bad, .bad, .bad, .bad, .bad, .bad, .bad, .bad, .bad, .bad, .bad, .bad, .bad, .bad, .bad, .bad, .bad, .bad, .bad, .bad, .bad, .bad, .bad, .bad, .bad, (U.hs 3 4 0 4), (U.f (F.int .i64 4)), (U.f (F.int .i64 0)), .bad, .bad, .bad, .bad, .bad, .bad, .bad, .bad, .bad, .bad, .bad, .bad, .bad, .bad, .bad, .bad, .bad, .bad, .bad, .bad, .bad, .bad, .bad, .bad], [HO.box [U.f (F.int .i64 x0), U.f (F.int .i64 y0), U.f (F.int .i64 x1), U.f (F.int .i64 y1)], HO.box [U.f (F.int .i64 lx), U.f (F.int .i64 ly)], HO.box [U.f (F.int .i64 hx), U.f (F.int .i64 hy)], HO.arr 2 4 (lget [F.agg [F.int .i64 lx, F.int .i64 ly], F.agg [F.int .i64 hx, F.int .i64 hy], F.agg [F.int .i64 lx, F.int .i64 hy], F.agg [F.int .i64 hx, F.int .i64 ly]])]⟩
def S82_6n1 (x0 : Int) (y0 : Int) (x1 : Int) (y1 : Int) (lx : Int) (ly : Int) (hx : Int) (hy : Int) (x7 : Int) (x8 : Int) : St := ⟨[.bad, .bad, .bad, (U.hp 0 0), .bad, .bad, .bad, (U.f (F.int .i64 x7)), (U.f (F.int .i64 x8)), .bad, .bad, .bad, .bad, .bad, .bad, .bad, .bad, .bad, .bad, .bad, .bad, .bad, .bad, .bad, .bad, .bad, .bad, .bad, .bad, .bad, .bad, .bad, .bad, .bad, .bad, .bad, .bad, .bad, .bad, .bad, .bad, .bad, .bad, .bad, .bad, .bad, .bad, .bad, .bad, .bad, .bad, .bad, .bad, .bad, .bad, .bad, .bad, .bad, .bad, .bad, .bad, .bad, .bad, .bad, .bad, .bad, .bad, .bad, .bad, (U.hs 3 4 0 4), (U.f (F.int .i64 4)), (U.f (F.int .i64 1)), .bad, .bad, .bad, .bad, .bad, .bad, .bad, .bad, .bad, .bad, .bad, .bad, .bad, .bad, .bad, .bad, .bad, .bad, .bad, .bad, .bad, .bad, .bad, .bad], [HO.box [U.f (F.int .i64 x0), U.f (F.int .i64 y0), U.f (F.int .i64 x1), U.f (F.int .i64 y1)], HO.box [U.f (F.int .i64 lx), U.f (F.int .i64 ly)], HO.box [U.f (F.int .i64 hx), U.f (F.int .i64 hy)], HO.arr 2 4 (lget [F.agg [F.int .i64 lx, F.int .i64 ly], F.agg [F.int .i64 hx, F.int .i64 hy], F.agg [F.int .i64 lx, F.int .i64 hy], F.agg [F.int .i64 hx, F.int .i64 ly]])]⟩
def S82_6n2 (x0 : Int) (y0 : Int) (x1 : Int) (y1 : Int) (lx : Int) (ly : Int) (hx : Int) (hy : Int) (x7 : Int) (x8 : Int) : St := ⟨[.bad, .bad, .bad, (U.hp 0 0), .bad, .bad, .bad, (U.f (F.int .i64 x7)), (U.f (F.int .i64 x8)), .bad, .bad, .bad, .bad, .bad, .bad, .bad, .bad, .bad, .bad, .bad, .bad, .bad, .bad, .bad, .bad, .bad, .bad, .bad, .bad, .bad, .bad, .bad, .bad, .bad, .bad, .bad, .bad, .bad, .bad, .bad, .bad, .bad, .bad, .bad, .bad, .bad, .bad, .bad, .bad, .bad, .bad, .bad, .bad, .bad, .bad, .bad, .bad, .bad, .bad, .bad, .bad, .bad, .bad, .bad, .bad, .bad, .bad, .bad, .bad, (U.hs 3 4 0 4), (U.f (F.int .i64 4)), (U.f (F.int .i64 2)), .bad, .bad, .bad, .bad, .bad, .bad, .bad, .bad, .bad, .bad, .bad, .bad, .bad, .bad, .bad, .bad, .bad, .bad, .bad, .bad, .bad, .bad, .bad, .bad], [HO.box [U.f (F.int .i64 x0), U.f (F.int .i64 y0), U.f (F.int .i64 x1), U.f (F.int .i64 y1)], HO.box [U.f (F.int .i64 lx), U.f (F.int .i64 ly)], HO.box [U.f (F.int .i64 hx), U.f (F.int .i64 hy)], HO.arr 2 4 (lget [F.agg [F.int .i64 lx, F.int .i64 ly], F.agg [F.int .i64 hx, F.int .i64 hy], F.agg [F.int .i64 lx, F.int .i64 hy], F.agg [F.int .i64 hx, F.int .i64 ly]])]⟩
def S82_6n3 (x0 : Int) (y0 : Int) (x1 : Int) (y1 : Int) (lx : Int) (ly : Int) (hx : Int) (hy : Int) (x7 : Int) (x8 : Int) : St := ⟨[.bad, .bad, .bad, (U.hp 0 0), .bad, .bad, .bad, (U.f (F.int .i64 x7)), (U.f (F.int .i64 x8)), .bad, .bad, .bad, .bad, .bad, .bad, .bad, .bad, .bad, .bad, .bad, .bad, .bad, .bad, .bad, .bad, .bad, .bad, .bad, .bad, .bad, .bad, .bad, .bad, .bad, .bad, .bad, .bad, .bad, .bad, .bad, .bad, .bad, .bad, .bad, .bad, .bad, .bad, .bad, .bad, .bad, .bad, .bad, .bad, .bad, .bad, .bad, .bad, .bad, .bad, .bad, .bad, .bad, .bad, .bad, .bad, .bad, .bad, .bad, .bad, (U.hs 3 4 0 4), (U.f (F.int .i64 4)), (U.f (F.int .i64 3)), .bad, .bad, .bad, .bad, .bad, .bad, .bad, .bad, .bad, .bad, .bad, .bad, .bad, .bad, .bad, .bad, .bad, .bad, .bad, .bad, .bad, .bad, .bad, .bad], [HO.box [U.f (F.int .i64 x0), U.f (F.int .i64 y0), U.f (F.int .i64 x1), U.f (F.int .i64 y1)], HO.box [U.f (F.int .i64 lx), U.f (F.int .i64 ly)], HO.box [U.f (F.int .i64 hx), U.f (F.int .i64 hy)], HO.arr 2 4 (lget [F.agg [F.int .i64 lx, F.int .i64 ly], F.agg [F.int .i64 hx, F.int .i64 hy], F.agg [F.int .i64 lx, F.int .i64 hy], F.agg [F.int .i64 hx, F.int .i64 ly]])]⟩
def S82_6n4 (x0 : Int) (y0 : Int) (x1 : Int) (y1 : Int) (lx : Int) (ly : Int) (hx : Int) (hy : Int) (x7 : Int) (x8 : Int) : St := ⟨[.bad, .bad, .bad, (U.hp 0 0), .bad, .bad, .bad, (U.f (F.int .i64 x7)), (U.f (F.int .i64 x8)), .bad, .bad, .bad, .bad, .bad, .bad, .bad, .bad, .bad, .bad, .bad, .bad, .bad, .bad, .bad, .bad, .bad, .bad, .bad, .bad, .bad, .bad, .bad, .bad, .bad, .bad, .bad, .bad, .bad, .bad, .bad, .bad, .bad, .bad, .bad, .bad, .bad, .bad, .bad, .bad, .bad, .bad, .bad, .bad, .bad, .bad, .bad, .bad, .bad, .bad, .bad, .bad, .bad, .bad, .bad, .bad, .bad, .bad, .bad, .bad, (U.hs 3 4 0 4), (U.f (F.int .i64 4)), (U.f (F.int .i64 4)), .bad, .bad, .bad, .bad, .bad, .bad, .bad, .bad, .bad, .bad, .bad, .bad, .bad, .bad, .bad, .bad, .bad, .bad, .bad, .bad, .bad, .bad, .bad, .bad], [HO.box [U.f (F.int .i64 x0), U.f (F.int .i64 y0), U.f (F.int .i64 x1), U.f (F.int .i64 y1)], HO.box [U.f (F.int .i64 lx), U.f (F.int .i64 ly)], HO.box [U.f (F.int .i64 hx), U.f (F.int .i64 hy)], HO.arr 2 4 (lget [F.agg [F.int .i64 lx, F.int .i64 ly], F.agg [F.int .i64 hx, F.int .i64 hy], F.agg [F.int .i64 lx, F.int .i64 hy], F.agg [F.int .i64 hx, F.int .i64 ly]])]⟩
def T82_6n0 {ρ : Type} (ret : (Bool) → Option ρ) (c6n0 : (Int) → (Int) → (Int) → (Int) → (Int) → (Int) → (Int) → (Int) → (Int) → (Int) → Option ρ) (c6n1 : (Int) → (Int) → (Int) → (Int) → (Int) → (Int) → (Int) → (Int) → (Int) → (Int) → Option ρ) (c6n2 : (Int) → (Int) → (Int) → (Int) → (Int) → (Int) → (Int) → (Int) → (Int) → (Int) → Option ρ) (c6n3 : (Int) → (Int) → (Int) → (Int) → (Int) → (Int) → (Int) → (Int) → (Int) → (Int) → Option ρ) (c6n4 : (Int) → (Int) → (Int) → (Int) → (Int) → (Int) → (Int) → (Int) → (Int) → (Int) → Option ρ) (x0 : Int) (y0 : Int) (x1 : Int) (y1 : Int) (lx : Int) (ly : Int) (hx : Int) (hy : Int) (x7 : Int) (x8 : Int) : Option ρ :=
 (bsel (turnV x0 y0 x1 y1 lx ly == 1)
 (c6n1 (x0) (y0) (x1) (y1) (lx) (ly) (hx) (hy) (IntKind.i64.wrap (x7 + 1)) (x8))
 (bsel (turnV x0 y0 x1 y1 lx ly == -1)
 (c6n1 (x0) (y0) (x1) (y1) (lx) (ly) (hx) (hy) (x7) (IntKind.i64.wrap (x8 + 1)))
 (c6n1 (x0) (y0) (x1) (y1) (lx) (ly) (hx) (hy) (x7) (x8))))
def T82_6n1 {ρ : Type} (ret : (Bool) → Option ρ) (c6n0 : (Int) → (Int) → (Int) → (Int) → (Int) → (Int) → (Int) → (Int) → (Int) → (Int) → Option ρ) (c6n1 : (Int) → (Int) → (Int) → (Int) → (Int) → (Int) → (Int) → (Int) → (Int) → (Int) → Option ρ) (c6n2 : (Int) → (Int) → (Int) → (Int) → (Int) → (Int) → (Int) → (Int) → (Int) → (Int) → Option ρ) (c6n3 : (Int) → (Int) → (Int) → (Int) → (Int) → (Int) → (Int) → (Int) → (Int) → (Int) → Option ρ) (c6n4 : (Int) → (Int) → (Int) → (Int) → (Int) → (Int) → (Int) → (Int) → (Int) → (Int) → Option ρ) (x0 : Int) (y0 : Int) (x1 : Int) (y1 : Int) (lx : Int) (ly : Int) (hx : Int) (hy : Int) (x7 : Int) (x8 : Int) : Option ρ :=
 (bsel (turnV x0 y0 x1 y1 hx hy == 1)
 (c6n2 (x0) (y0) (x1) (y1) (lx) (ly) (hx) (hy) (IntKind.i64.wrap (x7 + 1)) (x8))
 (bsel (turnV x0 y0 x1 y1 hx hy == -1)
 (c6n2 (x0) (y0) (x1) (y1) (lx) (ly) (hx) (hy) (x7) (IntKind.i64.wrap (x8 + 1)))
 (c6n2 (x0) (y0) (x1) (y1) (lx) (ly) (hx) (hy) (x7) (x8))))
def T82_6n2 {ρ : Type} (ret : (Bool) → Option ρ) (c6n0 : (Int) → (Int) → (Int) → (Int) → (Int) → (Int) → (Int) → (Int) → (Int) → (Int) → Option ρ) (c6n1 : (Int) → (Int) → (Int) → (Int) → (Int) → (Int) → (Int) → (Int) → (Int) → (Int) → Option ρ) (c6n2 : (Int) → (Int) → (Int) → (Int) → (Int) → (Int) → (Int) → (Int) → (Int) → (Int) → Option ρ) (c6n3 : (Int) → (Int) → (Int) → (Int) → (Int) → (Int) → (Int) → (Int) → (Int) → (Int) → Option ρ) (c6n4 : (Int) → (Int) → (Int) → (Int) → (Int) → (Int) → (Int) → (Int) → (Int) → (Int) → Option ρ) (x0 : Int) (y0 : Int) (x1 : Int) (y1 : Int) (lx : Int) (ly : Int) (hx : Int) (hy : Int) (x7 : Int) (x8 : Int) : Option ρ :=
 (bsel (turnV x0 y0 x1 y1 lx hy == 1)
 (c6n3 (x0) (y0) (x1) (y1) (lx) (ly) (hx) (hy) (IntKind.i64.wrap (x7 + 1)) (x8))
 (bsel (turnV x0 y0 x1 y1 lx hy == -1)
 (c6n3 (x0) (y0) (x1) (y1) (lx) (ly) (hx) (hy) (x7) (IntKind.i64.wrap (x8 + 1)))
 (c6n3 (x0) (y0) (x1) (y1) (lx) (ly) (hx) (hy) (x7) (x8))))
def T82_6n3 {ρ : Type} (ret : (Bool) → Option ρ) (c6n0 : (Int) → (Int) → (Int) → (Int) → (Int) → (Int) → (Int) → (Int) → (Int) → (Int) → Option ρ) (c6n1 : (Int) → (Int) → (Int) → (Int) → (Int) → (Int) → (Int) → (Int) → (Int) → (Int) → Option ρ) (c6n2 : (Int) → (Int) → (Int) → (Int) → (Int) → (Int) → (Int) → (Int) → (Int) → (Int) → Option ρ) (c6n3 : (Int) → (Int) → (Int) → (Int) → (Int) → (Int) → (Int) → (Int) → (Int) → (Int) → Option ρ) (c6n4 : (Int) → (Int) → (Int) → (Int) → (Int) → (Int) → (Int) → (Int) → (Int) → (Int) → Option ρ) (x0 : Int) (y0 : Int) (x1 : Int) (y1 : Int) (lx : Int) (ly : Int) (hx : Int) (hy : Int) (x7 : Int) (x8 : Int) : Option ρ :=
 (bsel (turnV x0 y0 x1 y1 hx ly == 1)
 (c6n4 (x0) (y0) (x1) (y1) (lx) (ly) (hx) (hy) (IntKind.i64.wrap (x7 + 1)) (x8))
 (bsel (turnV x0 y0 x1 y1 hx ly == -1)
 (c6n4 (x0) (y0) (x1) (y1) (lx) (ly) (hx) (hy) (x7) (IntKind.i64.wrap (x8 + 1)))
 (c6n4 (x0) (y0) (x1) (y1) (lx) (ly) (hx) (hy) (x7) (x8))))
def T82_6n4 {ρ : Type} (ret : (Bool) → Option ρ) (c6n0 : (Int) → (Int) → (Int) → (Int) → (Int) → (Int) → (Int) → (Int) → (Int) → (Int) → Option ρ) (c6n1 : (Int) → (Int) → (Int) → (Int) → (Int) → (Int) → (Int) → (Int) → (Int) → (Int) → Option ρ) (c6n2 : (Int) → (Int) → (Int) → (Int) → (Int) → (Int) → (Int) → (Int) → (Int) → (Int) → Option ρ) (c6n3 : (Int) → (Int) → (Int) → (Int) → (Int) → (Int) → (Int) → (Int) → (Int) → (Int) → Option ρ) (c6n4 : (Int) → (Int) → (Int) → (Int) → (Int) → (Int) → (Int) → (Int) → (Int) → (Int) → Option ρ) (x0 : Int) (y0 : Int) (x1 : Int) (y1 : Int) (lx : Int) (ly : Int) (hx : Int) (hy : Int) (x7 : Int) (x8 : Int) : Option ρ :=
 (bsel (decide (x7 < 4) == true)
 (ret (decide (x8 < 4)))
 (ret (false)))
mutual
def L82_6n0 : Nat → (Int) → (Int) → (Int) → (Int) → (Int) → (Int) → (Int) → (Int) → (Int) → (Int) → Option (Bool)
  | 0, _, _, _, _, _, _, _, _, _, _ => none
  | k + 1, x0, y0, x1, y1, lx, ly, hx, hy, x7, x8 => T82_6n0 some (L82_6n0 k) (L82_6n1 k) (L82_6n2 k) (L82_6n3 k) (L82_6n4 k) x0 y0 x1 y1 lx ly hx hy x7 x8
def L82_6n1 : Nat → (Int) → (Int) → (Int) → (Int) → (Int) → (Int) → (Int) → (Int) → (Int) → (Int) → Option (Bool)
  | 0, _, _, _, _, _, _, _, _, _, _ => none
  | k + 1, x0, y0, x1, y1, lx, ly, hx, hy, x7, x8 => T82_6n1 some (L82_6n0 k) (L82_6n1 k) (L82_6n2 k) (L82_6n3 k) (L82_6n4 k) x0 y0 x1 y1 lx ly hx hy x7 x8
def L82_6n2 : Nat → (Int) → (Int) → (Int) → (Int) → (Int) → (Int) → (Int) → (Int) → (Int) → (Int) → Option (Bool)
  | 0, _, _, _, _, _, _, _, _, _, _ => none
  | k + 1, x0, y0, x1, y1, lx, ly, hx, hy, x7, x8 => T82_6n2 some (L82_6n0 k) (L82_6n1 k) (L82_6n2 k) (L82_6n3 k) (L82_6n4 k) x0 y0 x1 y1 lx ly hx hy x7 x8
def L82_6n3 : Nat → (Int) → (Int) → (Int) → (Int) → (Int) → (Int) → (Int) → (Int) → (Int) → (Int) → Option (Bool)
  | 0, _, _, _, _, _, _, _, _, _, _ => none
  | k + 1, x0, y0, x1, y1, lx, ly, hx, hy, x7, x8 => T82_6n3 some (L82_6n0 k) (L82_6n1 k) (L82_6n2 k) (L82_6n3 k) (L82_6n4 k) x0 y0 x1 y1 lx ly hx hy x7 x8
def L82_6n4 : Nat → (Int) → (Int) → (Int) → (Int) → (Int) → (Int) → (Int) → (Int) → (Int) → (Int) → Option (Bool)
  | 0, _, _, _, _, _, _, _, _, _, _ => none
  | k + 1, x0, y0, x1, y1, lx, ly, hx, hy, x7, x8 => T82_6n4 some (L82_6n0 k) (L82_6n1 k) (L82_6n2 k) (L82_6n3 k) (L82_6n4 k) x0 y0 x1 y1 lx ly hx hy x7 x8
end
def T82 {ρ : Type} (ret : (Bool) → Option ρ) (c6n0 : (Int) → (Int) → (Int) → (Int) → (Int) → (Int) → (Int) → (Int) → (Int) → (Int) → Option ρ) (c6n1 : (Int) → (Int) → (Int) → (Int) → (Int) → (Int) → (Int) → (Int) → (Int) → (Int) → Option ρ) (c6n2 : (Int) → (Int) → (Int) → (Int) → (Int) → (Int) → (Int) → (Int) → (Int) → (Int) → Option ρ) (c6n3 : (Int) → (Int) → (Int) → (Int) → (Int) → (Int) → (Int) → (Int) → (Int) → (Int) → Option ρ) (c6n4 : (Int) → (Int) → (Int) → (Int) → (Int) → (Int) → (Int) → (Int) → (Int) → (Int) → Option ρ) (x0 : Int) (y0 : Int) (x1 : Int) (y1 : Int) (lx : Int) (ly : Int) (hx : Int) (hy : Int) : Option ρ :=
 (bsel (decide (x1 < lx) == false)
 (bsel (decide (x0 > hx) == false)
 (bsel (decide (y0 < ly) == true)
 (bsel (decide (y1 < ly) == false)
 (bsel (decide (y0 > hy) == true)
 (bsel (decide (y1 > hy))
 (ret (false))
 (c6n0 (x0) (y0) (x1) (y1) (lx) (ly) (hx) (hy) (0) (0)))
 (c6n0 (x0) (y0) (x1) (y1) (lx) (ly) (hx) (hy) (0) (0)))
 (ret (false)))
 (bsel (decide (y0 > hy) == true)
 (bsel (decide (y1 > hy))
 (ret (false))
 (c6n0 (x0) (y0) (x1) (y1) (lx) (ly) (hx) (hy) (0) (0)))
 (c6n0 (x0) (y0) (x1) (y1) (lx) (ly) (hx) (hy) (0) (0))))
 (ret (false)))
 (ret (false)))
def G82 (k : Nat) (x0 : Int) (y0 : Int) (x1 : Int) (y1 : Int) (lx : Int) (ly : Int) (hx : Int) (hy : Int) : Option (Bool) := T82 some (L82_6n0 k) (L82_6n1 k) (L82_6n2 k) (L82_6n3 k) (L82_6n4 k) x0 y0 x1 y1 lx ly hx hy
mutual
theorem t82_6n0 : ∀ (k : Nat) (x0 : Int) (y0 : Int) (x1 : Int) (y1 : Int) (lx : Int) (ly : Int) (hx : Int) (hy : Int) (x7 : Int) (x8 : Int) (r : Bool), L82_6n0 k x0 y0 x1 y1 lx ly hx hy x7 x8 = some r → Ends Tryz.prog Tryz.f82.results.toList (at_ Tryz.f82 6) (S82_6n0 x0 y0 x1 y1 lx ly hx hy x7 x8) (F.bool r)
  | 0, _, _, _, _, _, _, _, _, _, _, _, h => nomatch h
  | k + 1, x0, y0, x1, y1, lx, ly, hx, hy, x7, x8, r, h => by
    refine Ends.of_cut tyOK envW2_ok (T := [(6, [3, 7, 8, 69, 70, 71], 4)]) (n := 600) ?_
    have e : runCut Tryz.prog (tiOf Tryz.prog) envW2 [(6, [3, 7, 8, 69, 70, 71], 4)] 0 Tryz.f82.results.toList some 600 (at_ Tryz.f82 6) (S82_6n0 x0 y0 x1 y1 lx ly hx hy x7 x8) = T82_6n0 (fun r => some (.ret (F.bool r))) (fun x0 y0 x1 y1 lx ly hx hy x7 x8 => some (.cut (at_ Tryz.f82 6) (S82_6n0 x0 y0 x1 y1 lx ly hx hy x7 x8))) (fun x0 y0 x1 y1 lx ly hx hy x7 x8 => some (.cut (at_ Tryz.f82 6) (S82_6n1 x0 y0 x1 y1 lx ly hx hy x7 x8))) (fun x0 y0 x1 y1 lx ly hx hy x7 x8 => some (.cut (at_ Tryz.f82 6) (S82_6n2 x0 y0 x1 y1 lx ly hx hy x7 x8))) (fun x0 y0 x1 y1 lx ly hx hy x7 x8 => some (.cut (at_ Tryz.f82 6) (S82_6n3 x0 y0 x1 y1 lx ly hx hy x7 x8))) (fun x0 y0 x1 y1 lx ly hx hy x7 x8 => some (.cut (at_ Tryz.f82 6) (S82_6n4 x0 y0 x1 y1 lx ly hx hy x7 x8))) x0 y0 x1 y1 lx ly hx hy x7 x8 := by kernel_rfl
    rw [e]
    exact (good_sel h (fun _ h => good_cut (t82_6n1 k _ _ _ _ _ _ _ _ _ _ r h)) (fun _ h => (good_sel h (fun _ h => good_cut (t82_6n1 k _ _ _ _ _ _ _ _ _ _ r h)) (fun _ h => good_cut (t82_6n1 k _ _ _ _ _ _ _ _ _ _ r h)))))
theorem t82_6n1 : ∀ (k : Nat) (x0 : Int) (y0 : Int) (x1 : Int) (y1 : Int) (lx : Int) (ly : Int) (hx : Int) (hy : Int) (x7 : Int) (x8 : Int) (r : Bool), L82_6n1 k x0 y0 x1 y1 lx ly hx hy x7 x8 = some r → Ends Tryz.prog Tryz.f82.results.toList (at_ Tryz.f82 6) (S82_6n1 x0 y0 x1 y1 lx ly hx hy x7 x8) (F.bool r)
  | 0, _, _, _, _, _, _, _, _, _, _, _, h => nomatch h
  | k + 1, x0, y0, x1, y1, lx, ly, hx, hy, x7, x8, r, h => by
    refine Ends.of_cut tyOK envW2_ok (T := [(6, [3, 7, 8, 69, 70, 71], 4)]) (n := 600) ?_
    have e : runCut Tryz.prog (tiOf Tryz.prog) envW2 [(6, [3, 7, 8, 69, 70, 71], 4)] 0 Tryz.f82.results.toList some 600 (at_ Tryz.f82 6) (S82_6n1 x0 y0 x1 y1 lx ly hx hy x7 x8) = T82_6n1 (fun r => some (.ret (F.bool r))) (fun x0 y0 x1 y1 lx ly hx hy x7 x8 => some (.cut (at_ Tryz.f82 6) (S82_6n0 x0 y0 x1 y1 lx ly hx hy x7 x8))) (fun x0 y0 x1 y1 lx ly hx hy x7 x8 => some (.cut (at_ Tryz.f82 6) (S82_6n1 x0 y0 x1 y1 lx ly hx hy x7 x8))) (fun x0 y0 x1 y1 lx ly hx hy x7 x8 => some (.cut (at_ Tryz.f82 6) (S82_6n2 x0 y0 x1 y1 lx ly hx hy x7 x8))) (fun x0 y0 x1 y1 lx ly hx hy x7 x8 => some (.cut (at_ Tryz.f82 6) (S82_6n3 x0 y0 x1 y1 lx ly hx hy x7 x8))) (fun x0 y0 x1 y1 lx ly hx hy x7 x8 => some (.cut (at_ Tryz.f82 6) (S82_6n4 x0 y0 x1 y1 lx ly hx hy x7 x8))) x0 y0 x1 y1 lx ly hx hy x7 x8 := by kernel_rfl
    rw [e]
    exact (good_sel h (fun _ h => good_cut (t82_6n2 k _ _ _ _ _ _ _ _ _ _ r h)) (fun _ h => (good_sel h (fun _ h => good_cut (t82_6n2 k _ _ _ _ _ _ _ _ _ _ r h)) (fun _ h => good_cut (t82_6n2 k _ _ _ _ _ _ _ _ _ _ r h)))))
theorem t82_6n2 : ∀ (k : Nat) (x0 : Int) (y0 : Int) (x1 : Int) (y1 : Int) (lx : Int) (ly : Int) (hx : Int) (hy : Int) (x7 : Int) (x8 : Int) (r : Bool), L82_6n2 k x0 y0 x1 y1 lx ly hx hy x7 x8 = some r → Ends Tryz.prog Tryz.f82.results.toList (at_ Tryz.f82 6) (S82_6n2 x0 y0 x1 y1 lx ly hx hy x7 x8) (F.bool r)
  | 0, _, _, _, _, _, _, _, _, _, _, _, h => nomatch h
  | k + 1, x0, y0, x1, y1, lx, ly, hx, hy, x7, x8, r, h => by
    refine Ends.of_cut tyOK envW2_ok (T := [(6, [3, 7, 8, 69, 70, 71], 4)]) (n := 600) ?_
    have e : runCut Tryz.prog (tiOf Tryz.prog) envW2 [(6, [3, 7, 8, 69, 70, 71], 4)] 0 Tryz.f82.results.toList some 600 (at_ Tryz.f82 6) (S82_6n2 x0 y0 x1 y1 lx ly hx hy x7 x8) = T82_6n2 (fun r => some (.ret (F.bool r))) (fun x0 y0 x1 y1 lx ly hx hy x7 x8 => some (.cut (at_ Tryz.f82 6) (S82_6n0 x0 y0 x1 y1 lx ly hx hy x7 x8))) (fun x0 y0 x1 y1 lx ly hx hy x7 x8 => some (.cut (at_ Tryz.f82 6) (S82_6n1 x0 y0 x1 y1 lx ly hx hy x7 x8))) (fun x0 y0 x1 y1 lx ly hx hy x7 x8 => some (.cut (at_ Tryz.f82 6) (S82_6n2 x0 y0 x1 y1 lx ly hx hy x7 x8))) (fun x0 y0 x1 y1 lx ly hx hy x7 x8 => some (.cut (at_ Tryz.f82 6) (S82_6n3 x0 y0 x1 y1 lx ly hx hy x7 x8))) (fun x0 y0 x1 y1 lx ly hx hy x7 x8 => some (.cut (at_ Tryz.f82 6) (S82_6n4 x0 y0 x1 y1 lx ly hx hy x7 x8))) x0 y0 x1 y1 lx ly hx hy x7 x8 := by kernel_rfl
    rw [e]
    exact (good_sel h (fun _ h => good_cut (t82_6n3 k _ _ _ _ _ _ _ _ _ _ r h)) (fun _ h => (good_sel h (fun _ h => good_cut (t82_6n3 k _ _ _ _ _ _ _ _ _ _ r h)) (fun _ h => good_cut (t82_6n3 k _ _ _ _ _ _ _ _ _ _ r h)))))
theorem t82_6n3 : ∀ (k : Nat) (x0 : Int) (y0 : Int) (x1 : Int) (y1 : Int) (lx : Int) (ly : Int) (hx : Int) (hy : Int) (x7 : Int) (x8 : Int) (r : Bool), L82_6n3 k x0 y0 x1 y1 lx ly hx hy x7 x8 = some r → Ends Tryz.prog Tryz.f82.results.toList (at_ Tryz.f82 6) (S82_6n3 x0 y0 x1 y1 lx ly hx hy x7 x8) (F.bool r)
  | 0, _, _, _, _, _, _, _, _, _, _, _, h => nomatch h
  | k + 1, x0, y0, x1, y1, lx, ly, hx, hy, x7, x8, r, h => by
    refine Ends.of_cut tyOK envW2_ok (T := [(6, [3, 7, 8, 69, 70, 71], 4)]) (n := 600) ?_
    have e : runCut Tryz.prog (tiOf Tryz.prog) envW2 [(6, [3, 7, 8, 69, 70, 71], 4)] 0 Tryz.f82.results.toList some 600 (at_ Tryz.f82 6) (S82_6n3 x0 y0 x1 y1 lx ly hx hy x7 x8) = T82_6n3 (fun r => some (.ret (F.bool r))) (fun x0 y0 x1 y1 lx ly hx hy x7 x8 => some (.cut (at_ Tryz.f82 6) (S82_6n0 x0 y0 x1 y1 lx ly hx hy x7 x8))) (fun x0 y0 x1 y1 lx ly hx hy x7 x8 => some (.cut (at_ Tryz.f82 6) (S82_6n1 x0 y0 x1 y1 lx ly hx hy x7 x8))) (fun x0 y0 x1 y1 lx ly hx hy x7 x8 => some (.cut (at_ Tryz.f82 6) (S82_6n2 x0 y0 x1 y1 lx ly hx hy x7 x8))) (fun x0 y0 x1 y1 lx ly hx hy x7 x8 => some (.cut (at_ Tryz.f82 6) (S82_6n3 x0 y0 x1 y1 lx ly hx hy x7 x8))) (fun x0 y0 x1 y1 lx ly hx hy x7 x8 => some (.cut (at_ Tryz.f82 6) (S82_6n4 x0 y0 x1 y1 lx ly hx hy x7 x8))) x0 y0 x1 y1 lx ly hx hy x7 x8 := by kernel_rfl
    rw [e]
    exact (good_sel h (fun _ h => good_cut (t82_6n4 k _ _ _ _ _ _ _ _ _ _ r h)) (fun _ h => (good_sel h (fun _ h => good_cut (t82_6n4 k _ _ _ _ _ _ _ _ _ _ r h)) (fun _ h => good_cut (t82_6n4 k _ _ _ _ _ _ _ _ _ _ r h)))))
theorem t82_6n4 : ∀ (k : Nat) (x0 : Int) (y0 : Int) (x1 : Int) (y1 : Int) (lx : Int) (ly : Int) (hx : Int) (hy : Int) (x7 : Int) (x8 : Int) (r : Bool), L82_6n4 k x0 y0 x1 y1 lx ly hx hy x7 x8 = some r → Ends Tryz.prog Tryz.f82.results.toList (at_ Tryz.f82 6) (S82_6n4 x0 y0 x1 y1 lx ly hx hy x7 x8) (F.bool r)
  | 0, _, _, _, _, _, _, _, _, _, _, _, h => nomatch h
  | k + 1, x0, y0, x1, y1, lx, ly, hx, hy, x7, x8, r, h => by
    refine Ends.of_cut tyOK envW2_ok (T := [(6, [3, 7, 8, 69, 70, 71], 4)]) (n := 600) ?_
    have e : runCut Tryz.prog (tiOf Tryz.prog) envW2 [(6, [3, 7, 8, 69, 70, 71], 4)] 0 Tryz.f82.results.toList some 600 (at_ Tryz.f82 6) (S82_6n4 x0 y0 x1 y1 lx ly hx hy x7 x8) = T82_6n4 (fun r => some (.ret (F.bool r))) (fun x0 y0 x1 y1 lx ly hx hy x7 x8 => some (.cut (at_ Tryz.f82 6) (S82_6n0 x0 y0 x1 y1 lx ly hx hy x7 x8))) (fun x0 y0 x1 y1 lx ly hx hy x7 x8 => some (.cut (at_ Tryz.f82 6) (S82_6n1 x0 y0 x1 y1 lx ly hx hy x7 x8))) (fun x0 y0 x1 y1 lx ly hx hy x7 x8 => some (.cut (at_ Tryz.f82 6) (S82_6n2 x0 y0 x1 y1 lx ly hx hy x7 x8))) (fun x0 y0 x1 y1 lx ly hx hy x7 x8 => some (.cut (at_ Tryz.f82 6) (S82_6n3 x0 y0 x1 y1 lx ly hx hy x7 x8))) (fun x0 y0 x1 y1 lx ly hx hy x7 x8 => some (.cut (at_ Tryz.f82 6) (S82_6n4 x0 y0 x1 y1 lx ly hx hy x7 x8))) x0 y0 x1 y1 lx ly hx hy x7 x8 := by kernel_rfl
    rw [e]
    exact (good_sel h (fun _ h => good_ret (by cases h; rfl)) (fun _ h => good_ret (by cases h; rfl)))
end
theorem t82 (k : Nat) (x0 : Int) (y0 : Int) (x1 : Int) (y1 : Int) (lx : Int) (ly : Int) (hx : Int) (hy : Int) (r : Bool) (h : G82 k x0 y0 x1 y1 lx ly hx hy = some r) : Ends Tryz.prog Tryz.f82.results.toList [.code (bodyOf Tryz.f82)] (start Tryz.f82.ntmps ([F.agg [F.int .i64 x0, F.int .i64 y0, F.int .i64 x1, F.int .i64 y1], F.agg [F.int .i64 lx, F.int .i64 ly], F.agg [F.int .i64 hx, F.int .i64 hy]].map .f)) (F.bool r) := by
  refine Ends.of_run tyOK envW2_ok (T := [(6, [3, 7, 8, 69, 70, 71], 4)]) (n := 600) ?_
  have e : run Tryz.prog (tiOf Tryz.prog) envW2 [(6, [3, 7, 8, 69, 70, 71], 4)] 0 Tryz.f82.results.toList some 600 [.code (bodyOf Tryz.f82)] (start Tryz.f82.ntmps ([F.agg [F.int .i64 x0, F.int .i64 y0, F.int .i64 x1, F.int .i64 y1], F.agg [F.int .i64 lx, F.int .i64 ly], F.agg [F.int .i64 hx, F.int .i64 hy]].map .f)) = T82 (fun r => some (.ret (F.bool r))) (fun x0 y0 x1 y1 lx ly hx hy x7 x8 => some (.cut (at_ Tryz.f82 6) (S82_6n0 x0 y0 x1 y1 lx ly hx hy x7 x8))) (fun x0 y0 x1 y1 lx ly hx hy x7 x8 => some (.cut (at_ Tryz.f82 6) (S82_6n1 x0 y0 x1 y1 lx ly hx hy x7 x8))) (fun x0 y0 x1 y1 lx ly hx hy x7 x8 => some (.cut (at_ Tryz.f82 6) (S82_6n2 x0 y0 x1 y1 lx ly hx hy x7 x8))) (fun x0 y0 x1 y1 lx ly hx hy x7 x8 => some (.cut (at_ Tryz.f82 6) (S82_6n3 x0 y0 x1 y1 lx ly hx hy x7 x8))) (fun x0 y0 x1 y1 lx ly hx hy x7 x8 => some (.cut (at_ Tryz.f82 6) (S82_6n4 x0 y0 x1 y1 lx ly hx hy x7 x8))) x0 y0 x1 y1 lx ly hx hy := by kernel_rfl
  rw [e]
  exact (good_sel h (fun _ h => (good_sel h (fun _ h => (good_sel h (fun _ h => (good_sel h (fun _ h => (good_sel h (fun _ h => (good_sel h (fun _ h => good_ret (by cases h; rfl)) (fun _ h => good_cut (t82_6n0 k _ _ _ _ _ _ _ _ _ _ r h)))) (fun _ h => good_cut (t82_6n0 k _ _ _ _ _ _ _ _ _ _ r h)))) (fun _ h => good_ret (by cases h; rfl)))) (fun _ h => (good_sel h (fun _ h => (good_sel h (fun _ h => good_ret (by cases h; rfl)) (fun _ h => good_cut (t82_6n0 k _ _ _ _ _ _ _ _ _ _ r h)))) (fun _ h => good_cut (t82_6n0 k _ _ _ _ _ _ _ _ _ _ r h)))))) (fun _ h => good_ret (by cases h; rfl)))) (fun _ h => good_ret (by cases h; rfl)))
/-! ### function 85 -/
def S85_5o0 (x0 : Int) (y0 : Int) (x1 : Int) (y1 : Int) (lx : Int) (ly : Int) (hx : Int) (hy : Int) (x7 : Int) (x8 : Int) : St := ⟨[.bad, .bad, .bad, (U.hp 0 0), (U.hp 1 0), (U.hp 2 0), .bad, (U.f (F.int .i64 x7)), (U.f (F.int .i64 x8)), .bad, .bad, .bad, .bad, .bad, .bad, .bad, .bad, .bad, .bad, .bad, .bad, .bad, .bad, .bad, .bad, .bad, .bad, .bad, .bad, .bad, .bad, .bad, .bad, .bad, .bad, .bad, .bad, .bad, .bad, .bad, .bad, .bad, .bad, .bad, .bad, .bad, .bad, .bad, .bad, .bad, .bad, .bad, .bad, .bad, .bad, .bad, (U.hs 3 2 0 2), (U.f (F.int .i64 2)), (U.f (F.int .i64 0)), .bad, .bad, .bad, .bad, .bad, .bad, .bad, .bad, .bad, .bad, .bad, .bad, .bad, .bad, .bad, .bad, .bad, .bad, .bad, .bad, .bad, .bad, .bad, .bad, .bad, .bad, .bad, .bad, .bad, .bad, .bad, .bad, .bad, .bad, .bad, .bad], [HO.box [U.f (F.int .i64 x0), U.f (F.int .i64 y0), U.f (F.int .i64 x1), U.f (F.int .i64 y1)], HO.box [U.f (F.int .i64 lx), U.f (F.int .i64 ly)], HO.box [U.f (F.int .i64 hx), U.f (F.int .i64 hy)], HO.arr 1 2 (lget [F.int .i64 lx, F.int .i64 hx])]⟩
def S85_5o1 (x0 : Int) (y0 : Int) (x1 : Int) (y1 : Int) (lx : Int) (ly : Int) (hx : Int) (hy : Int) (x7 : Int) (x8 : Int) : St := ⟨[.bad, .bad, .bad, (U.hp 0 0), (U.hp 1 0), (U.hp 2 0), .bad, (U.f (F.int .i64 x7)), (U.f (F.int .i64 x8)), .bad, .bad, .bad, .bad, .bad, .bad, .bad, .bad, .bad, .bad, .bad, .bad, .bad, .bad, .bad, .bad, .bad, .bad, .bad, .bad, .bad, .bad, .bad, .bad, .bad, .bad, .bad, .bad, .bad, .bad, .bad, .bad, .bad, .bad, .bad, .bad, .bad, .bad, .bad, .bad, .bad, .bad, .bad, .bad, .bad, .bad, .bad, (U.hs 3 2 0 2), (U.f (F.int .i64 2)), (U.f (F.int .i64 1)), .bad, .bad, .bad, .bad, .bad, .bad, .bad, .bad, .bad, .bad, .bad, .bad, .bad, .bad, .bad, .bad, .bad, .bad, .bad, .bad, .bad, .bad, .bad, .bad, .bad, .bad, .bad, .bad, .bad, .bad, .bad, .bad, .bad, .bad, .bad, .bad], [HO.box [U.f (F.int .i64 x0), U.f (F.int .i64 y0), U.f (F.int .i64 x1), U.f (F.int .i64 y1)], HO.box [U.f (F.int .i64 lx), U.f (F.int .i64 ly)], HO.box [U.f (F.int .i64 hx), U.f (F.int .i64 hy)], HO.arr 1 2 (lget [F.int .i64 lx, F.int .i64 hx])]⟩
def S85_5o2 (x0 : Int) (y0 : Int) (x1 : Int) (y1 : Int) (lx : Int) (ly : Int) (hx : Int) (hy : Int) (x7 : Int) (x8 : Int) : St := ⟨[.bad, .bad, .bad, (U.hp 0 0), (U.hp 1 0), (U.hp 2 0), .bad, (U.f (F.int .i64 x7)), (U.f (F.int .i64 x8)), .bad, .bad, .bad, .bad, .bad, .bad, .bad, .bad, .bad, .bad, .bad, .bad, .bad, .bad, .bad, .bad, .bad, .bad, .bad, .bad, .bad, .bad, .bad, .bad, .bad, .bad, .bad, .bad, .bad, .bad, .bad, .bad, .bad, .bad, .bad, .bad, .bad, .bad, .bad, .bad, .bad, .bad, .bad, .bad, .bad, .bad, .bad, (U.hs 3 2 0 2), (U.f (F.int .i64 2)), (U.f (F.int .i64 2)), .bad, .bad, .bad, .bad, .bad, .bad, .bad, .bad, .bad, .bad, .bad, .bad, .bad, .bad, .bad, .bad, .bad, .bad, .bad, .bad, .bad, .bad, .bad, .bad, .bad, .bad, .bad, .bad, .bad, .bad, .bad, .bad, .bad, .bad, .bad, .bad], [HO.box [U.f (F.int .i64 x0), U.f (F.int .i64 y0), U.f (F.int .i64 x1), U.f (F.int .i64 y1)], HO.box [U.f (F.int .i64 lx), U.f (F.int .i64 ly)], HO.box [U.f (F.int .i64 hx), U.f (F.int .i64 hy)], HO.arr 1 2 (lget [F.int .i64 lx, F.int .i64 hx])]⟩
def S85_8n00 (x0 : Int) (y0 : Int) (x1 : Int) (y1 : Int) (lx : Int) (ly : Int) (hx : Int) (hy : Int) (x7 : Int) (x8 : Int) : St := ⟨[.bad, .bad, .bad, (U.hp 0 0), (U.hp 1 0), (U.hp 2 0), .bad, (U.f (F.int .i64 x7)), (U.f (F.int .i64 x8)), .bad, (U.f (F.int .i64 lx)), .bad, .bad, .bad, .bad, .bad, .bad, .bad, .bad, .bad, .bad, .bad, .bad, .bad, .bad, .bad, .bad, .bad, .bad, .bad, .bad, .bad, .bad, .bad, .bad, .bad, .bad, .bad, .bad, .bad, .bad, .bad, .bad, .bad, .bad, .bad, .bad, .bad, .bad, .bad, .bad, .bad, .bad, .bad, .bad, .bad, (U.hs 3 2 0 2), (U.f (F.int .i64 2)), (U.f (F.int .i64 0)), .bad, .bad, .bad, .bad, .bad, .bad, .bad, (U.hs 4 2 0 2), (U.f (F.int .i64 2)), (U.f (F.int .i64 0)), .bad, .bad, .bad, .bad, .bad, .bad, .bad, .bad, .bad, .bad, .bad, .bad, .bad, .bad, .bad, .bad, .bad, .bad, .bad, .bad, .bad, .bad, .bad, .bad, .bad, .bad], [HO.box [U.f (F.int .i64 x0), U.f (F.int .i64 y0), U.f (F.int .i64 x1), U.f (F.int .i64 y1)], HO.box [U.f (F.int .i64 lx), U.f (F.int .i64 ly)], HO.box [U.f (F.int .i64 hx), U.f (F.int .i64 hy)], HO.arr 1 2 (lget [F.int .i64 lx, F.int .i64 hx]), HO.arr 1 2 (lget [F.int .i64 ly, F.int .i64 hy])]⟩
def S85_8n01 (x0 : Int) (y0 : Int) (x1 : Int) (y1 : Int) (lx : Int) (ly : Int) (hx : Int) (hy : Int) (x7 : Int) (x8 : Int) : St := ⟨[.bad, .bad, .bad, (U.hp 0 0), (U.hp 1 0), (U.hp 2 0), .bad, (U.f (F.int .i64 x7)), (U.f (F.int .i64 x8)), .bad, (U.f (F.int .i64 lx)), .bad, .bad, .bad, .bad, .bad, .bad, .bad, .bad, .bad, .bad, .bad, .bad, .bad, .bad, .bad, .bad, .bad, .bad, .bad, .bad, .bad, .bad, .bad, .bad, .bad, .bad, .bad, .bad, .bad, .bad, .bad, .bad, .bad, .bad, .bad, .bad, .bad, .bad, .bad, .bad, .bad, .bad, .bad, .bad, .bad, (U.hs 3 2 0 2), (U.f (F.int .i64 2)), (U.f (F.int .i64 0)), .bad, .bad, .bad, .bad, .bad, .bad, .bad, (U.hs 4 2 0 2), (U.f (F.int .i64 2)), (U.f (F.int .i64 1)), .bad, .bad, .bad, .bad, .bad, .bad, .bad, .bad, .bad, .bad, .bad, .bad, .bad, .bad, .bad, .bad, .bad, .bad, .bad, .bad, .bad, .bad, .bad, .bad, .bad, .bad], [HO.box [U.f (F.int .i64 x0), U.f (F.int .i64 y0), U.f (F.int .i64 x1), U.f (F.int .i64 y1)], HO.box [U.f (F.int .i64 lx), U.f (F.int .i64 ly)], HO.box [U.f (F.int .i64 hx), U.f (F.int .i64 hy)], HO.arr 1 2 (lget [F.int .i64 lx, F.int .i64 hx]), HO.arr 1 2 (lget [F.int .i64 ly, F.int .i64 hy])]⟩
def S85_8n02 (x0 : Int) (y0 : Int) (x1 : Int) (y1 : Int) (lx : Int) (ly : Int) (hx : Int) (hy : Int) (x7 : Int) (x8 : Int) : St := ⟨[.bad, .bad, .bad, (U.hp 0 0), (U.hp 1 0), (U.hp 2 0), .bad, (U.f (F.int .i64 x7)), (U.f (F.int .i64 x8)), .bad, (U.f (F.int .i64 lx)), .bad, .bad, .bad, .bad, .bad, .bad, .bad, .bad, .bad, .bad, .bad, .bad, .bad, .bad, .bad, .bad, .bad, .bad, .bad, .bad, .bad, .bad, .bad, .bad, .bad, .bad, .bad, .bad, .bad, .bad, .bad, .bad, .bad, .bad, .bad, .bad, .bad, .bad, .bad, .bad, .bad, .bad, .bad, .bad, .bad, (U.hs 3 2 0 2), (U.f (F.int .i64 2)), (U.f (F.int .i64 0)), .bad, .bad, .bad, .bad, .bad, .bad, .bad, (U.hs 4 2 0 2), (U.f (F.int .i64 2)), (U.f (F.int .i64 2)), .bad, .bad, .bad, .bad, .bad, .bad, .bad, .bad, .bad, .bad, .bad, .bad, .bad, .bad, .bad, .bad, .bad, .bad, .bad, .bad, .bad, .bad, .bad, .bad, .bad, .bad], [HO.box [U.f (F.int .i64 x0), U.f (F.int .i64 y0), U.f (F.int .i64 x1), U.f (F.int .i64 y1)], HO.box [U.f (F.int .i64 lx), U.f (F.int .i64 ly)], HO.box [U.f (F.int .i64 hx), U.f (F.int .i64 hy)], HO.arr 1 2 (lget [F.int .i64 lx, F.int .i64 hx]), HO.arr 1 2 (lget [F.int .i64 ly, F.int .i64 hy])]⟩
def S85_8n10 (x0 : Int) (y0 : Int) (x1 : Int) (y1 : Int) (lx : Int) (ly : Int) (hx : Int) (hy : Int) (x7 : Int) (x8 : Int) : St := ⟨[.bad, .bad, .bad, (U.hp 0 0), (U.hp 1 0), (U.hp 2 0), .bad, (U.f (F.int .i64 x7)), (U.f (F.int .i64 x8)), .bad, (U.f (F.int .i64 hx)), .bad, .bad, .bad, .bad, .bad, .bad, .bad, .bad, .bad, .bad, .bad, .bad, .bad, .bad, .bad, .bad, .bad, .bad, .bad, .bad, .bad, .bad, .bad, .bad, .bad, .bad, .bad, .bad, .bad, .bad, .bad, .bad, .bad, .bad, .bad, .bad, .bad, .bad, .bad, .bad, .bad, .bad, .bad, .bad, .bad, (U.hs 3 2 0 2), (U.f (F.int .i64 2)), (U.f (F.int .i64 1)), .bad, .bad, .bad, .bad, .bad, .bad, .bad, (U.hs 4 2 0 2), (U.f (F.int .i64 2)), (U.f (F.int .i64 0)), .bad, .bad, .bad, .bad, .bad, .bad, .bad, .bad, .bad, .bad, .bad, .bad, .bad, .bad, .bad, .bad, .bad, .bad, .bad, .bad, .bad, .bad, .bad, .bad, .bad, .bad], [HO.box [U.f (F.int .i64 x0), U.f (F.int .i64 y0), U.f (F.int .i64 x1), U.f (F.int .i64 y1)], HO.box [U.f (F.int .i64 lx), U.f (F.int .i64 ly)], HO.box [U.f (F.int .i64 hx), U.f (F.int .i64 hy)], HO.arr 1 2 (lget [F.int .i64 lx, F.int .i64 hx]), HO.arr 1 2 (lget [F.int .i64 ly, F.int .i64 hy])]⟩
def S85_8n11 (x0 : Int) (y0 : Int) (x1 : Int) (y1 : Int) (lx : Int) (ly : Int) (hx : Int) (hy : Int) (x7 : Int) (x8 : Int) : St := ⟨[.bad, .bad, .bad, (U.hp 0 0), (U.hp 1 0), (U.hp 2 0), .bad, (U.f (F.int .i64 x7)), (U.f (F.int .i64 x8)), .bad, (U.f (F.int .i64 hx)), .bad, .bad, .bad, .bad, .bad, .bad, .bad, .bad, .bad, .bad, .bad, .bad, .bad, .bad, .bad, .bad, .bad, .bad, .bad, .bad, .bad, .bad, .bad, .bad, .bad, .bad, .bad, .bad, .bad, .bad, .bad, .bad, .bad, .bad, .bad, .bad, .bad, .bad, .bad, .bad, .bad, .bad, .bad, .bad, .bad, (U.hs 3 2 0 2), (U.f (F.int .i64 2)), (U.f (F.int .i64 1)), .bad, .bad, .bad, .bad, .bad, .bad, .bad, (U.hs 4 2 0 2), (U.f (F.int .i64 2)), (U.f (F.int .i64 1)), .bad, .bad, .bad, .bad, .bad, .bad, .bad, .bad, .bad, .bad, .bad, .bad, .bad, .bad, .bad, .bad, .bad, .bad, .bad, .bad, .bad, .bad, .bad, .bad, .bad, .bad], [HO.box [U.f (F.int .i64 x0), U.f (F.int .i64 y0), U.f (F.int .i64 x1), U.f (F.int .i64 y1)], HO.box [U.f (F.int .i64 lx), U.f (F.int .i64 ly)], HO.box [U.f (F.int .i64 hx), U.f (F.int .i64 hy)], HO.arr 1 2 (lget [F.int .i64 lx, F.int .i64 hx]), HO.arr 1 2 (lget [F.int .i64 ly, F.int .i64 hy])]⟩
def S85_8n12 (x0 : Int) (y0 : Int) (x1 : Int) (y1 : Int) (lx : Int) (ly : Int) (hx : Int) (hy : Int) (x7 : Int) (x8 : Int) : St := ⟨[.bad, .bad, .bad, (U.hp 0 0), (U.hp 1 0), (U.hp 2 0), .bad, (U.f (F.int .i64 x7)), (U.f (F.int .i64 x8)), .bad, (U.f (F.int .i64 hx)), .bad, .bad, .bad, .bad, .bad, .bad, .bad, .bad, .bad, .bad, .bad, .bad, .bad, .bad, .bad, .bad, .bad, .bad, .bad, .bad, .bad, .bad, .bad, .bad, .bad, .bad, .bad, .bad, .bad, .bad, .bad, .bad, .bad, .bad, .bad, .bad, .bad, .bad, .bad, .bad, .bad, .bad, .bad, .bad, .bad, (U.hs 3 2 0 2), (U.f (F.int .i64 2)), (U.f (F.int .i64 1)), .bad, .bad, .bad, .bad, .bad, .bad, .bad, (U.hs 4 2 0 2), (U.f (F.int .i64 2)), (U.f (F.int .i64 2)), .bad, .bad, .bad, .bad, .bad, .bad, .bad, .bad, .bad, .bad, .bad, .bad, .bad, .bad, .bad, .bad, .bad, .bad, .bad, .bad, .bad, .bad, .bad, .bad, .bad, .bad], [HO.box [U.f (F.int .i64 x0), U.f (F.int .i64 y0), U.f (F.int .i64 x1), U.f (F.int .i64 y1)], HO.box [U.f (F.int .i64 lx), U.f (F.int .i64 ly)], HO.box [U.f (F.int .i64 hx), U.f (F.int .i64 hy)], HO.arr 1 2 (lget [F.int .i64 lx, F.int .i64 hx]), HO.arr 1 2 (lget [F.int .i64 ly, F.int .i64 hy])]⟩
def T85_5o0 {ρ : Type} (ret : (Bool) → Option ρ) (c5o0 : (Int) → (Int) → (Int) → (Int) → (Int) → (Int) → (Int) → (Int) → (Int) → (Int) → Option ρ) (c5o1 : (Int) → (Int) → (Int) → (Int) → (Int) → (Int) → (Int) → (Int) → (Int) → (Int) → Option ρ) (c5o2 : (Int) → (Int) → (Int) → (Int) → (Int) → (Int) → (Int) → (Int) → (Int) → (Int) → Option ρ) (c8n00 : (Int) → (Int) → (Int) → (Int) → (Int) → (Int) → (Int) → (Int) → (Int) → (Int) → Option ρ) (c8n01 : (Int) → (Int) → (Int) → (Int) → (Int) → (Int) → (Int) → (Int) → (Int) → (Int) → Option ρ) (c8n02 : (Int) → (Int) → (Int) → (Int) → (Int) → (Int) → (Int) → (Int) → (Int) → (Int) → Option ρ) (c8n10 : (Int) → (Int) → (Int) → (Int) → (Int) → (Int) → (Int) → (Int) → (Int) → (Int) → Option ρ) (c8n11 : (Int) → (Int) → (Int) → (Int) → (Int) → (Int) → (Int) → (Int) → (Int) → (Int) → Option ρ) (c8n12 : (Int) → (Int) → (Int) → (Int) → (Int) → (Int) → (Int) → (Int) → (Int) → (Int) → Option ρ) (x0 : Int) (y0 : Int) (x1 : Int) (y1 : Int) (lx : Int) (ly : Int) (hx : Int) (hy : Int) (x7 : Int) (x8 : Int) : Option ρ :=
 (c8n00 (x0) (y0) (x1) (y1) (lx) (ly) (hx) (hy) (x7) (x8))
def T85_5o1 {ρ : Type} (ret : (Bool) → Option ρ) (c5o0 : (Int) → (Int) → (Int) → (Int) → (Int) → (Int) → (Int) → (Int) → (Int) → (Int) → Option ρ) (c5o1 : (Int) → (Int) → (Int) → (Int) → (Int) → (Int) → (Int) → (Int) → (Int) → (Int) → Option ρ) (c5o2 : (Int) → (Int) → (Int) → (Int) → (Int) → (Int) → (Int) → (Int) → (Int) → (Int) → Option ρ) (c8n00 : (Int) → (Int) → (Int) → (Int) → (Int) → (Int) → (Int) → (Int) → (Int) → (Int) → Option ρ) (c8n01 : (Int) → (Int) → (Int) → (Int) → (Int) → (Int) → (Int) → (Int) → (Int) → (Int) → Option ρ) (c8n02 : (Int) → (Int) → (Int) → (Int) → (Int) → (Int) → (Int) → (Int) → (Int) → (Int) → Option ρ) (c8n10 : (Int) → (Int) → (Int) → (Int) → (Int) → (Int) → (Int) → (Int) → (Int) → (Int) → Option ρ) (c8n11 : (Int) → (Int) → (Int) → (Int) → (Int) → (Int) → (Int) → (Int) → (Int) → (Int) → Option ρ) (c8n12 : (Int) → (Int) → (Int) → (Int) → (Int) → (Int) → (Int) → (Int) → (Int) → (Int) → Option ρ) (x0 : Int) (y0 : Int) (x1 : Int) (y1 : Int) (lx : Int) (ly : Int) (hx : Int) (hy : Int) (x7 : Int) (x8 : Int) : Option ρ :=
 (c8n10 (x0) (y0) (x1) (y1) (lx) (ly) (hx) (hy) (x7) (x8))
def T85_5o2 {ρ : Type} (ret : (Bool) → Option ρ) (c5o0 : (Int) → (Int) → (Int) → (Int) → (Int) → (Int) → (Int) → (Int) → (Int) → (Int) → Option ρ) (c5o1 : (Int) → (Int) → (Int) → (Int) → (Int) → (Int) → (Int) → (Int) → (Int) → (Int) → Option ρ) (c5o2 : (Int) → (Int) → (Int) → (Int) → (Int) → (Int) → (Int) → (Int) → (Int) → (Int) → Option ρ) (c8n00 : (Int) → (Int) → (Int) → (Int) → (Int) → (Int) → (Int) → (Int) → (Int) → (Int) → Option ρ) (c8n01 : (Int) → (Int) → (Int) → (Int) → (Int) → (Int) → (Int) → (Int) → (Int) → (Int) → Option ρ) (c8n02 : (Int) → (Int) → (Int) → (Int) → (Int) → (Int) → (Int) → (Int) → (Int) → (Int) → Option ρ) (c8n10 : (Int) → (Int) → (Int) → (Int) → (Int) → (Int) → (Int) → (Int) → (Int) → (Int) → Option ρ) (c8n11 : (Int) → (Int) → (Int) → (Int) → (Int) → (Int) → (Int) → (Int) → (Int) → (Int) → Option ρ) (c8n12 : (Int) → (Int) → (Int) → (Int) → (Int) → (Int) → (Int) → (Int) → (Int) → (Int) → Option ρ) (x0 : Int) (y0 : Int) (x1 : Int) (y1 : Int) (lx : Int) (ly : Int) (hx : Int) (hy : Int) (x7 : Int) (x8 : Int) : Option ρ :=
 (bsel (decide (x7 ≤ 0) == true)
 (ret (decide (x8 ≥ 0)))
 (ret (false)))
def T85_8n00 {ρ : Type} (ret : (Bool) → Option ρ) (c5o0 : (Int) → (Int) → (Int) → (Int) → (Int) → (Int) → (Int) → (Int) → (Int) → (Int) → Option ρ) (c5o1 : (Int) → (Int) → (Int) → (Int) → (Int) → (Int) → (Int) → (Int) → (Int) → (Int) → Option ρ) (c5o2 : (Int) → (Int) → (Int) → (Int) → (Int) → (Int) → (Int) → (Int) → (Int) → (Int) → Option ρ) (c8n00 : (Int) → (Int) → (Int) → (Int) → (Int) → (Int) → (Int) → (Int) → (Int) → (Int) → Option ρ) (c8n01 : (Int) → (Int) → (Int) → (Int) → (Int) → (Int) → (Int) → (Int) → (Int) → (Int) → Option ρ) (c8n02 : (Int) → (Int) → (Int) → (Int) → (Int) → (Int) → (Int) → (Int) → (Int) → (Int) → Option ρ) (c8n10 : (Int) → (Int) → (Int) → (Int) → (Int) → (Int) → (Int) → (Int) → (Int) → (Int) → Option ρ) (c8n11 : (Int) → (Int) → (Int) → (Int) → (Int) → (Int) → (Int) → (Int) → (Int) → (Int) → Option ρ) (c8n12 : (Int) → (Int) → (Int) → (Int) → (Int) → (Int) → (Int) → (Int) → (Int) → (Int) → Option ρ) (x0 : Int) (y0 : Int) (x1 : Int) (y1 : Int) (lx : Int) (ly : Int) (hx : Int) (hy : Int) (x7 : Int) (x8 : Int) : Option ρ :=
 (c8n01 (x0) (y0) (x1) (y1) (lx) (ly) (hx) (hy) (if false = true then if signV (crossW x0 y0 x1 y1 lx ly) > x7 then signV (crossW x0 y0 x1 y1 lx ly) else x7 else if signV (crossW x0 y0 x1 y1 lx ly) < x7 then signV (crossW x0 y0 x1 y1 lx ly) else x7) (if true = true then if signV (crossW x0 y0 x1 y1 lx ly) > x8 then signV (crossW x0 y0 x1 y1 lx ly) else x8 else if signV (crossW x0 y0 x1 y1 lx ly) < x8 then signV (crossW x0 y0 x1 y1 lx ly) else x8))
def T85_8n01 {ρ : Type} (ret : (Bool) → Option ρ) (c5o0 : (Int) → (Int) → (Int) → (Int) → (Int) → (Int) → (Int) → (Int) → (Int) → (Int) → Option ρ) (c5o1 : (Int) → (Int) → (Int) → (Int) → (Int) → (Int) → (Int) → (Int) → (Int) → (Int) → Option ρ) (c5o2 : (Int) → (Int) → (Int) → (Int) → (Int) → (Int) → (Int) → (Int) → (Int) → (Int) → Option ρ) (c8n00 : (Int) → (Int) → (Int) → (Int) → (Int) → (Int) → (Int) → (Int) → (Int) → (Int) → Option ρ) (c8n01 : (Int) → (Int) → (Int) → (Int) → (Int) → (Int) → (Int) → (Int) → (Int) → (Int) → Option ρ) (c8n02 : (Int) → (Int) → (Int) → (Int) → (Int) → (Int) → (Int) → (Int) → (Int) → (Int) → Option ρ) (c8n10 : (Int) → (Int) → (Int) → (Int) → (Int) → (Int) → (Int) → (Int) → (Int) → (Int) → Option ρ) (c8n11 : (Int) → (Int) → (Int) → (Int) → (Int) → (Int) → (Int) → (Int) → (Int) → (Int) → Option ρ) (c8n12 : (Int) → (Int) → (Int) → (Int) → (Int) → (Int) → (Int) → (Int) → (Int) → (Int) → Option ρ) (x0 : Int) (y0 : Int) (x1 : Int) (y1 : Int) (lx : Int) (ly : Int) (hx : Int) (hy : Int) (x7 : Int) (x8 : Int) : Option ρ :=
 (c8n02 (x0) (y0) (x1) (y1) (lx) (ly) (hx) (hy) (if false = true then if signV (crossW x0 y0 x1 y1 lx hy) > x7 then signV (crossW x0 y0 x1 y1 lx hy) else x7 else if signV (crossW x0 y0 x1 y1 lx hy) < x7 then signV (crossW x0 y0 x1 y1 lx hy) else x7) (if true = true then if signV (crossW x0 y0 x1 y1 lx hy) > x8 then signV (crossW x0 y0 x1 y1 lx hy) else x8 else if signV (crossW x0 y0 x1 y1 lx hy) < x8 then signV (crossW x0 y0 x1 y1 lx hy) else x8))
def T85_8n02 {ρ : Type} (ret : (Bool) → Option ρ) (c5o0 : (Int) → (Int) → (Int) → (Int) → (Int) → (Int) → (Int) → (Int) → (Int) → (Int) → Option ρ) (c5o1 : (Int) → (Int) → (Int) → (Int) → (Int) → (Int) → (Int) → (Int) → (Int) → (Int) → Option ρ) (c5o2 : (Int) → (Int) → (Int) → (Int) → (Int) → (Int) → (Int) → (Int) → (Int) → (Int) → Option ρ) (c8n00 : (Int) → (Int) → (Int) → (Int) → (Int) → (Int) → (Int) → (Int) → (Int) → (Int) → Option ρ) (c8n01 : (Int) → (Int) → (Int) → (Int) → (Int) → (Int) → (Int) → (Int) → (Int) → (Int) → Option ρ) (c8n02 : (Int) → (Int) → (Int) → (Int) → (Int) → (Int) → (Int) → (Int) → (Int) → (Int) → Option ρ) (c8n10 : (Int) → (Int) → (Int) → (Int) → (Int) → (Int) → (Int) → (Int) → (Int) → (Int) → Option ρ) (c8n11 : (Int) → (Int) → (Int) → (Int) → (Int) → (Int) → (Int) → (Int) → (Int) → (Int) → Option ρ) (c8n12 : (Int) → (Int) → (Int) → (Int) → (Int) → (Int) → (Int) → (Int) → (Int) → (Int) → Option ρ) (x0 : Int) (y0 : Int) (x1 : Int) (y1 : Int) (lx : Int) (ly : Int) (hx : Int) (hy : Int) (x7 : Int) (x8 : Int) : Option ρ :=
 (c5o1 (x0) (y0) (x1) (y1) (lx) (ly) (hx) (hy) (x7) (x8))
def T85_8n10 {ρ : Type} (ret : (Bool) → Option ρ) (c5o0 : (Int) → (Int) → (Int) → (Int) → (Int) → (Int) → (Int) → (Int) → (Int) → (Int) → Option ρ) (c5o1 : (Int) → (Int) → (Int) → (Int) → (Int) → (Int) → (Int) → (Int) → (Int) → (Int) → Option ρ) (c5o2 : (Int) → (Int) → (Int) → (Int) → (Int) → (Int) → (Int) → (Int) → (Int) → (Int) → Option ρ) (c8n00 : (Int) → (Int) → (Int) → (Int) → (Int) → (Int) → (Int) → (Int) → (Int) → (Int) → Option ρ) (c8n01 : (Int) → (Int) → (Int) → (Int) → (Int) → (Int) → (Int) → (Int) → (Int) → (Int) → Option ρ) (c8n02 : (Int) → (Int) → (Int) → (Int) → (Int) → (Int) → (Int) → (Int) → (Int) → (Int) → Option ρ) (c8n10 : (Int) → (Int) → (Int) → (Int) → (Int) → (Int) → (Int) → (Int) → (Int) → (Int) → Option ρ) (c8n11 : (Int) → (Int) → (Int) → (Int) → (Int) → (Int) → (Int) → (Int) → (Int) → (Int) → Option ρ) (c8n12 : (Int) → (Int) → (Int) → (Int) → (Int) → (Int) → (Int) → (Int) → (Int) → (Int) → Option ρ) (x0 : Int) (y0 : Int) (x1 : Int) (y1 : Int) (lx : Int) (ly : Int) (hx : Int) (hy : Int) (x7 : Int) (x8 : Int) : Option ρ :=
 (c8n11 (x0) (y0) (x1) (y1) (lx) (ly) (hx) (hy) (if false = true then if signV (crossW x0 y0 x1 y1 hx ly) > x7 then signV (crossW x0 y0 x1 y1 hx ly) else x7 else if signV (crossW x0 y0 x1 y1 hx ly) < x7 then signV (crossW x0 y0 x1 y1 hx ly) else x7) (if true = true then if signV (crossW x0 y0 x1 y1 hx ly) > x8 then signV (crossW x0 y0 x1 y1 hx ly) else x8 else if signV (crossW x0 y0 x1 y1 hx ly) < x8 then signV (crossW x0 y0 x1 y1 hx ly) else x8))
def T85_8n11 {ρ : Type} (ret : (Bool) → Option ρ) (c5o0 : (Int) → (Int) → (Int) → (Int) → (Int) → (Int) → (Int) → (Int) → (Int) → (Int) → Option ρ) (c5o1 : (Int) → (Int) → (Int) → (Int) → (Int) → (Int) → (Int) → (Int) → (Int) → (Int) → Option ρ) (c5o2 : (Int) → (Int) → (Int) → (Int) → (Int) → (Int) → (Int) → (Int) → (Int) → (Int) → Option ρ) (c8n00 : (Int) → (Int) → (Int) → (Int) → (Int) → (Int) → (Int) → (Int) → (Int) → (Int) → Option ρ) (c8n01 : (Int) → (Int) → (Int) → (Int) → (Int) → (Int) → (Int) → (Int) → (Int) → (Int) → Option ρ) (c8n02 : (Int) → (Int) → (Int) → (Int) → (Int) → (Int) → (Int) → (Int) → (Int) → (Int) → Option ρ) (c8n10 : (Int) → (Int) → (Int) → (Int) → (Int) → (Int) → (Int) → (Int) → (Int) → (Int) → Option ρ) (c8n11 : (Int) → (Int) → (Int) → (Int) → (Int) → (Int) → (Int) → (Int) → (Int) → (Int) → Option ρ) (c8n12 : (Int) → (Int) → (Int) → (Int) → (Int) → (Int) → (Int) → (Int) → (Int) → (Int) → Option ρ) (x0 : Int) (y0 : Int) (x1 : Int) (y1 : Int) (lx : Int) (ly : Int) (hx : Int) (hy : Int) (x7 : Int) (x8 : Int) : Option ρ :=
 (c8n12 (x0) (y0) (x1) (y1) (lx) (ly) (hx) (hy) (if false = true then if signV (crossW x0 y0 x1 y1 hx hy) > x7 then signV (crossW x0 y0 x1 y1 hx hy) else x7 else if signV (crossW x0 y0 x1 y1 hx hy) < x7 then signV (crossW x0 y0 x1 y1 hx hy) else x7) (if true = true then if signV (crossW x0 y0 x1 y1 hx hy) > x8 then signV (crossW x0 y0 x1 y1 hx hy) else x8 else if signV (crossW x0 y0 x1 y1 hx hy) < x8 then signV (crossW x0 y0 x1 y1 hx hy) else x8))
def T85_8n12 {ρ : Type} (ret : (Bool) → Option ρ) (c5o0 : (Int) → (Int) → (Int) → (Int) → (Int) → (Int) → (Int) → (Int) → (Int) → (Int) → Option ρ) (c5o1 : (Int) → (Int) → (Int) → (Int) → (Int) → (Int) → (Int) → (Int) → (Int) → (Int) → Option ρ) (c5o2 : (Int) → (Int) → (Int) → (Int) → (Int) → (Int) → (Int) → (Int) → (Int) → (Int) → Option ρ) (c8n00 : (Int) → (Int) → (Int) → (Int) → (Int) → (Int) → (Int) → (Int) → (Int) → (Int) → Option ρ) (c8n01 : (Int) → (Int) → (Int) → (Int) → (Int) → (Int) → (Int) → (Int) → (Int) → (Int) → Option ρ) (c8n02 : (Int) → (Int) → (Int) → (Int) → (Int) → (Int) → (Int) → (Int) → (Int) → (Int) → Option ρ) (c8n10 : (Int) → (Int) → (Int) → (Int) → (Int) → (Int) → (Int) → (Int) → (Int) → (Int) → Option ρ) (c8n11 : (Int) → (Int) → (Int) → (Int) → (Int) → (Int) → (Int) → (Int) → (Int) → (Int) → Option ρ) (c8n12 : (Int) → (Int) → (Int) → (Int) → (Int) → (Int) → (Int) → (Int) → (Int) → (Int) → Option ρ) (x0 : Int) (y0 : Int) (x1 : Int) (y1 : Int) (lx : Int) (ly : Int) (hx : Int) (hy : Int) (x7 : Int) (x8 : Int) : Option ρ :=
 (c5o2 (x0) (y0) (x1) (y1) (lx) (ly) (hx) (hy) (x7) (x8))
mutual
def L85_5o0 : Nat → (Int) → (Int) → (Int) → (Int) → (Int) → (Int) → (Int) → (Int) → (Int) → (Int) → Option (Bool)
  | 0, _, _, _, _, _, _, _, _, _, _ => none
  | k + 1, x0, y0, x1, y1, lx, ly, hx, hy, x7, x8 => T85_5o0 some (L85_5o0 k) (L85_5o1 k) (L85_5o2 k) (L85_8n00 k) (L85_8n01 k) (L85_8n02 k) (L85_8n10 k) (L85_8n11 k) (L85_8n12 k) x0 y0 x1 y1 lx ly hx hy x7 x8
def L85_5o1 : Nat → (Int) → (Int) → (Int) → (Int) → (Int) → (Int) → (Int) → (Int) → (Int) → (Int) → Option (Bool)
  | 0, _, _, _, _, _, _, _, _, _, _ => none
  | k + 1, x0, y0, x1, y1, lx, ly, hx, hy, x7, x8 => T85_5o1 some (L85_5o0 k) (L85_5o1 k) (L85_5o2 k) (L85_8n00 k) (L85_8n01 k) (L85_8n02 k) (L85_8n10 k) (L85_8n11 k) (L85_8n12 k) x0 y0 x1 y1 lx ly hx hy x7 x8
def L85_5o2 : Nat → (Int) → (Int) → (Int) → (Int) → (Int) → (Int) → (Int) → (Int) → (Int) → (Int) → Option (Bool)
  | 0, _, _, _, _, _, _, _, _, _, _ => none
  | k + 1, x0, y0, x1, y1, lx, ly, hx, hy, x7, x8 => T85_5o2 some (L85_5o0 k) (L85_5o1 k) (L85_5o2 k) (L85_8n00 k) (L85_8n01 k) (L85_8n02 k) (L85_8n10 k) (L85_8n11 k) (L85_8n12 k) x0 y0 x1 y1 lx ly hx hy x7 x8
def L85_8n00 : Nat → (Int) → (Int) → (Int) → (Int) → (Int) → (Int) → (Int) → (Int) → (Int) → (Int) → Option (Bool)
  | 0, _, _, _, _, _, _, _, _, _, _ => none
  | k + 1, x0, y0, x1, y1, lx, ly, hx, hy, x7, x8 => T85_8n00 some (L85_5o0 k) (L85_5o1 k) (L85_5o2 k) (L85_8n00 k) (L85_8n01 k) (L85_8n02 k) (L85_8n10 k) (L85_8n11 k) (L85_8n12 k) x0 y0 x1 y1 lx ly hx hy x7 x8
def L85_8n01 : Nat → (Int) → (Int) → (Int) → (Int) → (Int) → (Int) → (Int) → (Int) → (Int) → (Int) → Option (Bool)
  | 0, _, _, _, _, _, _, _, _, _, _ => none
  | k + 1, x0, y0, x1, y1, lx, ly, hx, hy, x7, x8 => T85_8n01 some (L85_5o0 k) (L85_5o1 k) (L85_5o2 k) (L85_8n00 k) (L85_8n01 k) (L85_8n02 k) (L85_8n10 k) (L85_8n11 k) (L85_8n12 k) x0 y0 x1 y1 lx ly hx hy x7 x8
def L85_8n02 : Nat → (Int) → (Int) → (Int) → (Int) → (Int) → (Int) → (Int) → (Int) → (Int) → (Int) → Option (Bool)
  | 0, _, _, _, _, _, _, _, _, _, _ => none
  | k + 1, x0, y0, x1, y1, lx, ly, hx, hy, x7, x8 => T85_8n02 some (L85_5o0 k) (L85_5o1 k) (L85_5o2 k) (L85_8n00 k) (L85_8n01 k) (L85_8n02 k) (L85_8n10 k) (L85_8n11 k) (L85_8n12 k) x0 y0 x1 y1 lx ly hx hy x7 x8
def L85_8n10 : Nat → (Int) → (Int) → (Int) → (Int) → (Int) → (Int) → (Int) → (Int) → (Int) → (Int) → Option (Bool)
  | 0, _, _, _, _, _, _, _, _, _, _ => none
  | k + 1, x0, y0, x1, y1, lx, ly, hx, hy, x7, x8 => T85_8n10 some (L85_5o0 k) (L85_5o1 k) (L85_5o2 k) (L85_8n00 k) (L85_8n01 k) (L85_8n02 k) (L85_8n10 k) (L85_8n11 k) (L85_8n12 k) x0 y0 x1 y1 lx ly hx hy x7 x8
def L85_8n11 : Nat → (Int) → (Int) → (Int) → (Int) → (Int) → (Int) → (Int) → (Int) → (Int) → (Int) → Option (Bool)
  | 0, _, _, _, _, _, _, _, _, _, _ => none
  | k + 1, x0, y0, x1, y1, lx, ly, hx, hy, x7, x8 => T85_8n11 some (L85_5o0 k) (L85_5o1 k) (L85_5o2 k) (L85_8n00 k) (L85_8n01 k) (L85_8n02 k) (L85_8n10 k) (L85_8n11 k) (L85_8n12 k) x0 y0 x1 y1 lx ly hx hy x7 x8
def L85_8n12 : Nat → (Int) → (Int) → (Int) → (Int) → (Int) → (Int) → (Int) → (Int) → (Int) → (Int) → Option (Bool)
  | 0, _, _, _, _, _, _, _, _, _, _ => none
  | k + 1, x0, y0, x1, y1, lx, ly, hx, hy, x7, x8 => T85_8n12 some (L85_5o0 k) (L85_5o1 k) (L85_5o2 k) (L85_8n00 k) (L85_8n01 k) (L85_8n02 k) (L85_8n10 k) (L85_8n11 k) (L85_8n12 k) x0 y0 x1 y1 lx ly hx hy x7 x8
end
def T85 {ρ : Type} (ret : (Bool) → Option ρ) (c5o0 : (Int) → (Int) → (Int) → (Int) → (Int) → (Int) → (Int) → (Int) → (Int) → (Int) → Option ρ) (c5o1 : (Int) → (Int) → (Int) → (Int) → (Int) → (Int) → (Int) → (Int) → (Int) → (Int) → Option ρ) (c5o2 : (Int) → (Int) → (Int) → (Int) → (Int) → (Int) → (Int) → (Int) → (Int) → (Int) → Option ρ) (c8n00 : (Int) → (Int) → (Int) → (Int) → (Int) → (Int) → (Int) → (Int) → (Int) → (Int) → Option ρ) (c8n01 : (Int) → (Int) → (Int) → (Int) → (Int) → (Int) → (Int) → (Int) → (Int) → (Int) → Option ρ) (c8n02 : (Int) → (Int) → (Int) → (Int) → (Int) → (Int) → (Int) → (Int) → (Int) → (Int) → Option ρ) (c8n10 : (Int) → (Int) → (Int) → (Int) → (Int) → (Int) → (Int) → (Int) → (Int) → (Int) → Option ρ) (c8n11 : (Int) → (Int) → (Int) → (Int) → (Int) → (Int) → (Int) → (Int) → (Int) → (Int) → Option ρ) (c8n12 : (Int) → (Int) → (Int) → (Int) → (Int) → (Int) → (Int) → (Int) → (Int) → (Int) → Option ρ) (x0 : Int) (y0 : Int) (x1 : Int) (y1 : Int) (lx : Int) (ly : Int) (hx : Int) (hy : Int) : Option ρ :=
 (bsel (decide (x1 < lx) == false)
 (bsel (decide (x0 > hx) == false)
 (bsel (decide ((if true = true then if y1 > y0 then y1 else y0 else if y1 < y0 then y1 else y0) < ly) == false)
 (bsel (decide ((if false = true then if y1 > y0 then y1 else y0 else if y1 < y0 then y1 else y0) > hy))
 (ret (false))
 (c5o0 (x0) (y0) (x1) (y1) (lx) (ly) (hx) (hy) (1) (-1)))
 (ret (false)))
 (ret (false)))
 (ret (false)))
def G85 (k : Nat) (x0 : Int) (y0 : Int) (x1 : Int) (y1 : Int) (lx : Int) (ly : Int) (hx : Int) (hy : Int) : Option (Bool) := T85 some (L85_5o0 k) (L85_5o1 k) (L85_5o2 k) (L85_8n00 k) (L85_8n01 k) (L85_8n02 k) (L85_8n10 k) (L85_8n11 k) (L85_8n12 k) x0 y0 x1 y1 lx ly hx hy
mutual
theorem t85_5o0 : ∀ (k : Nat) (x0 : Int) (y0 : Int) (x1 : Int) (y1 : Int) (lx : Int) (ly : Int) (hx : Int) (hy : Int) (x7 : Int) (x8 : Int) (r : Bool), L85_5o0 k x0 y0 x1 y1 lx ly hx hy x7 x8 = some r → Ends Tryz.prog Tryz.f85.results.toList (at_ Tryz.f85 5) (S85_5o0 x0 y0 x1 y1 lx ly hx hy x7 x8) (F.bool r)
  | 0, _, _, _, _, _, _, _, _, _, _, _, h => nomatch h
  | k + 1, x0, y0, x1, y1, lx, ly, hx, hy, x7, x8, r, h => by
    refine Ends.of_cut tyOK envW2_ok (T := [(5, [3, 4, 5, 7, 8, 56, 57, 58], 4), (8, [3, 4, 5, 7, 8, 10, 56, 57, 58, 66, 67, 68], 5)]) (n := 600) ?_
    have e : runCut Tryz.prog (tiOf Tryz.prog) envW2 [(5, [3, 4, 5, 7, 8, 56, 57, 58], 4), (8, [3, 4, 5, 7, 8, 10, 56, 57, 58, 66, 67, 68], 5)] 0 Tryz.f85.results.toList some 600 (at_ Tryz.f85 5) (S85_5o0 x0 y0 x1 y1 lx ly hx hy x7 x8) = T85_5o0 (fun r => some (.ret (F.bool r))) (fun x0 y0 x1 y1 lx ly hx hy x7 x8 => some (.cut (at_ Tryz.f85 5) (S85_5o0 x0 y0 x1 y1 lx ly hx hy x7 x8))) (fun x0 y0 x1 y1 lx ly hx hy x7 x8 => some (.cut (at_ Tryz.f85 5) (S85_5o1 x0 y0 x1 y1 lx ly hx hy x7 x8))) (fun x0 y0 x1 y1 lx ly hx hy x7 x8 => some (.cut (at_ Tryz.f85 5) (S85_5o2 x0 y0 x1 y1 lx ly hx hy x7 x8))) (fun x0 y0 x1 y1 lx ly hx hy x7 x8 => some (.cut (at_ Tryz.f85 8) (S85_8n00 x0 y0 x1 y1 lx ly hx hy x7 x8))) (fun x0 y0 x1 y1 lx ly hx hy x7 x8 => some (.cut (at_ Tryz.f85 8) (S85_8n01 x0 y0 x1 y1 lx ly hx hy x7 x8))) (fun x0 y0 x1 y1 lx ly hx hy x7 x8 => some (.cut (at_ Tryz.f85 8) (S85_8n02 x0 y0 x1 y1 lx ly hx hy x7 x8))) (fun x0 y0 x1 y1 lx ly hx hy x7 x8 => some (.cut (at_ Tryz.f85 8) (S85_8n10 x0 y0 x1 y1 lx ly hx hy x7 x8))) (fun x0 y0 x1 y1 lx ly hx hy x7 x8 => some (.cut (at_ Tryz.f85 8) (S85_8n11 x0 y0 x1 y1 lx ly hx hy x7 x8))) (fun x0 y0 x1 y1 lx ly hx hy x7 x8 => some (.cut (at_ Tryz.f85 8) (S85_8n12 x0 y0 x1 y1 lx ly hx hy x7 x8))) x0 y0 x1 y1 lx ly hx hy x7 x8 := by kernel_rfl
    rw [e]
    exact good_cut (t85_8n00 k _ _ _ _ _ _ _ _ _ _ r h)
theorem t85_5o1 : ∀ (k : Nat) (x0 : Int) (y0 : Int) (x1 : Int) (y1 : Int) (lx : Int) (ly : Int) (hx : Int) (hy : Int) (x7 : Int) (x8 : Int) (r : Bool), L85_5o1 k x0 y0 x1 y1 lx ly hx hy x7 x8 = some r → Ends Tryz.prog Tryz.f85.results.toList (at_ Tryz.f85 5) (S85_5o1 x0 y0 x1 y1 lx ly hx hy x7 x8) (F.bool r)
  | 0, _, _, _, _, _, _, _, _, _, _, _, h => nomatch h
  | k + 1, x0, y0, x1, y1, lx, ly, hx, hy, x7, x8, r, h => by
    refine Ends.of_cut tyOK envW2_ok (T := [(5, [3, 4, 5, 7, 8, 56, 57, 58], 4), (8, [3, 4, 5, 7, 8, 10, 56, 57, 58, 66, 67, 68], 5)]) (n := 600) ?_
    have e : runCut Tryz.prog (tiOf Tryz.prog) envW2 [(5, [3, 4, 5, 7, 8, 56, 57, 58], 4), (8, [3, 4, 5, 7, 8, 10, 56, 57, 58, 66, 67, 68], 5)] 0 Tryz.f85.results.toList some 600 (at_ Tryz.f85 5) (S85_5o1 x0 y0 x1 y1 lx ly hx hy x7 x8) = T85_5o1 (fun r => some (.ret (F.bool r))) (fun x0 y0 x1 y1 lx ly hx hy x7 x8 => some (.cut (at_ Tryz.f85 5) (S85_5o0 x0 y0 x1 y1 lx ly hx hy x7 x8))) (fun x0 y0 x1 y1 lx ly hx hy x7 x8 => some (.cut (at_ Tryz.f85 5) (S85_5o1 x0 y0 x1 y1 lx ly hx hy x7 x8))) (fun x0 y0 x1 y1 lx ly hx hy x7 x8 => some (.cut (at_ Tryz.f85 5) (S85_5o2 x0 y0 x1 y1 lx ly hx hy x7 x8))) (fun x0 y0 x1 y1 lx ly hx hy x7 x8 => some (.cut (at_ Tryz.f85 8) (S85_8n00 x0 y0 x1 y1 lx ly hx hy x7 x8))) (fun x0 y0 x1 y1 lx ly hx hy x7 x8 => some (.cut (at_ Tryz.f85 8) (S85_8n01 x0 y0 x1 y1 lx ly hx hy x7 x8))) (fun x0 y0 x1 y1 lx ly hx hy x7 x8 => some (.cut (at_ Tryz.f85 8) (S85_8n02 x0 y0 x1 y1 lx ly hx hy x7 x8))) (fun x0 y0 x1 y1 lx ly hx hy x7 x8 => some (.cut (at_ Tryz.f85 8) (S85_8n10 x0 y0 x1 y1 lx ly hx hy x7 x8))) (fun x0 y0 x1 y1 lx ly hx hy x7 x8 => some (.cut (at_ Tryz.f85 8) (S85_8n11 x0 y0 x1 y1 lx ly hx hy x7 x8))) (fun x0 y0 x1 y1 lx ly hx hy x7 x8 => some (.cut (at_ Tryz.f85 8) (S85_8n12 x0 y0 x1 y1 lx ly hx hy x7 x8))) x0 y0 x1 y1 lx ly hx hy x7 x8 := by kernel_rfl
    rw [e]
    exact good_cut (t85_8n10 k _ _ _ _ _ _ _ _ _ _ r h)
theorem t85_5o2 : ∀ (k : Nat) (x0 : Int) (y0 : Int) (x1 : Int) (y1 : Int) (lx : Int) (ly : Int) (hx : Int) (hy : Int) (x7 : Int) (x8 : Int) (r : Bool), L85_5o2 k x0 y0 x1 y1 lx ly hx hy x7 x8 = some r → Ends Tryz.prog Tryz.f85.results.toList (at_ Tryz.f85 5) (S85_5o2 x0 y0 x1 y1 lx ly hx hy x7 x8) (F.bool r)
  | 0, _, _, _, _, _, _, _, _, _, _, _, h => nomatch h
  | k + 1, x0, y0, x1, y1, lx, ly, hx, hy, x7, x8, r, h => by
    refine Ends.of_cut tyOK envW2_ok (T := [(5, [3, 4, 5, 7, 8, 56, 57, 58], 4), (8, [3, 4, 5, 7, 8, 10, 56, 57, 58, 66, 67, 68], 5)]) (n := 600) ?_
    have e : runCut Tryz.prog (tiOf Tryz.prog) envW2 [(5, [3, 4, 5, 7, 8, 56, 57, 58], 4), (8, [3, 4, 5, 7, 8, 10, 56, 57, 58, 66, 67, 68], 5)] 0 Tryz.f85.results.toList some 600 (at_ Tryz.f85 5) (S85_5o2 x0 y0 x1 y1 lx ly hx hy x7 x8) = T85_5o2 (fun r => some (.ret (F.bool r))) (fun x0 y0 x1 y1 lx ly hx hy x7 x8 => some (.cut (at_ Tryz.f85 5) (S85_5o0 x0 y0 x1 y1 lx ly hx hy x7 x8))) (fun x0 y0 x1 y1 lx ly hx hy x7 x8 => some (.cut (at_ Tryz.f85 5) (S85_5o1 x0 y0 x1 y1 lx ly hx hy x7 x8))) (fun x0 y0 x1 y1 lx ly hx hy x7 x8 => some (.cut (at_ Tryz.f85 5) (S85_5o2 x0 y0 x1 y1 lx ly hx hy x7 x8))) (fun x0 y0 x1 y1 lx ly hx hy x7 x8 => some (.cut (at_ Tryz.f85 8) (S85_8n00 x0 y0 x1 y1 lx ly hx hy x7 x8))) (fun x0 y0 x1 y1 lx ly hx hy x7 x8 => some (.cut (at_ Tryz.f85 8) (S85_8n01 x0 y0 x1 y1 lx ly hx hy x7 x8))) (fun x0 y0 x1 y1 lx ly hx hy x7 x8 => some (.cut (at_ Tryz.f85 8) (S85_8n02 x0 y0 x1 y1 lx ly hx hy x7 x8))) (fun x0 y0 x1 y1 lx ly hx hy x7 x8 => some (.cut (at_ Tryz.f85 8) (S85_8n10 x0 y0 x1 y1 lx ly hx hy x7 x8))) (fun x0 y0 x1 y1 lx ly hx hy x7 x8 => some (.cut (at_ Tryz.f85 8) (S85_8n11 x0 y0 x1 y1 lx ly hx hy x7 x8))) (fun x0 y0 x1 y1 lx ly hx hy x7 x8 => some (.cut (at_ Tryz.f85 8) (S85_8n12 x0 y0 x1 y1 lx ly hx hy x7 x8))) x0 y0 x1 y1 lx ly hx hy x7 x8 := by kernel_rfl
    rw [e]
    exact (good_sel h (fun _ h => good_ret (by cases h; rfl)) (fun _ h => good_ret (by cases h; rfl)))
theorem t85_8n00 : ∀ (k : Nat) (x0 : Int) (y0 : Int) (x1 : Int) (y1 : Int) (lx : Int) (ly : Int) (hx : Int) (hy : Int) (x7 : Int) (x8 : Int) (r : Bool), L85_8n00 k x0 y0 x1 y1 lx ly hx hy x7 x8 = some r → Ends Tryz.prog Tryz.f85.results.toList (at_ Tryz.f85 8) (S85_8n00 x0 y0 x1 y1 lx ly hx hy x7 x8) (F.bool r)
  | 0, _, _, _, _, _, _, _, _, _, _, _, h => nomatch h
  | k + 1, x0, y0, x1, y1, lx, ly, hx, hy, x7, x8, r, h => by
    refine Ends.of_cut tyOK envW2_ok (T := [(5, [3, 4, 5, 7, 8, 56, 57, 58], 4), (8, [3, 4, 5, 7, 8, 10, 56, 57, 58, 66, 67, 68], 5)]) (n := 600) ?_
    have e : runCut Tryz.prog (tiOf Tryz.prog) envW2 [(5, [3, 4, 5, 7, 8, 56, 57, 58], 4), (8, [3, 4, 5, 7, 8, 10, 56, 57, 58, 66, 67, 68], 5)] 0 Tryz.f85.results.toList some 600 (at_ Tryz.f85 8) (S85_8n00 x0 y0 x1 y1 lx ly hx hy x7 x8) = T85_8n00 (fun r => some (.ret (F.bool r))) (fun x0 y0 x1 y1 lx ly hx hy x7 x8 => some (.cut (at_ Tryz.f85 5) (S85_5o0 x0 y0 x1 y1 lx ly hx hy x7 x8))) (fun x0 y0 x1 y1 lx ly hx hy x7 x8 => some (.cut (at_ Tryz.f85 5) (S85_5o1 x0 y0 x1 y1 lx ly hx hy x7 x8))) (fun x0 y0 x1 y1 lx ly hx hy x7 x8 => some (.cut (at_ Tryz.f85 5) (S85_5o2 x0 y0 x1 y1 lx ly hx hy x7 x8))) (fun x0 y0 x1 y1 lx ly hx hy x7 x8 => some (.cut (at_ Tryz.f85 8) (S85_8n00 x0 y0 x1 y1 lx ly hx hy x7 x8))) (fun x0 y0 x1 y1 lx ly hx hy x7 x8 => some (.cut (at_ Tryz.f85 8) (S85_8n01 x0 y0 x1 y1 lx ly hx hy x7 x8))) (fun x0 y0 x1 y1 lx ly hx hy x7 x8 => some (.cut (at_ Tryz.f85 8) (S85_8n02 x0 y0 x1 y1 lx ly hx hy x7 x8))) (fun x0 y0 x1 y1 lx ly hx hy x7 x8 => some (.cut (at_ Tryz.f85 8) (S85_8n10 x0 y0 x1 y1 lx ly hx hy x7 x8))) (fun x0 y0 x1 y1 lx ly hx hy x7 x8 => some (.cut (at_ Tryz.f85 8) (S85_8n11 x0 y0 x1 y1 lx ly hx hy x7 x8))) (fun x0 y0 x1 y1 lx ly hx hy x7 x8 => some (.cut (at_ Tryz.f85 8) (S85_8n12 x0 y0 x1 y1 lx ly hx hy x7 x8))) x0 y0 x1 y1 lx ly hx hy x7 x8 := by kernel_rfl
    rw [e]
    exact good_cut (t85_8n01 k _ _ _ _ _ _ _ _ _ _ r h)
theorem t85_8n01 : ∀ (k : Nat) (x0 : Int) (y0 : Int) (x1 : Int) (y1 : Int) (lx : Int) (ly : Int) (hx : Int) (hy : Int) (x7 : Int) (x8 : Int) (r : Bool), L85_8n01 k x0 y0 x1 y1 lx ly hx hy x7 x8 = some r → Ends Tryz.prog Tryz.f85.results.toList (at_ Tryz.f85 8) (S85_8n01 x0 y0 x1 y1 lx ly hx hy x7 x8) (F.bool r)
  | 0, _, _, _, _, _, _, _, _, _, _, _, h => nomatch h
  | k + 1, x0, y0, x1, y1, lx, ly, hx, hy, x7, x8, r, h => by
    refine Ends.of_cut tyOK envW2_ok (T := [(5, [3, 4, 5, 7, 8, 56, 57, 58], 4), (8, [3, 4, 5, 7, 8, 10, 56, 57, 58, 66, 67, 68], 5)]) (n := 600) ?_
    have e : runCut Tryz.prog (tiOf Tryz.prog) envW2 [(5, [3, 4, 5, 7, 8, 56, 57, 58], 4), (8, [3, 4, 5, 7, 8, 10, 56, 57, 58, 66, 67, 68], 5)] 0 Tryz.f85.results.toList some 600 (at_ Tryz.f85 8) (S85_8n01 x0 y0 x1 y1 lx ly hx hy x7 x8) = T85_8n01 (fun r => some (.ret (F.bool r))) (fun x0 y0 x1 y1 lx ly hx hy x7 x8 => some (.cut (at_ Tryz.f85 5) (S85_5o0 x0 y0 x1 y1 lx ly hx hy x7 x8))) (fun x0 y0 x1 y1 lx ly hx hy x7 x8 => some (.cut (at_ Tryz.f85 5) (S85_5o1 x0 y0 x1 y1 lx ly hx hy x7 x8))) (fun x0 y0 x1 y1 lx ly hx hy x7 x8 => some (.cut (at_ Tryz.f85 5) (S85_5o2 x0 y0 x1 y1 lx ly hx hy x7 x8))) (fun x0 y0 x1 y1 lx ly hx hy x7 x8 => some (.cut (at_ Tryz.f85 8) (S85_8n00 x0 y0 x1 y1 lx ly hx hy x7 x8))) (fun x0 y0 x1 y1 lx ly hx hy x7 x8 => some (.cut (at_ Tryz.f85 8) (S85_8n01 x0 y0 x1 y1 lx ly hx hy x7 x8))) (fun x0 y0 x1 y1 lx ly hx hy x7 x8 => some (.cut (at_ Tryz.f85 8) (S85_8n02 x0 y0 x1 y1 lx ly hx hy x7 x8))) (fun x0 y0 x1 y1 lx ly hx hy x7 x8 => some (.cut (at_ Tryz.f85 8) (S85_8n10 x0 y0 x1 y1 lx ly hx hy x7 x8))) (fun x0 y0 x1 y1 lx ly hx hy x7 x8 => some (.cut (at_ Tryz.f85 8) (S85_8n11 x0 y0 x1 y1 lx ly hx hy x7 x8))) (fun x0 y0 x1 y1 lx ly hx hy x7 x8 => some (.cut (at_ Tryz.f85 8) (S85_8n12 x0 y0 x1 y1 lx ly hx hy x7 x8))) x0 y0 x1 y1 lx ly hx hy x7 x8 := by kernel_rfl
    rw [e]
    exact good_cut (t85_8n02 k _ _ _ _ _ _ _ _ _ _ r h)
theorem t85_8n02 : ∀ (k : Nat) (x0 : Int) (y0 : Int) (x1 : Int) (y1 : Int) (lx : Int) (ly : Int) (hx : Int) (hy : Int) (x7 : Int) (x8 : Int) (r : Bool), L85_8n02 k x0 y0 x1 y1 lx ly hx hy x7 x8 = some r → Ends Tryz.prog Tryz.f85.results.toList (at_ Tryz.f85 8) (S85_8n02 x0 y0 x1 y1 lx ly hx hy x7 x8) (F.bool r)
  | 0, _, _, _, _, _, _, _, _, _, _, _, h => nomatch h
  | k + 1, x0, y0, x1, y1, lx, ly, hx, hy, x7, x8, r, h => by
    refine Ends.of_cut tyOK envW2_ok (T := [(5, [3, 4, 5, 7, 8, 56, 57, 58], 4), (8, [3, 4, 5, 7, 8, 10, 56, 57, 58, 66, 67, 68], 5)]) (n := 600) ?_
    have e : runCut Tryz.prog (tiOf Tryz.prog) envW2 [(5, [3, 4, 5, 7, 8, 56, 57, 58], 4), (8, [3, 4, 5, 7, 8, 10, 56, 57, 58, 66, 67, 68], 5)] 0 Tryz.f85.results.toList some 600 (at_ Tryz.f85 8) (S85_8n02 x0 y0 x1 y1 lx ly hx hy x7 x8) = T85_8n02 (fun r => some (.ret (F.bool r))) (fun x0 y0 x1 y1 lx ly hx hy x7 x8 => some (.cut (at_ Tryz.f85 5) (S85_5o0 x0 y0 x1 y1 lx ly hx hy x7 x8))) (fun x0 y0 x1 y1 lx ly hx hy x7 x8 => some (.cut (at_ Tryz.f85 5) (S85_5o1 x0 y0 x1 y1 lx ly hx hy x7 x8))) (fun x0 y0 x1 y1 lx ly hx hy x7 x8 => some (.cut (at_ Tryz.f85 5) (S85_5o2 x0 y0 x1 y1 lx ly hx hy x7 x8))) (fun x0 y0 x1 y1 lx ly hx hy x7 x8 => some (.cut (at_ Tryz.f85 8) (S85_8n00 x0 y0 x1 y1 lx ly hx hy x7 x8))) (fun x0 y0 x1 y1 lx ly hx hy x7 x8 => some (.cut (at_ Tryz.f85 8) (S85_8n01 x0 y0 x1 y1 lx ly hx hy x7 x8))) (fun x0 y0 x1 y1 lx ly hx hy x7 x8 => some (.cut (at_ Tryz.f85 8) (S85_8n02 x0 y0 x1 y1 lx ly hx hy x7 x8))) (fun x0 y0 x1 y1 lx ly hx hy x7 x8 => some (.cut (at_ Tryz.f85 8) (S85_8n10 x0 y0 x1 y1 lx ly hx hy x7 x8))) (fun x0 y0 x1 y1 lx ly hx hy x7 x8 => some (.cut (at_ Tryz.f85 8) (S85_8n11 x0 y0 x1 y1 lx ly hx hy x7 x8))) (fun x0 y0 x1 y1 lx ly hx hy x7 x8 => some (.cut (at_ Tryz.f85 8) (S85_8n12 x0 y0 x1 y1 lx ly hx hy x7 x8))) x0 y0 x1 y1 lx ly hx hy x7 x8 := by kernel_rfl
    rw [e]
    exact good_cut (t85_5o1 k _ _ _ _ _ _ _ _ _ _ r h)
theorem t85_8n10 : ∀ (k : Nat) (x0 : Int) (y0 : Int) (x1 : Int) (y1 : Int) (lx : Int) (ly : Int) (hx : Int) (hy : Int) (x7 : Int) (x8 : Int) (r : Bool), L85_8n10 k x0 y0 x1 y1 lx ly hx hy x7 x8 = some r → Ends Tryz.prog Tryz.f85.results.toList (at_ Tryz.f85 8) (S85_8n10 x0 y0 x1 y1 lx ly hx hy x7 x8) (F.bool r)
  | 0, _, _, _, _, _, _, _, _, _, _, _, h => nomatch h
  | k + 1, x0, y0, x1, y1, lx, ly, hx, hy, x7, x8, r, h => by
    refine Ends.of_cut tyOK envW2_ok (T := [(5, [3, 4, 5, 7, 8, 56, 57, 58], 4), (8, [3, 4, 5, 7, 8, 10, 56, 57, 58, 66, 67, 68], 5)]) (n := 600) ?_
    have e : runCut Tryz.prog (tiOf Tryz.prog) envW2 [(5, [3, 4, 5, 7, 8, 56, 57, 58], 4), (8, [3, 4, 5, 7, 8, 10, 56, 57, 58, 66, 67, 68], 5)] 0 Tryz.f85.results.toList some 600 (at_ Tryz.f85 8) (S85_8n10 x0 y0 x1 y1 lx ly hx hy x7 x8) = T85_8n10 (fun r => some (.ret (F.bool r))) (fun x0 y0 x1 y1 lx ly hx hy x7 x8 => some (.cut (at_ Tryz.f85 5) (S85_5o0 x0 y0 x1 y1 lx ly hx hy x7 x8))) (fun x0 y0 x1 y1 lx ly hx hy x7 x8 => some (.cut (at_ Tryz.f85 5) (S85_5o1 x0 y0 x1 y1 lx ly hx hy x7 x8))) (fun x0 y0 x1 y1 lx ly hx hy x7 x8 => some (.cut (at_ Tryz.f85 5) (S85_5o2 x0 y0 x1 y1 lx ly hx hy x7 x8))) (fun x0 y0 x1 y1 lx ly hx hy x7 x8 => some (.cut (at_ Tryz.f85 8) (S85_8n00 x0 y0 x1 y1 lx ly hx hy x7 x8))) (fun x0 y0 x1 y1 lx ly hx hy x7 x8 => some (.cut (at_ Tryz.f85 8) (S85_8n01 x0 y0 x1 y1 lx ly hx hy x7 x8))) (fun x0 y0 x1 y1 lx ly hx hy x7 x8 => some (.cut (at_ Tryz.f85 8) (S85_8n02 x0 y0 x1 y1 lx ly hx hy x7 x8))) (fun x0 y0 x1 y1 lx ly hx hy x7 x8 => some (.cut (at_ Tryz.f85 8) (S85_8n10 x0 y0 x1 y1 lx ly hx hy x7 x8))) (fun x0 y0 x1 y1 lx ly hx hy x7 x8 => some (.cut (at_ Tryz.f85 8) (S85_8n11 x0 y0 x1 y1 lx ly hx hy x7 x8))) (fun x0 y0 x1 y1 lx ly hx hy x7 x8 => some (.cut (at_ Tryz.f85 8) (S85_8n12 x0 y0 x1 y1 lx ly hx hy x7 x8))) x0 y0 x1 y1 lx ly hx hy x7 x8 := by kernel_rfl
    rw [e]
    exact good_cut (t85_8n11 k _ _ _ _ _ _ _ _ _ _ r h)
theorem t85_8n11 : ∀ (k : Nat) (x0 : Int) (y0 : Int) (x1 : Int) (y1 : Int) (lx : Int) (ly : Int) (hx : Int) (hy : Int) (x7 : Int) (x8 : Int) (r : Bool), L85_8n11 k x0 y0 x1 y1 lx ly hx hy x7 x8 = some r → Ends Tryz.prog Tryz.f85.results.toList (at_ Tryz.f85 8) (S85_8n11 x0 y0 x1 y1 lx ly hx hy x7 x8) (F.bool r)
  | 0, _, _, _, _, _, _, _, _, _, _, _, h => nomatch h
  | k + 1, x0, y0, x1, y1, lx, ly, hx, hy, x7, x8, r, h => by
    refine Ends.of_cut tyOK envW2_ok (T := [(5, [3, 4, 5, 7, 8, 56, 57, 58], 4), (8, [3, 4, 5, 7, 8, 10, 56, 57, 58, 66, 67, 68], 5)]) (n := 600) ?_
    have e : runCut Tryz.prog (tiOf Tryz.prog) envW2 [(5, [3, 4, 5, 7, 8, 56, 57, 58], 4), (8, [3, 4, 5, 7, 8, 10, 56, 57, 58, 66, 67, 68], 5)] 0 Tryz.f85.results.toList some 600 (at_ Tryz.f85 8) (S85_8n11 x0 y0 x1 y1 lx ly hx hy x7 x8) = T85_8n11 (fun r => some (.ret (F.bool r))) (fun x0 y0 x1 y1 lx ly hx hy x7 x8 => some (.cut (at_ Tryz.f85 5) (S85_5o0 x0 y0 x1 y1 lx ly hx hy x7 x8))) (fun x0 y0 x1 y1 lx ly hx hy x7 x8 => some (.cut (at_ Tryz.f85 5) (S85_5o1 x0 y0 x1 y1 lx ly hx hy x7 x8))) (fun x0 y0 x1 y1 lx ly hx hy x7 x8 => some (.cut (at_ Tryz.f85 5) (S85_5o2 x0 y0 x1 y1 lx ly hx hy x7 x8))) (fun x0 y0 x1 y1 lx ly hx hy x7 x8 => some (.cut (at_ Tryz.f85 8) (S85_8n00 x0 y0 x1 y1 lx ly hx hy x7 x8))) (fun x0 y0 x1 y1 lx ly hx hy x7 x8 => some (.cut (at_ Tryz.f85 8) (S85_8n01 x0 y0 x1 y1 lx ly hx hy x7 x8))) (fun x0 y0 x1 y1 lx ly hx hy x7 x8 => some (.cut (at_ Tryz.f85 8) (S85_8n02 x0 y0 x1 y1 lx ly hx hy x7 x8))) (fun x0 y0 x1 y1 lx ly hx hy x7 x8 => some (.cut (at_ Tryz.f85 8) (S85_8n10 x0 y0 x1 y1 lx ly hx hy x7 x8))) (fun x0 y0 x1 y1 lx ly hx hy x7 x8 => some (.cut (at_ Tryz.f85 8) (S85_8n11 x0 y0 x1 y1 lx ly hx hy x7 x8))) (fun x0 y0 x1 y1 lx ly hx hy x7 x8 => some (.cut (at_ Tryz.f85 8) (S85_8n12 x0 y0 x1 y1 lx ly hx hy x7 x8))) x0 y0 x1 y1 lx ly hx hy x7 x8 := by kernel_rfl
    rw [e]
    exact good_cut (t85_8n12 k _ _ _ _ _ _ _ _ _ _ r h)
theorem t85_8n12 : ∀ (k : Nat) (x0 : Int) (y0 : Int) (x1 : Int) (y1 : Int) (lx : Int) (ly : Int) (hx : Int) (hy : Int) (x7 : Int) (x8 : Int) (r : Bool), L85_8n12 k x0 y0 x1 y1 lx ly hx hy x7 x8 = some r → Ends Tryz.prog Tryz.f85.results.toList (at_ Tryz.f85 8) (S85_8n12 x0 y0 x1 y1 lx ly hx hy x7 x8) (F.bool r)
  | 0, _, _, _, _, _, _, _, _, _, _, _, h => nomatch h
  | k + 1, x0, y0, x1, y1, lx, ly, hx, hy, x7, x8, r, h => by
    refine Ends.of_cut tyOK envW2_ok (T := [(5, [3, 4, 5, 7, 8, 56, 57, 58], 4), (8, [3, 4, 5, 7, 8, 10, 56, 57, 58, 66, 67, 68], 5)]) (n := 600) ?_
    have e : runCut Tryz.prog (tiOf Tryz.prog) envW2 [(5, [3, 4, 5, 7, 8, 56, 57, 58], 4), (8, [3, 4, 5, 7, 8, 10, 56, 57, 58, 66, 67, 68], 5)] 0 Tryz.f85.results.toList some 600 (at_ Tryz.f85 8) (S85_8n12 x0 y0 x1 y1 lx ly hx hy x7 x8) = T85_8n12 (fun r => some (.ret (F.bool r))) (fun x0 y0 x1 y1 lx ly hx hy x7 x8 => some (.cut (at_ Tryz.f85 5) (S85_5o0 x0 y0 x1 y1 lx ly hx hy x7 x8))) (fun x0 y0 x1 y1 lx ly hx hy x7 x8 => some (.cut (at_ Tryz.f85 5) (S85_5o1 x0 y0 x1 y1 lx ly hx hy x7 x8))) (fun x0 y0 x1 y1 lx ly hx hy x7 x8 => some (.cut (at_ Tryz.f85 5) (S85_5o2 x0 y0 x1 y1 lx ly hx hy x7 x8))) (fun x0 y0 x1 y1 lx ly hx hy x7 x8 => some (.cut (at_ Tryz.f85 8) (S85_8n00 x0 y0 x1 y1 lx ly hx hy x7 x8))) (fun x0 y0 x1 y1 lx ly hx hy x7 x8 => some (.cut (at_ Tryz.f85 8) (S85_8n01 x0 y0 x1 y1 lx ly hx hy x7 x8))) (fun x0 y0 x1 y1 lx ly hx hy x7 x8 => some (.cut (at_ Tryz.f85 8) (S85_8n02 x0 y0 x1 y1 lx ly hx hy x7 x8))) (fun x0 y0 x1 y1 lx ly hx hy x7 x8 => some (.cut (at_ Tryz.f85 8) (S85_8n10 x0 y0 x1 y1 lx ly hx hy x7 x8))) (fun x0 y0 x1 y1 lx ly hx hy x7 x8 => some (.cut (at_ Tryz.f85 8) (S85_8n11 x0 y0 x1 y1 lx ly hx hy x7 x8))) (fun x0 y0 x1 y1 lx ly hx hy x7 x8 => some (.cut (at_ Tryz.f85 8) (S85_8n12 x0 y0 x1 y1 lx ly hx hy x7 x8))) x0 y0 x1 y1 lx ly hx hy x7 x8 := by kernel_rfl
    rw [e]
    exact good_cut (t85_5o2 k _ _ _ _ _ _ _ _ _ _ r h)
end
theorem t85 (k : Nat) (x0 : Int) (y0 : Int) (x1 : Int) (y1 : Int) (lx : Int) (ly : Int) (hx : Int) (hy : Int) (r : Bool) (h : G85 k x0 y0 x1 y1 lx ly hx hy = some r) : Ends Tryz.prog Tryz.f85.results.toList [.code (bodyOf Tryz.f85)] (start Tryz.f85.ntmps ([F.agg [F.int .i64 x0, F.int .i64 y0, F.int .i64 x1, F.int .i64 y1], F.agg [F.int .i64 lx, F.int .i64 ly], F.agg [F.int .i64 hx, F.int .i64 hy]].map .f)) (F.bool r) := by
  refine Ends.of_run tyOK envW2_ok (T := [(5, [3, 4, 5, 7, 8, 56, 57, 58], 4), (8, [3, 4, 5, 7, 8, 10, 56, 57, 58, 66, 67, 68], 5)]) (n := 600) ?_
  have e : run Tryz.prog (tiOf Tryz.prog) envW2 [(5, [3, 4, 5, 7, 8, 56, 57, 58], 4), (8, [3, 4, 5, 7, 8, 10, 56, 57, 58, 66, 67, 68], 5)] 0 Tryz.f85.results.toList some 600 [.code (bodyOf Tryz.f85)] (start Tryz.f85.ntmps ([F.agg [F.int .i64 x0, F.int .i64 y0, F.int .i64 x1, F.int .i64 y1], F.agg [F.int .i64 lx, F.int .i64 ly], F.agg [F.int .i64 hx, F.int .i64 hy]].map .f)) = T85 (fun r => some (.ret (F.bool r))) (fun x0 y0 x1 y1 lx ly hx hy x7 x8 => some (.cut (at_ Tryz.f85 5) (S85_5o0 x0 y0 x1 y1 lx ly hx hy x7 x8))) (fun x0 y0 x1 y1 lx ly hx hy x7 x8 => some (.cut (at_ Tryz.f85 5) (S85_5o1 x0 y0 x1 y1 lx ly hx hy x7 x8))) (fun x0 y0 x1 y1 lx ly hx hy x7 x8 => some (.cut (at_ Tryz.f85 5) (S85_5o2 x0 y0 x1 y1 lx ly hx hy x7 x8))) (fun x0 y0 x1 y1 lx ly hx hy x7 x8 => some (.cut (at_ Tryz.f85 8) (S85_8n00 x0 y0 x1 y1 lx ly hx hy x7 x8))) (fun x0 y0 x1 y1 lx ly hx hy x7 x8 => some (.cut (at_ Tryz.f85 8) (S85_8n01 x0 y0 x1 y1 lx ly hx hy x7 x8))) (fun x0 y0 x1 y1 lx ly hx hy x7 x8 => some (.cut (at_ Tryz.f85 8) (S85_8n02 x0 y0 x1 y1 lx ly hx hy x7 x8))) (fun x0 y0 x1 y1 lx ly hx hy x7 x8 => some (.cut (at_ Tryz.f85 8) (S85_8n10 x0 y0 x1 y1 lx ly hx hy x7 x8))) (fun x0 y0 x1 y1 lx ly hx hy x7 x8 => some (.cut (at_ Tryz.f85 8) (S85_8n11 x0 y0 x1 y1 lx ly hx hy x7 x8))) (fun x0 y0 x1 y1 lx ly hx hy x7 x8 => some (.cut (at_ Tryz.f85 8) (S85_8n12 x0 y0 x1 y1 lx ly hx hy x7 x8))) x0 y0 x1 y1 lx ly hx hy := by kernel_rfl
  rw [e]
  exact (good_sel h (fun _ h => (good_sel h (fun _ h => (good_sel h (fun _ h => (good_sel h (fun _ h => good_ret (by cases h; rfl)) (fun _ h => good_cut (t85_5o0 k _ _ _ _ _ _ _ _ _ _ r h)))) (fun _ h => good_ret (by cases h; rfl)))) (fun _ h => good_ret (by cases h; rfl)))) (fun _ h => good_ret (by cases h; rfl)))
def segOkV (x0 y0 x1 y1 : Int) : Bool := spotOkV x0 y0 && (spotOkV x1 y1 && lessV x0 y0 x1 y1)
theorem cmp_less (x0 y0 x1 y1 : Int) : decide (cmpV x0 y0 x1 y1 < 0) = lessV x0 y0 x1 y1 := by
  unfold cmpV
  cases h : x0 == x1 && y0 == y1 with
  | true =>
    simp only [Bool.and_eq_true, beq_iff_eq] at h
    have : lessV x0 y0 x1 y1 = false := by
      simp only [lessV, Bool.or_eq_false_iff, Bool.and_eq_false_iff, decide_eq_false_iff_not]
      omega
    rw [this]; rfl
  | false => cases lessV x0 y0 x1 y1 <;> rfl
theorem segOk_spec (x0 y0 x1 y1 : Int) : G30 x0 y0 x1 y1 = some (segOkV x0 y0 x1 y1) := by
  unfold G30 T30 segOkV
  cases spotOkV x0 y0 <;> cases spotOkV x1 y1 <;> rfl
theorem segOk_impl (x0 y0 x1 y1 : Int) : G41 x0 y0 x1 y1 = some (segOkV x0 y0 x1 y1) := by
  unfold G41 T41 segOkV
  rw [cmp_less]
  cases spotOkV x0 y0 <;> cases spotOkV x1 y1 <;> rfl
def pre1s : List F → Bool | [.agg [.int .i64 _, .int .i64 _, .int .i64 _, .int .i64 _]] => true | _ => false
def resSegOk : List F → F | [.agg [.int .i64 a, .int .i64 b, .int .i64 c, .int .i64 d]] => .bool (segOkV a b c d) | _ => .dflt
theorem okSegOkS : PureOK Tryz.prog 30 pre1s resSegOk :=
  fn_pure (c := bodyOf Tryz.f30) Tryz.func30 (by kernel_rfl) (by kernel_rfl) fun xs hp => match xs, hp with
  | [.agg [.int .i64 a, .int .i64 b, .int .i64 c, .int .i64 d]], hp => t30 a b c d _ (segOk_spec a b c d)
theorem okSegOkI : PureOK Tryz.prog 41 pre1s resSegOk :=
  fn_pure (c := bodyOf Tryz.f41) Tryz.func41 (by kernel_rfl) (by kernel_rfl) fun xs hp => match xs, hp with
  | [.agg [.int .i64 a, .int .i64 b, .int .i64 c, .int .i64 d]], hp => t41 a b c d _ (segOk_impl a b c d)
def apartV (x0 y0 x1 y1 lx ly hx hy : Int) : Bool := decide (x1 < lx) || (decide (x0 > hx) || (decide (y0 < ly) && decide (y1 < ly) || decide (y0 > hy) && decide (y1 > hy)))
def meetsV (x0 y0 x1 y1 lx ly hx hy : Int) : Bool := !apartV x0 y0 x1 y1 lx ly hx hy &&
  (!(turnV x0 y0 x1 y1 lx ly == 1 && turnV x0 y0 x1 y1 hx hy == 1 && turnV x0 y0 x1 y1 lx hy == 1 && turnV x0 y0 x1 y1 hx ly == 1) &&
   !(turnV x0 y0 x1 y1 lx ly == -1 && turnV x0 y0 x1 y1 hx hy == -1 && turnV x0 y0 x1 y1 lx hy == -1 && turnV x0 y0 x1 y1 hx ly == -1))
theorem turn3 (a b c d e f : Int) : turnV a b c d e f = -1 ∨ turnV a b c d e f = 0 ∨ turnV a b c d e f = 1 := by
  unfold turnV signV
  cases decide (crossW a b c d e f < 0) <;> cases decide (crossW a b c d e f > 0) <;> simp
section
variable (x0 y0 x1 y1 lx ly hx hy : Int)
def bumpU (c u : Int) : Int := bif c == 1 then u + 1 else u
def bumpD (c u : Int) : Int := bif c == 1 then u else bif c == -1 then u + 1 else u
theorem box4 (k : Nat) (u d : Int) : L82_6n4 (k + 1) x0 y0 x1 y1 lx ly hx hy u d = some (decide (u < 4) && decide (d < 4)) := by
  rw [L82_6n4, T82_6n4]
  cases decide (u < 4) <;> rfl
theorem box3 (k : Nat) (u d : Int) (h : 0 ≤ u ∧ u ≤ 9 ∧ 0 ≤ d ∧ d ≤ 9) : L82_6n3 (k + 2) x0 y0 x1 y1 lx ly hx hy u d = some (decide (bumpU (turnV x0 y0 x1 y1 hx ly) u < 4) && decide (bumpD (turnV x0 y0 x1 y1 hx ly) d < 4)) := by
  rw [L82_6n3, T82_6n3]
  simp only [box4]
  rw [wrapi (x := u + 1) (by omega) (by omega), wrapi (x := d + 1) (by omega) (by omega)]
  unfold bumpU bumpD
  cases turnV x0 y0 x1 y1 hx ly == 1 <;> cases turnV x0 y0 x1 y1 hx ly == -1 <;> rfl
theorem bump_le {c u d : Int} {n : Int} (h : 0 ≤ u ∧ u ≤ n ∧ 0 ≤ d ∧ d ≤ n) : 0 ≤ bumpU c u ∧ bumpU c u ≤ n + 1 ∧ 0 ≤ bumpD c d ∧ bumpD c d ≤ n + 1 := by
  unfold bumpU bumpD
  cases c == 1 <;> cases c == -1 <;> simp only [cond_true, cond_false] <;> omega
theorem box2 (k : Nat) (u d : Int) (h : 0 ≤ u ∧ u ≤ 8 ∧ 0 ≤ d ∧ d ≤ 8) : L82_6n2 (k + 3) x0 y0 x1 y1 lx ly hx hy u d =
    L82_6n3 (k + 2) x0 y0 x1 y1 lx ly hx hy (bumpU (turnV x0 y0 x1 y1 lx hy) u) (bumpD (turnV x0 y0 x1 y1 lx hy) d) := by
  rw [L82_6n2, T82_6n2]
  rw [wrapi (x := u + 1) (by omega) (by omega), wrapi (x := d + 1) (by omega) (by omega)]
  unfold bumpU bumpD
  cases turnV x0 y0 x1 y1 lx hy == 1 <;> cases turnV x0 y0 x1 y1 lx hy == -1 <;> rfl
theorem box1 (k : Nat) (u d : Int) (h : 0 ≤ u ∧ u ≤ 7 ∧ 0 ≤ d ∧ d ≤ 7) : L82_6n1 (k + 4) x0 y0 x1 y1 lx ly hx hy u d =
    L82_6n2 (k + 3) x0 y0 x1 y1 lx ly hx hy (bumpU (turnV x0 y0 x1 y1 hx hy) u) (bumpD (turnV x0 y0 x1 y1 hx hy) d) := by
  rw [L82_6n1, T82_6n1]
  rw [wrapi (x := u + 1) (by omega) (by omega), wrapi (x := d + 1) (by omega) (by omega)]
  unfold bumpU bumpD
  cases turnV x0 y0 x1 y1 hx hy == 1 <;> cases turnV x0 y0 x1 y1 hx hy == -1 <;> rfl
theorem box0 (k : Nat) : L82_6n0 (k + 5) x0 y0 x1 y1 lx ly hx hy 0 0 =
    L82_6n1 (k + 4) x0 y0 x1 y1 lx ly hx hy (bumpU (turnV x0 y0 x1 y1 lx ly) 0) (bumpD (turnV x0 y0 x1 y1 lx ly) 0) := by
  rw [L82_6n0, T82_6n0]
  rw [wrapi (x := 0 + 1) (by omega) (by omega)]
  unfold bumpU bumpD
  cases turnV x0 y0 x1 y1 lx ly == 1 <;> cases turnV x0 y0 x1 y1 lx ly == -1 <;> rfl
def cornersV : Bool := (!(turnV x0 y0 x1 y1 lx ly == 1 && turnV x0 y0 x1 y1 hx hy == 1 && turnV x0 y0 x1 y1 lx hy == 1 && turnV x0 y0 x1 y1 hx ly == 1) &&
   !(turnV x0 y0 x1 y1 lx ly == -1 && turnV x0 y0 x1 y1 hx hy == -1 && turnV x0 y0 x1 y1 lx hy == -1 && turnV x0 y0 x1 y1 hx ly == -1))
theorem corners_spec (k : Nat) : L82_6n0 (k + 5) x0 y0 x1 y1 lx ly hx hy 0 0 = some (cornersV x0 y0 x1 y1 lx ly hx hy) := by
  have h1 := bump_le (c := turnV x0 y0 x1 y1 lx ly) (u := 0) (d := 0) (n := 0) (by omega)
  have h2 := bump_le (c := turnV x0 y0 x1 y1 hx hy) h1
  have h3 := bump_le (c := turnV x0 y0 x1 y1 lx hy) h2
  rw [box0, box1 _ _ _ _ _ _ _ _ _ _ _ (by omega), box2 _ _ _ _ _ _ _ _ _ _ _ (by omega), box3 _ _ _ _ _ _ _ _ _ _ _ (by omega)]
  unfold cornersV
  rcases turn3 x0 y0 x1 y1 lx ly with e | e | e <;> rcases turn3 x0 y0 x1 y1 hx hy with f | f | f <;> rcases turn3 x0 y0 x1 y1 lx hy with g | g | g <;> rcases turn3 x0 y0 x1 y1 hx ly with h | h | h <;> rw [e, f, g, h] <;> rfl
theorem meets_spec : G82 5 x0 y0 x1 y1 lx ly hx hy = some (meetsV x0 y0 x1 y1 lx ly hx hy) := by
  unfold G82 T82
  simp only [corners_spec x0 y0 x1 y1 lx ly hx hy 0]
  have : meetsV x0 y0 x1 y1 lx ly hx hy = (!apartV x0 y0 x1 y1 lx ly hx hy && cornersV x0 y0 x1 y1 lx ly hx hy) := rfl
  rw [this]
  unfold apartV
  generalize cornersV x0 y0 x1 y1 lx ly hx hy = c
  cases decide (x1 < lx) <;> cases decide (x0 > hx) <;> cases decide (y0 < ly) <;> cases decide (y1 < ly) <;> cases decide (y0 > hy) <;> cases decide (y1 > hy) <;> rfl
theorem corners_impl (k : Nat) : L85_5o0 (k + 9) x0 y0 x1 y1 lx ly hx hy 1 (-1) = some (cornersV x0 y0 x1 y1 lx ly hx hy) := by
  simp only [L85_5o0, T85_5o0, L85_8n00, T85_8n00, L85_8n01, T85_8n01, L85_8n02, T85_8n02,
    L85_5o1, T85_5o1, L85_8n10, T85_8n10, L85_8n11, T85_8n11, L85_8n12, T85_8n12, L85_5o2, T85_5o2, if_true, Bool.false_eq_true, if_false]
  have t1 : signV (crossW x0 y0 x1 y1 lx ly) = turnV x0 y0 x1 y1 lx ly := rfl
  have t2 : signV (crossW x0 y0 x1 y1 lx hy) = turnV x0 y0 x1 y1 lx hy := rfl
  have t3 : signV (crossW x0 y0 x1 y1 hx ly) = turnV x0 y0 x1 y1 hx ly := rfl
  have t4 : signV (crossW x0 y0 x1 y1 hx hy) = turnV x0 y0 x1 y1 hx hy := rfl
  rw [t1, t2, t3, t4]
  unfold cornersV
  rcases turn3 x0 y0 x1 y1 lx ly with e | e | e <;> rcases turn3 x0 y0 x1 y1 hx hy with f | f | f <;> rcases turn3 x0 y0 x1 y1 lx hy with g | g | g <;> rcases turn3 x0 y0 x1 y1 hx ly with h | h | h <;> rw [e, f, g, h] <;> rfl
theorem meets_impl : G85 9 x0 y0 x1 y1 lx ly hx hy = some (meetsV x0 y0 x1 y1 lx ly hx hy) := by
  unfold G85 T85
  simp only [corners_impl x0 y0 x1 y1 lx ly hx hy 0, if_true, Bool.false_eq_true, if_false]
  have : meetsV x0 y0 x1 y1 lx ly hx hy = (!apartV x0 y0 x1 y1 lx ly hx hy && cornersV x0 y0 x1 y1 lx ly hx hy) := rfl
  rw [this]
  unfold apartV
  have e1 : decide ((if y1 > y0 then y1 else y0) < ly) = (decide (y0 < ly) && decide (y1 < ly)) := by
    rw [Bool.eq_iff_iff]; simp only [Bool.and_eq_true, decide_eq_true_eq]; split <;> omega
  have e2 : decide ((if y1 < y0 then y1 else y0) > hy) = (decide (y0 > hy) && decide (y1 > hy)) := by
    rw [Bool.eq_iff_iff]; simp only [Bool.and_eq_true, decide_eq_true_eq]; split <;> omega
  rw [e1, e2]
  generalize cornersV x0 y0 x1 y1 lx ly hx hy = c
  cases decide (x1 < lx) <;> cases decide (x0 > hx) <;> cases decide (y0 < ly) <;> cases decide (y1 < ly) <;> cases decide (y0 > hy) <;> cases decide (y1 > hy) <;> rfl
end
def preMeets : List F → Bool | [.agg [.int .i64 _, .int .i64 _, .int .i64 _, .int .i64 _], .agg [.int .i64 _, .int .i64 _], .agg [.int .i64 _, .int .i64 _]] => true | _ => false
def resMeets : List F → F | [.agg [.int .i64 a, .int .i64 b, .int .i64 c, .int .i64 d], .agg [.int .i64 e, .int .i64 f], .agg [.int .i64 g, .int .i64 h]] => .bool (meetsV a b c d e f g h) | _ => .dflt
theorem okMeetsS : PureOK Tryz.prog 82 preMeets resMeets :=
  fn_pure (c := bodyOf Tryz.f82) Tryz.func82 (by kernel_rfl) (by kernel_rfl) fun xs hp => match xs, hp with
  | [.agg [.int .i64 a, .int .i64 b, .int .i64 c, .int .i64 d], .agg [.int .i64 e, .int .i64 f], .agg [.int .i64 g, .int .i64 h]], hp => t82 5 a b c d e f g h _ (meets_spec a b c d e f g h)
theorem okMeetsI : PureOK Tryz.prog 85 preMeets resMeets :=
  fn_pure (c := bodyOf Tryz.f85) Tryz.func85 (by kernel_rfl) (by kernel_rfl) fun xs hp => match xs, hp with
  | [.agg [.int .i64 a, .int .i64 b, .int .i64 c, .int .i64 d], .agg [.int .i64 e, .int .i64 f], .agg [.int .i64 g, .int .i64 h]], hp => t85 9 a b c d e f g h _ (meets_impl a b c d e f g h)
def envW3 : Env := (((envW2.add 30 (.pure pre1s resSegOk)).add 41 (.pure pre1s resSegOk)).add 82 (.pure preMeets resMeets)).add 85 (.pure preMeets resMeets)
theorem envW3_ok : EnvOK Tryz.prog envW3 := (Env.add_ok (Env.add_ok (Env.add_ok (Env.add_ok envW2_ok okSegOkS.sp) okSegOkI.sp) okMeetsS.sp) okMeetsI.sp)
end Go.Proofs.YtdcooaopkbicfaaGreat.R
namespace Go.Proofs.YtdcooaopkbicfaaGreat.R
open Go
structure Sg where
  x0 : Int
  y0 : Int
  x1 : Int
  y1 : Int
def Sg.zero : Sg := ⟨0, 0, 0, 0⟩
def sgF (s : Sg) : F := .agg [.int .i64 s.x0, .int .i64 s.y0, .int .i64 s.x1, .int .i64 s.y1]
def isSg : F → Bool
  | .agg [.int .i64 _, .int .i64 _, .int .i64 _, .int .i64 _] => true
  | _ => false
def unSg : F → Sg
  | .agg [.int .i64 a, .int .i64 b, .int .i64 c, .int .i64 d] => ⟨a, b, c, d⟩
  | _ => .zero
def segsF (l : List Sg) : F := slF sgF .zero l
def isSegs (x : F) : Bool := isSl isSg x
def unSegs (x : F) : List Sg := unSl unSg x
theorem sg_eq {x : F} (h : isSg x = true) : sgF (unSg x) = x := by
  unfold isSg at h
  split at h
  · rfl
  · cases h
theorem segs_eqv {x : F} (hx : isSegs x = true) : FLe x (segsF (unSegs x)) ∧ FLe (segsF (unSegs x)) x := slF_eqv (fun _ h => sg_eq h) hx
theorem atSegs {n : Nat} {g : Nat → F} (h : isSegs (.sl n g) = true) {j : Nat} (hj : j < n) : g j = sgF ((unSegs (.sl n g)).getD j Sg.zero) := sl_at Sg.zero (fun _ h => sg_eq h) h hj
end Go.Proofs.YtdcooaopkbicfaaGreat.R
namespace Go.Proofs.YtdcooaopkbicfaaGreat.R
open Go
def sgOk (s : Sg) : Bool := segOkV s.x0 s.y0 s.x1 s.y1
def segsFaultV (l : List Sg) : Int := bif decide ((l.length : Int) > 40) then 1 else bif l.all sgOk then 0 else 2
def envW4 : Env := envW3
theorem envW4_ok : EnvOK Tryz.prog envW4 := envW3_ok
end Go.Proofs.YtdcooaopkbicfaaGreat.R
namespace Go.Proofs.YtdcooaopkbicfaaGreat.R
open Go
def segsOkV (l : List Sg) : Bool := segsFaultV l == 0
theorem segsOk_iff {l : List Sg} : segsOkV l = true ↔ l.length ≤ 40 ∧ ∀ s ∈ l, sgOk s = true := by
  unfold segsOkV segsFaultV
  by_cases h : (l.length : Int) > 40
  · rw [decide_eq_true h]; simp; omega
  · rw [decide_eq_false h, cond_false]
    cases ha : l.all sgOk with
    | true => rw [List.all_eq_true] at ha; simp; exact ⟨by omega, ha⟩
    | false =>
      simp only [cond_false, beq_iff_eq]
      constructor
      · intro h; cases h
      · intro h; rw [List.all_eq_true.2 h.2] at ha; cases ha
def envW5 : Env := envW4
theorem envW5_ok : EnvOK Tryz.prog envW5 := envW4_ok
end Go.Proofs.YtdcooaopkbicfaaGreat.R
namespace Go.Proofs.YtdcooaopkbicfaaGreat.R
open Go
noncomputable section
end
end Go.Proofs.YtdcooaopkbicfaaGreat.R
namespace Go.Proofs.YtdcooaopkbicfaaGreat.R
open Go
def isI64F : F → Bool | .int .i64 _ => true | _ => false
def unI64 : F → Int | .int .i64 n => n | _ => 0
theorem i64_eq {x : F} (h : isI64F x = true) : i64F (unI64 x) = x := by
  unfold isI64F at h
  split at h
  · rfl
  · cases h
def isInts (x : F) : Bool := isSl isI64F x
def unInts (x : F) : List Int := unSl unI64 x
theorem unInts_intsF (l : List Int) : unInts (intsF l) = l := unSl_slF (fun _ => rfl) l
theorem isInts_intsF (l : List Int) : isInts (intsF l) = true := isSl_slF l fun _ _ => rfl
theorem ints_eqv {x : F} (hx : isInts x = true) : FLe x (intsF (unInts x)) ∧ FLe (intsF (unInts x)) x := slF_eqv (fun _ h => i64_eq h) hx
theorem intsF_inj {l l' : List Int} (h : intsF l = intsF l') : l = l' := by rw [← unInts_intsF l, h, unInts_intsF]
structure It where
  id : Int
  x0 : Int
  y0 : Int
  x1 : Int
  y1 : Int
def It.sg (t : It) : Sg := ⟨t.x0, t.y0, t.x1, t.y1⟩
def It.zero : It := ⟨0, 0, 0, 0, 0⟩
def itF (t : It) : F := .agg [.int .i64 t.id, .int .i64 t.x0, .int .i64 t.y0, .int .i64 t.x1, .int .i64 t.y1]
def isIt : F → Bool
  | .agg [.int .i64 _, .int .i64 _, .int .i64 _, .int .i64 _, .int .i64 _] => true
  | _ => false
def unIt : F → It
  | .agg [.int .i64 e, .int .i64 a, .int .i64 b, .int .i64 c, .int .i64 d] => ⟨e, a, b, c, d⟩
  | _ => .zero
def itemsF (l : List It) : F := slF itF .zero l
def isItems (x : F) : Bool := isSl isIt x
def unItems (x : F) : List It := unSl unIt x
theorem unItems_itemsF (l : List It) : unItems (itemsF l) = l := unSl_slF (fun _ => rfl) l
theorem isItems_itemsF (l : List It) : isItems (itemsF l) = true := isSl_slF l fun _ _ => rfl
theorem it_eq {x : F} (h : isIt x = true) : itF (unIt x) = x := by
  unfold isIt at h
  split at h
  · rfl
  · cases h
theorem items_eqv {x : F} (hx : isItems x = true) : FLe x (itemsF (unItems x)) ∧ FLe (itemsF (unItems x)) x := slF_eqv (fun _ h => it_eq h) hx
structure Bk where
  x : Int
  y : Int
  size : Int
  split : Bool
  ids : List Int
def Bk.zero : Bk := ⟨0, 0, 0, false, []⟩
def bkF (b : Bk) : F := .agg [.int .i64 b.x, .int .i64 b.y, .int .i64 b.size, .bool b.split, intsF b.ids]
def isBk : F → Bool
  | .agg [.int .i64 _, .int .i64 _, .int .i64 _, .bool _, l] => isInts l
  | _ => false
def unBk : F → Bk
  | .agg [.int .i64 a, .int .i64 b, .int .i64 c, .bool s, l] => ⟨a, b, c, s, unInts l⟩
  | _ => .zero
theorem unBk_bkF (b : Bk) : unBk (bkF b) = b := by
  show Bk.mk b.x b.y b.size b.split (unInts (intsF b.ids)) = b
  rw [unInts_intsF]
theorem isBk_bkF (b : Bk) : isBk (bkF b) = true := isInts_intsF b.ids
theorem bk_eqv {x : F} (h : isBk x = true) : FsLe x.cells (bkF (unBk x)).cells ∧ FsLe (bkF (unBk x)).cells x.cells := by
  unfold isBk at h
  split at h
  · exact ⟨⟨.refl _, .refl _, .refl _, .refl _, (ints_eqv h).1, trivial⟩, ⟨.refl _, .refl _, .refl _, .refl _, (ints_eqv h).2, trivial⟩⟩
  · cases h
theorem FLe.bk {x : F} (h : isBk x = true) : FLe x (bkF (unBk x)) := by
  have h1 := (bk_eqv h).1
  unfold isBk at h
  split at h
  · exact FLe.agg h1
  · cases h
theorem bk_el {x : F} (h : isBk x = true) : ElLe x (bkF (unBk x)) ∧ ElLe (bkF (unBk x)) x := by
  obtain ⟨h1, h2⟩ := bk_eqv h
  refine ⟨⟨h1, fun _ u hu => ?_⟩, ⟨h2, fun _ u hu => ?_⟩⟩
  · simp only [bkF, F.cells, List.mem_cons, List.not_mem_nil, or_false] at hu
    rcases hu with rfl | rfl | rfl | rfl | rfl <;> rfl
  · unfold isBk at h
    split at h
    · rename_i l
      simp only [F.cells, List.mem_cons, List.not_mem_nil, or_false] at hu
      rcases hu with rfl | rfl | rfl | rfl | rfl
      · rfl
      · rfl
      · rfl
      · rfl
      · cases u <;> simp_all [isInts, isSl, cellF]
    · cases h
def blocksF (l : List Bk) : F := slF bkF .zero l
def isBlocks (x : F) : Bool := isSl isBk x
def unBlocks (x : F) : List Bk := unSl unBk x
theorem unBlocks_blocksF (l : List Bk) : unBlocks (blocksF l) = l := unSl_slF unBk_bkF l
theorem isBlocks_blocksF (l : List Bk) : isBlocks (blocksF l) = true := isSl_slF l fun b _ => isBk_bkF b
theorem blocks_eqv {x : F} (hx : isBlocks x = true) : FLe x (blocksF (unBlocks x)) ∧ FLe (blocksF (unBlocks x)) x := slF_eqv' (fun _ h => bk_el h) hx
structure Qd where
  most : Int
  deep : Int
  items : List It
  blocks : List Bk
def Qd.zero : Qd := ⟨0, 0, [], []⟩
def qdF (q : Qd) : F := .agg [.int .i64 q.most, .int .i64 q.deep, itemsF q.items, blocksF q.blocks]
def isQd : F → Bool
  | .agg [.int .i64 _, .int .i64 _, i, b] => isItems i && isBlocks b
  | _ => false
def unQd : F → Qd
  | .agg [.int .i64 m, .int .i64 d, i, b] => ⟨m, d, unItems i, unBlocks b⟩
  | _ => .zero
theorem unQd_qdF (q : Qd) : unQd (qdF q) = q := by
  show Qd.mk q.most q.deep (unItems (itemsF q.items)) (unBlocks (blocksF q.blocks)) = q
  rw [unItems_itemsF, unBlocks_blocksF]
theorem isQd_qdF (q : Qd) : isQd (qdF q) = true := by
  show (isItems (itemsF q.items) && isBlocks (blocksF q.blocks)) = true
  rw [isItems_itemsF, isBlocks_blocksF]; rfl
theorem qd_eqv {x : F} (h : isQd x = true) : FLe x (qdF (unQd x)) ∧ FLe (qdF (unQd x)) x := by
  unfold isQd at h
  split at h
  · rw [Bool.and_eq_true] at h
    exact ⟨FLe.agg ⟨.refl _, .refl _, (items_eqv h.1).1, (blocks_eqv h.2).1, trivial⟩, FLe.agg ⟨.refl _, .refl _, (items_eqv h.1).2, (blocks_eqv h.2).2, trivial⟩⟩
  · cases h
inductive Tr where
  | leaf (x y size : Int) (ids : List Int)
  | node (x y size : Int) (a b c d : Tr)
def Tr.x : Tr → Int | .leaf x _ _ _ => x | .node x _ _ _ _ _ _ => x
def Tr.y : Tr → Int | .leaf _ y _ _ => y | .node _ y _ _ _ _ _ => y
def Tr.size : Tr → Int | .leaf _ _ s _ => s | .node _ _ s _ _ _ _ => s
def Tr.ids : Tr → List Int | .leaf _ _ _ l => l | .node _ _ _ _ _ _ _ => []
def Tr.kn : Tr → Nat | .leaf _ _ _ _ => 0 | .node _ _ _ _ _ _ _ => 4
def kidG : Tr → Nat → F
  | .leaf _ _ _ _ => fun _ => .dflt
  | .node _ _ _ a b c d => lget [.agg [.int .i64 a.x, .int .i64 a.y, .int .i64 a.size, .sl a.kn (kidG a), intsF a.ids], .agg [.int .i64 b.x, .int .i64 b.y, .int .i64 b.size, .sl b.kn (kidG b), intsF b.ids],
      .agg [.int .i64 c.x, .int .i64 c.y, .int .i64 c.size, .sl c.kn (kidG c), intsF c.ids], .agg [.int .i64 d.x, .int .i64 d.y, .int .i64 d.size, .sl d.kn (kidG d), intsF d.ids]]
def trF (t : Tr) : F := .agg [.int .i64 t.x, .int .i64 t.y, .int .i64 t.size, .sl t.kn (kidG t), intsF t.ids]
def Tr.zero : Tr := .leaf 0 0 0 []
theorem trF_inj : ∀ (t t' : Tr), trF t = trF t' → t = t'
  | .leaf _ _ _ _, .leaf _ _ _ _, h => by
    simp only [trF, F.agg.injEq, List.cons.injEq, F.int.injEq, true_and, and_true, Tr.x, Tr.y, Tr.size, Tr.ids] at h
    obtain ⟨rfl, rfl, rfl, _, h⟩ := h
    rw [intsF_inj h]
  | .leaf _ _ _ _, .node _ _ _ _ _ _ _, h => by
    simp only [trF, F.agg.injEq, List.cons.injEq, F.sl.injEq, Tr.kn] at h
    omega
  | .node _ _ _ _ _ _ _, .leaf _ _ _ _, h => by
    simp only [trF, F.agg.injEq, List.cons.injEq, F.sl.injEq, Tr.kn] at h
    omega
  | .node _ _ _ a b c d, .node _ _ _ a' b' c' d', h => by
    simp only [trF, F.agg.injEq, List.cons.injEq, F.sl.injEq, F.int.injEq, true_and, and_true, Tr.x, Tr.y, Tr.size] at h
    obtain ⟨rfl, rfl, rfl, ⟨_, h⟩, _⟩ := h
    rw [trF_inj a a' (congrFun h 0), trF_inj b b' (congrFun h 1), trF_inj c c' (congrFun h 2), trF_inj d d' (congrFun h 3)]
noncomputable def isTr (x : F) : Bool := @decide (∃ t, x = trF t) (Classical.propDecidable _)
theorem unTr_ex (x : F) : ∃ t : Tr, isTr x = true → x = trF t := by
  by_cases h : isTr x = true
  · obtain ⟨t, ht⟩ := @of_decide_eq_true _ (Classical.propDecidable _) h
    exact ⟨t, fun _ => ht⟩
  · exact ⟨.zero, fun h' => absurd h' h⟩
noncomputable def unTr (x : F) : Tr := Classical.choose (unTr_ex x)
theorem isTr_trF (t : Tr) : isTr (trF t) = true := @decide_eq_true _ (Classical.propDecidable _) ⟨t, rfl⟩
theorem tr_eq {x : F} (h : isTr x = true) : x = trF (unTr x) := Classical.choose_spec (unTr_ex x) h
theorem unTr_trF (t : Tr) : unTr (trF t) = t := (trF_inj _ _ (tr_eq (isTr_trF t))).symm
end Go.Proofs.YtdcooaopkbicfaaGreat.R
namespace Go.Proofs.YtdcooaopkbicfaaGreat.R
open Go
noncomputable section
/-! ### function 69 -/
def S69_3a (l : List It) (x : Int) (y : Int) (sz : Int) (i : Int) : St := ⟨[.bad, (U.f (F.int .i64 x)), (U.f (F.int .i64 y)), (U.f (F.int .i64 sz)), .bad, .bad, .bad, .bad, (U.hp 0 0), (U.hp 1 0), .bad, .bad, .bad, .bad, .bad, .bad, .bad, (U.f (itemsF l)), (U.f (F.int .i64 l.length)), (U.f (F.int .i64 i)), .bad, .bad, .bad, .bad, .bad, .bad, .bad, .bad, .bad, .bad, .bad, .bad, .bad, .bad, .bad, .bad, .bad, .bad, .bad, .bad, .bad, .bad, .bad, .bad, .bad], [HO.box [(U.f (F.int .i64 0)), (U.f (F.int .i64 0)), (U.f (F.int .i64 0)), (U.f (F.bool false)), U.nils], HO.box [(U.f (F.int .i64 x)), (U.f (F.int .i64 y)), (U.f (F.int .i64 sz)), (U.f (F.bool false)), U.nils]]⟩
def S69_3b (l : List It) (x : Int) (y : Int) (sz : Int) (i : Int) (n : Nat) (g : Nat → F) : St := ⟨[.bad, (U.f (F.int .i64 x)), (U.f (F.int .i64 y)), (U.f (F.int .i64 sz)), .bad, .bad, .bad, .bad, (U.hp 0 0), (U.hp 1 0), .bad, .bad, .bad, .bad, .bad, .bad, .bad, (U.f (itemsF l)), (U.f (F.int .i64 l.length)), (U.f (F.int .i64 i)), .bad, .bad, .bad, .bad, .bad, .bad, .bad, .bad, .bad, .bad, .bad, .bad, .bad, .bad, .bad, .bad, .bad, .bad, .bad, .bad, .bad, .bad, .bad, .bad, .bad], [HO.box [(U.f (F.int .i64 0)), (U.f (F.int .i64 0)), (U.f (F.int .i64 0)), (U.f (F.bool false)), U.nils], HO.box [(U.f (F.int .i64 x)), (U.f (F.int .i64 y)), (U.f (F.int .i64 sz)), (U.f (F.bool false)), (U.hs 2 n 0 n)], HO.arr 1 n g]⟩
def T69_3a {ρ : Type} (ret : (Nat) → (Nat → F) → Option ρ) (c3a : (List It) → (Int) → (Int) → (Int) → (Int) → Option ρ) (c3b : (List It) → (Int) → (Int) → (Int) → (Int) → (Nat) → (Nat → F) → Option ρ) (l : List It) (x : Int) (y : Int) (sz : Int) (i : Int) : Option ρ :=
 (bsel (decide (i < (↑l.length : Int)))
 (bsel (decide (0 ≤ i))
 (bsel (decide (i < (↑l.length : Int)))
 (bsel (meetsV (l.getD i.toNat It.zero).x0 (l.getD i.toNat It.zero).y0 (l.getD i.toNat It.zero).x1 (l.getD i.toNat It.zero).y1 x y (IntKind.i64.wrap (x + sz)) (IntKind.i64.wrap (y + sz)))
 (bsel (decide (((1 : Nat) : Int) * (((8 : Nat) : Int) + 1) ≤ (↑limit : Int)))
 (c3b (l) (x) (y) (sz) (IntKind.i64.wrap (i + 1)) (1) (fun x ↦ F.int .i64 (l.getD i.toNat It.zero).id))
 none)
 (c3a (l) (x) (y) (sz) (IntKind.i64.wrap (i + 1))))
 none)
 none)
 (ret (0) (fun x ↦ F.bool false)))
def T69_3b {ρ : Type} (ret : (Nat) → (Nat → F) → Option ρ) (c3a : (List It) → (Int) → (Int) → (Int) → (Int) → Option ρ) (c3b : (List It) → (Int) → (Int) → (Int) → (Int) → (Nat) → (Nat → F) → Option ρ) (l : List It) (x : Int) (y : Int) (sz : Int) (i : Int) (n : Nat) (g : Nat → F) : Option ρ :=
 (bsel (decide (i < (↑l.length : Int)))
 (bsel (decide (0 ≤ i))
 (bsel (decide (i < (↑l.length : Int)))
 (bsel (meetsV (l.getD i.toNat It.zero).x0 (l.getD i.toNat It.zero).y0 (l.getD i.toNat It.zero).x1 (l.getD i.toNat It.zero).y1 x y (IntKind.i64.wrap (x + sz)) (IntKind.i64.wrap (y + sz)))
 (bsel (decide (n = n))
 (bsel (decide (n = n))
 (bsel (decide ((↑(n + 1) : Int) * (((8 : Nat) : Int) + 1) ≤ (↑limit : Int)))
 (c3b (l) (x) (y) (sz) (IntKind.i64.wrap (i + 1)) (n + 1) (fun j ↦ if j < n then g j else F.int .i64 (l.getD i.toNat It.zero).id))
 none)
 none)
 none)
 (c3b (l) (x) (y) (sz) (IntKind.i64.wrap (i + 1)) (n) (g)))
 none)
 none)
 (bsel (decide (n = n))
 (ret (n) (g))
 none))
mutual
def L69_3a : Nat → (List It) → (Int) → (Int) → (Int) → (Int) → Option ((Nat) × (Nat → F))
  | 0, _, _, _, _, _ => none
  | k + 1, l, x, y, sz, i => T69_3a (fun rn rg => some (rn, rg)) (L69_3a k) (L69_3b k) l x y sz i
def L69_3b : Nat → (List It) → (Int) → (Int) → (Int) → (Int) → (Nat) → (Nat → F) → Option ((Nat) × (Nat → F))
  | 0, _, _, _, _, _, _, _ => none
  | k + 1, l, x, y, sz, i, n, g => T69_3b (fun rn rg => some (rn, rg)) (L69_3a k) (L69_3b k) l x y sz i n g
end
def T69 {ρ : Type} (ret : (Nat) → (Nat → F) → Option ρ) (c3a : (List It) → (Int) → (Int) → (Int) → (Int) → Option ρ) (c3b : (List It) → (Int) → (Int) → (Int) → (Int) → (Nat) → (Nat → F) → Option ρ) (q : Qd) (x : Int) (y : Int) (sz : Int) : Option ρ :=
 (c3a (q.items) (x) (y) (sz) (0))
def G69 (k : Nat) (q : Qd) (x : Int) (y : Int) (sz : Int) : Option ((Nat) × (Nat → F)) := T69 (fun rn rg => some (rn, rg)) (L69_3a k) (L69_3b k) q x y sz
mutual
theorem t69_3a : ∀ (k : Nat) (l : List It) (x : Int) (y : Int) (sz : Int) (i : Int) (rn : Nat) (rg : Nat → F), L69_3a k l x y sz i = some (rn, rg) → Ends Tryz.prog Tryz.f69.results.toList (at_ Tryz.f69 3) (S69_3a l x y sz i) (F.agg [F.int .i64 x, F.int .i64 y, F.int .i64 sz, F.bool false, F.sl rn rg])
  | 0, _, _, _, _, _, _, _, h => nomatch h
  | k + 1, l, x, y, sz, i, rn, rg, h => by
    refine Ends.of_cut tyOK envW5_ok (T := [(3, [1, 2, 3, 8, 9, 17, 18, 19], 1000)]) (n := 200) ?_
    have e : runCut Tryz.prog (tiOf Tryz.prog) envW5 [(3, [1, 2, 3, 8, 9, 17, 18, 19], 1000)] 0 Tryz.f69.results.toList some 200 (at_ Tryz.f69 3) (S69_3a l x y sz i) = T69_3a (fun rn rg => some (.ret (F.agg [F.int .i64 x, F.int .i64 y, F.int .i64 sz, F.bool false, F.sl rn rg]))) (fun l x y sz i => some (.cut (at_ Tryz.f69 3) (S69_3a l x y sz i))) (fun l x y sz i n g => some (.cut (at_ Tryz.f69 3) (S69_3b l x y sz i n g))) l x y sz i := by kernel_rfl
    rw [e]
    exact (good_sel h (fun _ h => (good_sel h (fun _ h => (good_sel h (fun _ h => (good_sel h (fun _ h => (good_sel h (fun _ h => good_cut (t69_3b k _ _ _ _ _ _ _ rn rg h)) (fun _ h => nomatch h))) (fun _ h => good_cut (t69_3a k _ _ _ _ _ rn rg h)))) (fun _ h => nomatch h))) (fun _ h => nomatch h))) (fun _ h => good_ret (by cases h; rfl)))
theorem t69_3b : ∀ (k : Nat) (l : List It) (x : Int) (y : Int) (sz : Int) (i : Int) (n : Nat) (g : Nat → F) (rn : Nat) (rg : Nat → F), L69_3b k l x y sz i n g = some (rn, rg) → Ends Tryz.prog Tryz.f69.results.toList (at_ Tryz.f69 3) (S69_3b l x y sz i n g) (F.agg [F.int .i64 x, F.int .i64 y, F.int .i64 sz, F.bool false, F.sl rn rg])
  | 0, _, _, _, _, _, _, _, _, _, h => nomatch h
  | k + 1, l, x, y, sz, i, n, g, rn, rg, h => by
    refine Ends.of_cut tyOK envW5_ok (T := [(3, [1, 2, 3, 8, 9, 17, 18, 19], 1000)]) (n := 200) ?_
    have e : runCut Tryz.prog (tiOf Tryz.prog) envW5 [(3, [1, 2, 3, 8, 9, 17, 18, 19], 1000)] 0 Tryz.f69.results.toList some 200 (at_ Tryz.f69 3) (S69_3b l x y sz i n g) = T69_3b (fun rn rg => some (.ret (F.agg [F.int .i64 x, F.int .i64 y, F.int .i64 sz, F.bool false, F.sl rn rg]))) (fun l x y sz i => some (.cut (at_ Tryz.f69 3) (S69_3a l x y sz i))) (fun l x y sz i n g => some (.cut (at_ Tryz.f69 3) (S69_3b l x y sz i n g))) l x y sz i n g := by kernel_rfl
    rw [e]
    exact (good_sel h (fun _ h => (good_sel h (fun _ h => (good_sel h (fun _ h => (good_sel h (fun _ h => (good_sel h (fun _ h => (good_sel h (fun _ h => (good_sel h (fun _ h => good_cut (t69_3b k _ _ _ _ _ _ _ rn rg h)) (fun _ h => nomatch h))) (fun _ h => nomatch h))) (fun _ h => nomatch h))) (fun _ h => good_cut (t69_3b k _ _ _ _ _ _ _ rn rg h)))) (fun _ h => nomatch h))) (fun _ h => nomatch h))) (fun _ h => (good_sel h (fun _ h => good_ret (by cases h; rfl)) (fun _ h => nomatch h))))
end
theorem t69 (k : Nat) (q : Qd) (x : Int) (y : Int) (sz : Int) (rn : Nat) (rg : Nat → F) (h : G69 k q x y sz = some (rn, rg)) : Ends Tryz.prog Tryz.f69.results.toList [.code (bodyOf Tryz.f69)] (start Tryz.f69.ntmps ([qdF q, F.int .i64 x, F.int .i64 y, F.int .i64 sz].map .f)) (F.agg [F.int .i64 x, F.int .i64 y, F.int .i64 sz, F.bool false, F.sl rn rg]) := by
  refine Ends.of_run tyOK envW5_ok (T := [(3, [1, 2, 3, 8, 9, 17, 18, 19], 1000)]) (n := 200) ?_
  have e : run Tryz.prog (tiOf Tryz.prog) envW5 [(3, [1, 2, 3, 8, 9, 17, 18, 19], 1000)] 0 Tryz.f69.results.toList some 200 [.code (bodyOf Tryz.f69)] (start Tryz.f69.ntmps ([qdF q, F.int .i64 x, F.int .i64 y, F.int .i64 sz].map .f)) = T69 (fun rn rg => some (.ret (F.agg [F.int .i64 x, F.int .i64 y, F.int .i64 sz, F.bool false, F.sl rn rg]))) (fun l x y sz i => some (.cut (at_ Tryz.f69 3) (S69_3a l x y sz i))) (fun l x y sz i n g => some (.cut (at_ Tryz.f69 3) (S69_3b l x y sz i n g))) q x y sz := by kernel_rfl
  rw [e]
  exact good_cut (t69_3a k _ _ _ _ _ rn rg h)
/-! ### function 67 -/
def S67_4 (a : List Int) (b : List Int) (i : Int) : St := ⟨[(U.f (intsF a)), (U.f (intsF b)), .bad, .bad, .bad, .bad, .bad, .bad, .bad, .bad, .bad, .bad, (U.f (F.int .i64 a.length)), (U.f (F.int .i64 i)), .bad, .bad, .bad, .bad, .bad, .bad, .bad, .bad, .bad, .bad, .bad, .bad], []⟩
def T67_4 {ρ : Type} (ret : (Bool) → Option ρ) (c4 : (List Int) → (List Int) → (Int) → Option ρ) (a : List Int) (b : List Int) (i : Int) : Option ρ :=
 (bsel (decide (i < (↑a.length : Int)))
 (bsel (decide (0 ≤ i))
 (bsel (decide (i < (↑a.length : Int)))
 (bsel (decide (0 ≤ i))
 (bsel (decide (i < (↑b.length : Int)))
 (bsel (a.getD i.toNat 0 != b.getD i.toNat 0)
 (ret (false))
 (c4 (a) (b) (IntKind.i64.wrap (i + 1))))
 none)
 none)
 none)
 none)
 (ret (true)))
def L67_4 : Nat → (List Int) → (List Int) → (Int) → Option (Bool)
  | 0, _, _, _ => none
  | k + 1, a, b, i => T67_4 some (L67_4 k) a b i
def T67 {ρ : Type} (ret : (Bool) → Option ρ) (c4 : (List Int) → (List Int) → (Int) → Option ρ) (a : List Int) (b : List Int) : Option ρ :=
 (bsel ((↑a.length : Int) != (↑b.length : Int))
 (ret (false))
 (c4 (a) (b) (0)))
def G67 (k : Nat) (a : List Int) (b : List Int) : Option (Bool) := T67 some (L67_4 k) a b
theorem t67_4 : ∀ (k : Nat) (a : List Int) (b : List Int) (i : Int) (r : Bool), L67_4 k a b i = some r → Ends Tryz.prog Tryz.f67.results.toList (at_ Tryz.f67 4) (S67_4 a b i) (F.bool r)
  | 0, _, _, _, _, h => nomatch h
  | k + 1, a, b, i, r, h => by
    refine Ends.of_cut tyOK envW5_ok (T := [(4, [0, 1, 12, 13], 1000)]) (n := 200) ?_
    have e : runCut Tryz.prog (tiOf Tryz.prog) envW5 [(4, [0, 1, 12, 13], 1000)] 0 Tryz.f67.results.toList some 200 (at_ Tryz.f67 4) (S67_4 a b i) = T67_4 (fun r => some (.ret (F.bool r))) (fun a b i => some (.cut (at_ Tryz.f67 4) (S67_4 a b i))) a b i := by kernel_rfl
    rw [e]
    exact (good_sel h (fun _ h => (good_sel h (fun _ h => (good_sel h (fun _ h => (good_sel h (fun _ h => (good_sel h (fun _ h => (good_sel h (fun _ h => good_ret (by cases h; rfl)) (fun _ h => good_cut (t67_4 k _ _ _ r h)))) (fun _ h => nomatch h))) (fun _ h => nomatch h))) (fun _ h => nomatch h))) (fun _ h => nomatch h))) (fun _ h => good_ret (by cases h; rfl)))
theorem t67 (k : Nat) (a : List Int) (b : List Int) (r : Bool) (h : G67 k a b = some r) : Ends Tryz.prog Tryz.f67.results.toList [.code (bodyOf Tryz.f67)] (start Tryz.f67.ntmps ([intsF a, intsF b].map .f)) (F.bool r) := by
  refine Ends.of_run tyOK envW5_ok (T := [(4, [0, 1, 12, 13], 1000)]) (n := 200) ?_
  have e : run Tryz.prog (tiOf Tryz.prog) envW5 [(4, [0, 1, 12, 13], 1000)] 0 Tryz.f67.results.toList some 200 [.code (bodyOf Tryz.f67)] (start Tryz.f67.ntmps ([intsF a, intsF b].map .f)) = T67 (fun r => some (.ret (F.bool r))) (fun a b i => some (.cut (at_ Tryz.f67 4) (S67_4 a b i))) a b := by kernel_rfl
  rw [e]
  exact (good_sel h (fun _ h => good_ret (by cases h; rfl)) (fun _ h => good_cut (t67_4 k _ _ _ r h)))
/-! ### function 53 -/
def T53 {ρ : Type} (ret : (Bool) → Option ρ) (t : Tr) (s : Sg) : Option ρ :=
 (ret (meetsV s.x0 s.y0 s.x1 s.y1 t.x t.y (IntKind.i64.wrap (t.x + t.size)) (IntKind.i64.wrap (t.y + t.size))))
def G53 (t : Tr) (s : Sg) : Option (Bool) := T53 some t s
theorem t53 (t : Tr) (s : Sg) (r : Bool) (h : G53 t s = some r) : Ends Tryz.prog Tryz.f53.results.toList [.code (bodyOf Tryz.f53)] (start Tryz.f53.ntmps ([trF t, sgF s].map .f)) (F.bool r) := by
  refine Ends.of_run tyOK envW5_ok (T := []) (n := 200) ?_
  have e : run Tryz.prog (tiOf Tryz.prog) envW5 [] 0 Tryz.f53.results.toList some 200 [.code (bodyOf Tryz.f53)] (start Tryz.f53.ntmps ([trF t, sgF s].map .f)) = T53 (fun r => some (.ret (F.bool r))) t s := by kernel_rfl
  rw [e]
  exact good_ret (by cases h; rfl)
/-! ### function 28 -/
def T28 {ρ : Type} (ret : (Bool) → Option ρ) (a : Int) (b : Int) : Option ρ :=
 (bsel (inV a 1 8 == true)
 (ret (inV b 0 8))
 (ret (false)))
def G28 (a : Int) (b : Int) : Option (Bool) := T28 some a b
theorem t28 (a : Int) (b : Int) (r : Bool) (h : G28 a b = some r) : Ends Tryz.prog Tryz.f28.results.toList [.code (bodyOf Tryz.f28)] (start Tryz.f28.ntmps ([F.int .i64 a, F.int .i64 b].map .f)) (F.bool r) := by
  refine Ends.of_run tyOK envW5_ok (T := []) (n := 200) ?_
  have e : run Tryz.prog (tiOf Tryz.prog) envW5 [] 0 Tryz.f28.results.toList some 200 [.code (bodyOf Tryz.f28)] (start Tryz.f28.ntmps ([F.int .i64 a, F.int .i64 b].map .f)) = T28 (fun r => some (.ret (F.bool r))) a b := by kernel_rfl
  rw [e]
  exact (good_sel h (fun _ h => good_ret (by cases h; rfl)) (fun _ h => good_ret (by cases h; rfl)))
/-! ### function 96 -/
def T96 {ρ : Type} (ret : (Bool) → Option ρ) (a : Int) (b : Int) (c : Int) (d : Int) : Option ρ :=
 (bsel (a != c)
 (ret (false))
 (bsel (b != d)
 (ret (false))
 (ret (true))))
def G96 (a : Int) (b : Int) (c : Int) (d : Int) : Option (Bool) := T96 some a b c d
theorem t96 (a : Int) (b : Int) (c : Int) (d : Int) (r : Bool) (h : G96 a b c d = some r) : Ends Tryz.prog Tryz.f96.results.toList [.code (bodyOf Tryz.f96)] (start Tryz.f96.ntmps ([F.agg [F.int .i64 a, F.int .i64 b], F.agg [F.int .i64 c, F.int .i64 d]].map .f)) (F.bool r) := by
  refine Ends.of_run tyOK envW5_ok (T := []) (n := 200) ?_
  have e : run Tryz.prog (tiOf Tryz.prog) envW5 [] 0 Tryz.f96.results.toList some 200 [.code (bodyOf Tryz.f96)] (start Tryz.f96.ntmps ([F.agg [F.int .i64 a, F.int .i64 b], F.agg [F.int .i64 c, F.int .i64 d]].map .f)) = T96 (fun r => some (.ret (F.bool r))) a b c d := by kernel_rfl
  rw [e]
  exact (good_sel h (fun _ h => good_ret (by cases h; rfl)) (fun _ h => (good_sel h (fun _ h => good_ret (by cases h; rfl)) (fun _ h => good_ret (by cases h; rfl)))))
/-! ### function 81 -/
def S81_4 (a : List Int) (b : List Int) (i : Int) : St := ⟨[(U.f (intsF a)), (U.f (intsF b)), .bad, .bad, .bad, (U.f (F.int .i64 i)), .bad, .bad, .bad, .bad, .bad, .bad, .bad, .bad, .bad, .bad, .bad, .bad, .bad, .bad, .bad, .bad, .bad, .bad, .bad, .bad], []⟩
def T81_4 {ρ : Type} (ret : (Bool) → Option ρ) (c4 : (List Int) → (List Int) → (Int) → Option ρ) (a : List Int) (b : List Int) (i : Int) : Option ρ :=
 (bsel (decide (i < (↑a.length : Int)))
 (bsel (decide (0 ≤ i))
 (bsel (decide (i < (↑a.length : Int)))
 (bsel (decide (0 ≤ i))
 (bsel (decide (i < (↑b.length : Int)))
 (bsel (a.getD i.toNat 0 != b.getD i.toNat 0)
 (ret (false))
 (c4 (a) (b) (IntKind.i64.wrap (i + 1))))
 none)
 none)
 none)
 none)
 (ret (true)))
def L81_4 : Nat → (List Int) → (List Int) → (Int) → Option (Bool)
  | 0, _, _, _ => none
  | k + 1, a, b, i => T81_4 some (L81_4 k) a b i
def T81 {ρ : Type} (ret : (Bool) → Option ρ) (c4 : (List Int) → (List Int) → (Int) → Option ρ) (a : List Int) (b : List Int) : Option ρ :=
 (bsel ((↑a.length : Int) != (↑b.length : Int))
 (ret (false))
 (c4 (a) (b) (0)))
def G81 (k : Nat) (a : List Int) (b : List Int) : Option (Bool) := T81 some (L81_4 k) a b
theorem t81_4 : ∀ (k : Nat) (a : List Int) (b : List Int) (i : Int) (r : Bool), L81_4 k a b i = some r → Ends Tryz.prog Tryz.f81.results.toList (at_ Tryz.f81 4) (S81_4 a b i) (F.bool r)
  | 0, _, _, _, _, h => nomatch h
  | k + 1, a, b, i, r, h => by
    refine Ends.of_cut tyOK envW5_ok (T := [(4, [0, 1, 5], 1000)]) (n := 200) ?_
    have e : runCut Tryz.prog (tiOf Tryz.prog) envW5 [(4, [0, 1, 5], 1000)] 0 Tryz.f81.results.toList some 200 (at_ Tryz.f81 4) (S81_4 a b i) = T81_4 (fun r => some (.ret (F.bool r))) (fun a b i => some (.cut (at_ Tryz.f81 4) (S81_4 a b i))) a b i := by kernel_rfl
    rw [e]
    exact (good_sel h (fun _ h => (good_sel h (fun _ h => (good_sel h (fun _ h => (good_sel h (fun _ h => (good_sel h (fun _ h => (good_sel h (fun _ h => good_ret (by cases h; rfl)) (fun _ h => good_cut (t81_4 k _ _ _ r h)))) (fun _ h => nomatch h))) (fun _ h => nomatch h))) (fun _ h => nomatch h))) (fun _ h => nomatch h))) (fun _ h => good_ret (by cases h; rfl)))
theorem t81 (k : Nat) (a : List Int) (b : List Int) (r : Bool) (h : G81 k a b = some r) : Ends Tryz.prog Tryz.f81.results.toList [.code (bodyOf Tryz.f81)] (start Tryz.f81.ntmps ([intsF a, intsF b].map .f)) (F.bool r) := by
  refine Ends.of_run tyOK envW5_ok (T := [(4, [0, 1, 5], 1000)]) (n := 200) ?_
  have e : run Tryz.prog (tiOf Tryz.prog) envW5 [(4, [0, 1, 5], 1000)] 0 Tryz.f81.results.toList some 200 [.code (bodyOf Tryz.f81)] (start Tryz.f81.ntmps ([intsF a, intsF b].map .f)) = T81 (fun r => some (.ret (F.bool r))) (fun a b i => some (.cut (at_ Tryz.f81 4) (S81_4 a b i))) a b := by kernel_rfl
  rw [e]
  exact (good_sel h (fun _ h => good_ret (by cases h; rfl)) (fun _ h => good_cut (t81_4 k _ _ _ r h)))
/-! ### function 51 -/
def T51 {ρ : Type} (ret : (Int) → Option ρ) (a : List Int) (k : Int) : Option ρ :=
 (bsel (decide (IntKind.i64.wrap (k - (↑a.length : Int)) < 0))
 (ret (-1))
 (ret (IntKind.i64.wrap (k - (↑a.length : Int)))))
def G51 (a : List Int) (k : Int) : Option (Int) := T51 some a k
theorem t51 (a : List Int) (k : Int) (r : Int) (h : G51 a k = some r) : Ends Tryz.prog Tryz.f51.results.toList [.code (bodyOf Tryz.f51)] (start Tryz.f51.ntmps ([intsF a, F.int .i64 k].map .f)) (F.int .i64 r) := by
  refine Ends.of_run tyOK envW5_ok (T := []) (n := 200) ?_
  have e : run Tryz.prog (tiOf Tryz.prog) envW5 [] 0 Tryz.f51.results.toList some 200 [.code (bodyOf Tryz.f51)] (start Tryz.f51.ntmps ([intsF a, F.int .i64 k].map .f)) = T51 (fun r => some (.ret (F.int .i64 r))) a k := by kernel_rfl
  rw [e]
  exact (good_sel h (fun _ h => good_ret (by cases h; rfl)) (fun _ h => good_ret (by cases h; rfl)))
/-! ### function 11 -/
def T11 {ρ : Type} (ret : (Int) → Option ρ) (a : List It) (k : Int) : Option ρ :=
 (bsel (decide (IntKind.i64.wrap (k - (↑a.length : Int)) < 0))
 (ret (-1))
 (ret (IntKind.i64.wrap (k - (↑a.length : Int)))))
def G11 (a : List It) (k : Int) : Option (Int) := T11 some a k
theorem t11 (a : List It) (k : Int) (r : Int) (h : G11 a k = some r) : Ends Tryz.prog Tryz.f11.results.toList [.code (bodyOf Tryz.f11)] (start Tryz.f11.ntmps ([itemsF a, F.int .i64 k].map .f)) (F.int .i64 r) := by
  refine Ends.of_run tyOK envW5_ok (T := []) (n := 200) ?_
  have e : run Tryz.prog (tiOf Tryz.prog) envW5 [] 0 Tryz.f11.results.toList some 200 [.code (bodyOf Tryz.f11)] (start Tryz.f11.ntmps ([itemsF a, F.int .i64 k].map .f)) = T11 (fun r => some (.ret (F.int .i64 r))) a k := by kernel_rfl
  rw [e]
  exact (good_sel h (fun _ h => good_ret (by cases h; rfl)) (fun _ h => good_ret (by cases h; rfl)))
/-! ### function 7 -/
def T7 {ρ : Type} (ret : (F) → Option ρ) (a : Int) (b : Int) : Option ρ :=
 (ret (F.agg [F.int .i64 a, F.int .i64 b]))
def G7 (a : Int) (b : Int) : Option (F) := T7 some a b
theorem t7 (a : Int) (b : Int) (r : F) (h : G7 a b = some r) : Ends Tryz.prog Tryz.f7.results.toList [.code (bodyOf Tryz.f7)] (start Tryz.f7.ntmps ([F.agg [F.int .i64 a, F.int .i64 b]].map .f)) (r) := by
  refine Ends.of_run tyOK envW5_ok (T := []) (n := 200) ?_
  have e : run Tryz.prog (tiOf Tryz.prog) envW5 [] 0 Tryz.f7.results.toList some 200 [.code (bodyOf Tryz.f7)] (start Tryz.f7.ntmps ([F.agg [F.int .i64 a, F.int .i64 b]].map .f)) = T7 (fun r => some (.ret (r))) a b := by kernel_rfl
  rw [e]
  exact good_ret (by cases h; rfl)
/-! ### function 65 -/
def S65_3 (a : List Int) (n : Nat) (g : Nat → F) (i : Int) : St := ⟨[(U.f (intsF a)), .bad, .bad, (U.hs 0 n 0 n), (U.f (F.int .i64 i)), .bad, .bad, .bad, .bad, .bad, .bad, .bad, .bad, .bad, .bad, .bad, .bad, .bad, .bad, .bad, .bad, .bad], [HO.arr 1 n g]⟩
def T65_3 {ρ : Type} (ret : (Nat) → (Nat → F) → Option ρ) (c3 : (List Int) → (Nat) → (Nat → F) → (Int) → Option ρ) (a : List Int) (n : Nat) (g : Nat → F) (i : Int) : Option ρ :=
 (bsel (decide (i < (↑a.length : Int)))
 (bsel (decide (0 ≤ i))
 (bsel (decide (i < (↑a.length : Int)))
 (bsel (decide (n = n))
 (bsel (decide (0 ≤ i))
 (bsel (decide (i < (↑n : Int)))
 (bsel (decide (n = n))
 (bsel (decide (0 + i.toNat < n))
 (bsel (decide ((g (0 + i.toNat)).cells.length = 1))
 (bsel ((isAggF (g (0 + i.toNat)) || true) && true)
 (c3 (a) (n) (fun j ↦ if j = 0 + i.toNat then F.int .i64 (a.getD i.toNat 0) else g j) (IntKind.i64.wrap (i + 1)))
 none)
 none)
 none)
 none)
 none)
 none)
 none)
 none)
 none)
 (bsel (decide (n = n))
 (ret (n) (g))
 none))
def L65_3 : Nat → (List Int) → (Nat) → (Nat → F) → (Int) → Option ((Nat) × (Nat → F))
  | 0, _, _, _, _ => none
  | k + 1, a, n, g, i => T65_3 (fun rn rg => some (rn, rg)) (L65_3 k) a n g i
def T65 {ρ : Type} (ret : (Nat) → (Nat → F) → Option ρ) (c3 : (List Int) → (Nat) → (Nat → F) → (Int) → Option ρ) (a : List Int) : Option ρ :=
 (bsel (decide ((↑a.length : Int) ≤ (↑a.length : Int)))
 (bsel (decide ((↑a.length : Int) * (((8 : Nat) : Int) + 1) ≤ (↑limit : Int)))
 (c3 (a) ((↑a.length : Int).toNat) (fun x ↦ F.int .i64 0) (0))
 none)
 none)
def G65 (k : Nat) (a : List Int) : Option ((Nat) × (Nat → F)) := T65 (fun rn rg => some (rn, rg)) (L65_3 k) a
theorem t65_3 : ∀ (k : Nat) (a : List Int) (n : Nat) (g : Nat → F) (i : Int) (rn : Nat) (rg : Nat → F), L65_3 k a n g i = some (rn, rg) → Ends Tryz.prog Tryz.f65.results.toList (at_ Tryz.f65 3) (S65_3 a n g i) (F.sl rn rg)
  | 0, _, _, _, _, _, _, h => nomatch h
  | k + 1, a, n, g, i, rn, rg, h => by
    refine Ends.of_cut tyOK envW5_ok (T := [(3, [0, 3, 4], 1000)]) (n := 200) ?_
    have e : runCut Tryz.prog (tiOf Tryz.prog) envW5 [(3, [0, 3, 4], 1000)] 0 Tryz.f65.results.toList some 200 (at_ Tryz.f65 3) (S65_3 a n g i) = T65_3 (fun rn rg => some (.ret (F.sl rn rg))) (fun a n g i => some (.cut (at_ Tryz.f65 3) (S65_3 a n g i))) a n g i := by kernel_rfl
    rw [e]
    exact (good_sel h (fun _ h => (good_sel h (fun _ h => (good_sel h (fun _ h => (good_sel h (fun _ h => (good_sel h (fun _ h => (good_sel h (fun _ h => (good_sel h (fun _ h => (good_sel h (fun _ h => (good_sel h (fun _ h => (good_sel h (fun _ h => good_cut (t65_3 k _ _ _ _ rn rg h)) (fun _ h => nomatch h))) (fun _ h => nomatch h))) (fun _ h => nomatch h))) (fun _ h => nomatch h))) (fun _ h => nomatch h))) (fun _ h => nomatch h))) (fun _ h => nomatch h))) (fun _ h => nomatch h))) (fun _ h => nomatch h))) (fun _ h => (good_sel h (fun _ h => good_ret (by cases h; rfl)) (fun _ h => nomatch h))))
theorem t65 (k : Nat) (a : List Int) (rn : Nat) (rg : Nat → F) (h : G65 k a = some (rn, rg)) : Ends Tryz.prog Tryz.f65.results.toList [.code (bodyOf Tryz.f65)] (start Tryz.f65.ntmps ([intsF a].map .f)) (F.sl rn rg) := by
  refine Ends.of_run tyOK envW5_ok (T := [(3, [0, 3, 4], 1000)]) (n := 200) ?_
  have e : run Tryz.prog (tiOf Tryz.prog) envW5 [(3, [0, 3, 4], 1000)] 0 Tryz.f65.results.toList some 200 [.code (bodyOf Tryz.f65)] (start Tryz.f65.ntmps ([intsF a].map .f)) = T65 (fun rn rg => some (.ret (F.sl rn rg))) (fun a n g i => some (.cut (at_ Tryz.f65 3) (S65_3 a n g i))) a := by kernel_rfl
  rw [e]
  exact (good_sel h (fun _ h => (good_sel h (fun _ h => good_cut (t65_3 k _ _ _ _ rn rg h)) (fun _ h => nomatch h))) (fun _ h => nomatch h))
def Fills {α : Type} (enc : α → F) (d : α) (z : F) (l : List α) (i : Nat) (g : Nat → F) : Prop := ∀ j, (j < i → g j = enc (l.getD j d)) ∧ (i ≤ j → g j = z)
theorem Fills.zero {α : Type} {enc : α → F} {d : α} {z : F} {l : List α} : Fills enc d z l 0 (fun _ => z) := fun j => ⟨fun h => by omega, fun _ => rfl⟩
theorem Fills.set {α : Type} {enc : α → F} {d : α} {z : F} {l : List α} {i : Nat} {g : Nat → F} (h : Fills enc d z l i g) : Fills enc d z l (i + 1) (fun j => if j = i then enc (l.getD i d) else g j) := fun j => by
  by_cases e : j = i
  · subst e; exact ⟨fun _ => by simp, fun h => by omega⟩
  · simp only [if_neg e]; exact ⟨fun hj => (h j).1 (by omega), fun hj => (h j).2 (by omega)⟩
theorem Fills.lists {α : Type} {enc : α → F} {d : α} {z : F} {l : List α} {g : Nat → F} (h : Fills enc d z l l.length g) : Lists enc d l.length g l := ⟨rfl, fun j hj => (h j).1 hj⟩
theorem Lists.one {α : Type} {enc : α → F} {d : α} (x : α) : Lists enc d 1 (fun _ => enc x) [x] := ⟨rfl, fun j hj => by
  have : j = 0 := by omega
  subst this
  rfl⟩
def metFrom (l : List It) (x y sz : Int) (i : Nat) : List Int := ((l.drop i).filter fun t => meetsV t.x0 t.y0 t.x1 t.y1 x y (IntKind.i64.wrap (x + sz)) (IntKind.i64.wrap (y + sz))).map (·.id)
theorem met_end (l : List It) (x y sz : Int) : metFrom l x y sz l.length = [] := by
  unfold metFrom
  rw [List.drop_eq_nil_of_le (by simp)]
  rfl
theorem met_step (l : List It) (x y sz : Int) {i : Nat} (h : i < l.length) : metFrom l x y sz i = if meetsV (l.getD i .zero).x0 (l.getD i .zero).y0 (l.getD i .zero).x1 (l.getD i .zero).y1 x y (IntKind.i64.wrap (x + sz)) (IntKind.i64.wrap (y + sz)) then (l.getD i .zero).id :: metFrom l x y sz (i + 1) else metFrom l x y sz (i + 1) := by
  have hg : l.getD i It.zero = l[i] := by simp [List.getD, List.getElem?_eq_getElem h]
  rw [hg]
  unfold metFrom
  rw [List.drop_eq_getElem_cons h, List.filter_cons]
  split <;> rfl
theorem square_b (l : List It) (x y sz : Int) (hl : l.length ≤ 40) : ∀ (d i n : Nat) (g : Nat → F) (o : List Int), i + d = l.length → n ≤ i → Lists i64F 0 n g o →
    ∃ n1 g1, L69_3b (d + 1) l x y sz i n g = some (n1, g1) ∧ Lists i64F 0 n1 g1 (o ++ metFrom l x y sz i)
  | 0, i, n, g, o, h, hn, hg => by
    have c1 : decide ((i : Int) < (l.length : Int)) = false := decide_eq_false (by omega)
    refine ⟨n, g, ?_, ?_⟩
    · simp only [L69_3b, T69_3b, c1, bsel_false, decide_true, bsel_true]
    · obtain rfl : i = l.length := by omega
      rw [met_end, List.append_nil]
      exact hg
  | d + 1, i, n, g, o, h, hn, hg => by
    have hi : i < l.length := by omega
    have c1 : decide ((i : Int) < (l.length : Int)) = true := decide_eq_true (by omega)
    have c2 : decide (0 ≤ (i : Int)) = true := decide_eq_true (by omega)
    have hw : IntKind.i64.wrap ((i : Int) + 1) = ((i + 1 : Nat) : Int) := by rw [wrapi (by omega) (by omega)]; omega
    have c3 : decide (((n + 1 : Nat) : Int) * (((8 : Nat) : Int) + 1) ≤ (limit : Int)) = true := by rw [limit_eq]; exact decide_eq_true (by omega)
    rw [L69_3b]
    simp only [T69_3b, c1, c2, c3, hw, bsel_true, decide_true, Int.toNat_natCast]
    rw [met_step l x y sz hi]
    cases meetsV (l.getD i .zero).x0 (l.getD i .zero).y0 (l.getD i .zero).x1 (l.getD i .zero).y1 x y (IntKind.i64.wrap (x + sz)) (IntKind.i64.wrap (y + sz)) with
    | true =>
      obtain ⟨n1, g1, e1, e2⟩ := square_b l x y sz hl d (i + 1) (n + 1) _ (o ++ [(l.getD i .zero).id]) (by omega) (by omega) (hg.push (l.getD i .zero).id)
      refine ⟨n1, g1, e1, ?_⟩
      rw [if_pos rfl]
      rw [List.append_assoc] at e2
      exact e2
    | false =>
      obtain ⟨n1, g1, e1, e2⟩ := square_b l x y sz hl d (i + 1) n g o (by omega) (by omega) hg
      exact ⟨n1, g1, e1, by simpa using e2⟩
theorem square_a (l : List It) (x y sz : Int) (hl : l.length ≤ 40) : ∀ (d i : Nat), i + d = l.length →
    ∃ n1 g1, L69_3a (d + 1) l x y sz i = some (n1, g1) ∧ Lists i64F 0 n1 g1 (metFrom l x y sz i)
  | 0, i, h => by
    have c1 : decide ((i : Int) < (l.length : Int)) = false := decide_eq_false (by omega)
    refine ⟨0, fun _ => F.bool false, ?_, ?_⟩
    · simp only [L69_3a, T69_3a, c1, bsel_false]
    · obtain rfl : i = l.length := by omega
      rw [met_end]; exact Lists.nil
  | d + 1, i, h => by
    have hi : i < l.length := by omega
    have c1 : decide ((i : Int) < (l.length : Int)) = true := decide_eq_true (by omega)
    have c2 : decide (0 ≤ (i : Int)) = true := decide_eq_true (by omega)
    have hw : IntKind.i64.wrap ((i : Int) + 1) = ((i + 1 : Nat) : Int) := by rw [wrapi (by omega) (by omega)]; omega
    have c3 : decide (((1 : Nat) : Int) * (((8 : Nat) : Int) + 1) ≤ (limit : Int)) = true := by rw [limit_eq]; exact decide_eq_true (by omega)
    rw [L69_3a]
    simp only [T69_3a, c1, c2, c3, hw, bsel_true, decide_true, Int.toNat_natCast]
    rw [met_step l x y sz hi]
    cases meetsV (l.getD i .zero).x0 (l.getD i .zero).y0 (l.getD i .zero).x1 (l.getD i .zero).y1 x y (IntKind.i64.wrap (x + sz)) (IntKind.i64.wrap (y + sz)) with
    | true =>
      obtain ⟨n1, g1, e1, e2⟩ := square_b l x y sz hl d (i + 1) 1 _ _ (by omega) (by omega) (Lists.one (enc := i64F) (d := 0) (l.getD i .zero).id)
      exact ⟨n1, g1, e1, e2⟩
    | false => exact square_a l x y sz hl d (i + 1) (by omega)
def squareV (q : Qd) (x y sz : Int) : Bk := ⟨x, y, sz, false, metFrom q.items x y sz 0⟩
def fewV (q : Qd) : Bool := decide (q.items.length ≤ 40)
def preSquare : List F → Bool | [q, .int .i64 _, .int .i64 _, .int .i64 _] => isQd q && fewV (unQd q) | _ => false
def resSquare : List F → F | [q, .int .i64 x, .int .i64 y, .int .i64 sz] => bkF (squareV (unQd q) x y sz) | _ => .dflt
theorem okSquare : PureOK Tryz.prog 69 preSquare resSquare :=
  fn_pure_at (c := bodyOf Tryz.f69) Tryz.func69 (by kernel_rfl) (by kernel_rfl) fun xs hp => match xs, hp with
  | [q, .int .i64 x, .int .i64 y, .int .i64 sz], hp => by
    simp only [preSquare, Bool.and_eq_true] at hp
    have h2 := of_decide_eq_true hp.2
    obtain ⟨n, g, e1, e2⟩ := square_a (unQd q).items x y sz h2 (unQd q).items.length 0 (by omega)
    exact ⟨[qdF (unQd q), .int .i64 x, .int .i64 y, .int .i64 sz], _, ⟨(qd_eqv hp.1).1, .refl _, .refl _, .refl _, trivial⟩, t69 ((unQd q).items.length + 1) _ _ _ _ _ _ e1, FLe.agg ⟨.refl _, .refl _, .refl _, .refl _, e2.le, trivial⟩⟩
/-! Whole numbers, compared and copied. -/
def sameV (a b : List Int) : Bool := a == b
theorem same_drop {a b : List Int} (h : a.length = b.length) {i : Nat} (hi : i < a.length) : (a.drop i == b.drop i) = (a.getD i 0 == b.getD i 0 && (a.drop (i + 1) == b.drop (i + 1))) := by
  have h1 : a.getD i 0 = a[i] := by simp [List.getD, List.getElem?_eq_getElem hi]
  have h2 : b.getD i 0 = b[i]'(by omega) := by simp [List.getD, List.getElem?_eq_getElem (show i < b.length by omega)]
  rw [h1, h2, List.drop_eq_getElem_cons hi, List.drop_eq_getElem_cons (show i < b.length by omega)]
  rfl
theorem equal_loop (a b : List Int) (hl : a.length = b.length) (hs : a.length ≤ 17592186044416) : ∀ (d i : Nat), i + d = a.length → L67_4 (d + 1) a b i = some (a.drop i == b.drop i)
  | 0, i, h => by
    have c1 : decide ((i : Int) < (a.length : Int)) = false := decide_eq_false (by omega)
    simp only [L67_4, T67_4, c1, bsel_false]
    rw [List.drop_eq_nil_of_le (by omega), List.drop_eq_nil_of_le (by omega)]
    rfl
  | d + 1, i, h => by
    have hi : i < a.length := by omega
    have c1 : decide ((i : Int) < (a.length : Int)) = true := decide_eq_true (by omega)
    have c3 : decide ((i : Int) < (b.length : Int)) = true := decide_eq_true (by omega)
    have c2 : decide (0 ≤ (i : Int)) = true := decide_eq_true (by omega)
    have hw : IntKind.i64.wrap ((i : Int) + 1) = ((i + 1 : Nat) : Int) := by rw [wrapi (by omega) (by omega)]; omega
    rw [L67_4]
    simp only [T67_4, c1, c2, c3, hw, equal_loop a b hl hs d (i + 1) (by omega), bsel_true, Int.toNat_natCast]
    rw [same_drop hl hi, bne]
    cases (a.getD i 0 == b.getD i 0) <;> rfl
theorem eqInts_same (a b : List Int) : ∀ (k : Nat) (x : Int), L81_4 k a b x = L67_4 k a b x
  | 0, _ => rfl
  | k + 1, x => by
    rw [L81_4, L67_4]
    simp only [T81_4, T67_4, eqInts_same a b k]
theorem equal_impl (a b : List Int) (hs : a.length ≤ 17592186044416) : G67 (a.length + 1) a b = some (sameV a b) := by
  unfold G67 T67 sameV
  rw [bne]
  cases h : ((a.length : Int) == (b.length : Int)) with
  | true => exact equal_loop a b (by have := eq_of_beq h; omega) hs a.length 0 (by omega)
  | false =>
    have : (a == b) = false := by
      rw [beq_eq_false_iff_ne]
      rintro rfl
      simp at h
    rw [this]; rfl
theorem eqInts_law (a b : List Int) (hs : a.length ≤ 17592186044416) : G81 (a.length + 1) a b = some (sameV a b) := by
  rw [← equal_impl a b hs]
  unfold G67 T67 G81 T81
  rw [eqInts_same]
def shortV (a : List Int) : Bool := decide (a.length ≤ 1048576)
def preEqInts : List F → Bool | [a, b] => isInts a && isInts b && shortV (unInts a) | _ => false
def resEqInts : List F → F | [a, b] => .bool (sameV (unInts a) (unInts b)) | _ => .dflt
theorem okEqual : PureOK Tryz.prog 67 preEqInts resEqInts :=
  fn_pure_at (c := bodyOf Tryz.f67) Tryz.func67 (by kernel_rfl) (by kernel_rfl) fun xs hp => match xs, hp with
  | [a, b], hp => by
    simp only [preEqInts, Bool.and_eq_true] at hp
    have h2 := of_decide_eq_true hp.2
    exact ⟨[intsF (unInts a), intsF (unInts b)], _, ⟨(ints_eqv hp.1.1).1, (ints_eqv hp.1.2).1, trivial⟩, t67 _ _ _ _ (equal_impl _ _ (by omega)), .refl _⟩
theorem okEqInts : PureOK Tryz.prog 81 preEqInts resEqInts :=
  fn_pure_at (c := bodyOf Tryz.f81) Tryz.func81 (by kernel_rfl) (by kernel_rfl) fun xs hp => match xs, hp with
  | [a, b], hp => by
    simp only [preEqInts, Bool.and_eq_true] at hp
    have h2 := of_decide_eq_true hp.2
    exact ⟨[intsF (unInts a), intsF (unInts b)], _, ⟨(ints_eqv hp.1.1).1, (ints_eqv hp.1.2).1, trivial⟩, t81 _ _ _ _ (eqInts_law _ _ (by omega)), .refl _⟩
theorem toInts_loop (a : List Int) (hs : a.length ≤ 1048576) : ∀ (d i : Nat) (g : Nat → F), i + d = a.length → Fills i64F 0 (.int .i64 0) a i g → ∃ g1, L65_3 (d + 1) a a.length g i = some (a.length, g1) ∧ Lists i64F 0 a.length g1 a
  | 0, i, g, h, hg => by
    have c1 : decide ((i : Int) < (a.length : Int)) = false := decide_eq_false (by omega)
    obtain rfl : i = a.length := by omega
    exact ⟨g, by simp only [L65_3, T65_3, c1, bsel_false, decide_true, bsel_true], hg.lists⟩
  | d + 1, i, g, h, hg => by
    have hi : i < a.length := by omega
    have c1 : decide ((i : Int) < (a.length : Int)) = true := decide_eq_true (by omega)
    have c2 : decide (0 ≤ (i : Int)) = true := decide_eq_true (by omega)
    have c3 : decide (i < a.length) = true := decide_eq_true hi
    have hw : IntKind.i64.wrap ((i : Int) + 1) = ((i + 1 : Nat) : Int) := by rw [wrapi (by omega) (by omega)]; omega
    have c4 : g i = .int .i64 0 := (hg i).2 (Nat.le_refl _)
    obtain ⟨g1, e1, e2⟩ := toInts_loop a hs d (i + 1) _ (by omega) hg.set
    refine ⟨g1, ?_, e2⟩
    rw [← e1, L65_3]
    simp only [T65_3, c1, c2, c3, hw, bsel_true, decide_true, Int.toNat_natCast, Nat.zero_add, c4, F.cells, List.length_singleton, Bool.or_true, Bool.and_true]
    rfl
def preInts : List F → Bool | [a] => isInts a && shortV (unInts a) | _ => false
def resInts : List F → F | [a] => intsF (unInts a) | _ => .dflt
theorem toInts_law (a : List Int) (hs : a.length ≤ 1048576) : ∃ g1, G65 (a.length + 1) a = some (a.length, g1) ∧ Lists i64F 0 a.length g1 a := by
  obtain ⟨g1, e1, e2⟩ := toInts_loop a hs a.length 0 _ (by omega) Fills.zero
  refine ⟨g1, ?_, e2⟩
  have c1 : decide (0 ≤ (a.length : Int)) = true := decide_eq_true (by omega)
  have c3 : decide (((a.length : Nat) : Int) * (((8 : Nat) : Int) + 1) ≤ (limit : Int)) = true := by rw [limit_eq]; exact decide_eq_true (by omega)
  unfold G65 T65
  simp only [c3, Int.le_refl, decide_true, bsel_true, Int.toNat_natCast]
  exact e1
theorem okToInts : PureOK Tryz.prog 65 preInts resInts :=
  fn_pure_at (c := bodyOf Tryz.f65) Tryz.func65 (by kernel_rfl) (by kernel_rfl) fun xs hp => match xs, hp with
  | [a], hp => by
    simp only [preInts, Bool.and_eq_true] at hp
    have h2 := of_decide_eq_true hp.2
    obtain ⟨g1, e1, e2⟩ := toInts_law (unInts a) h2
    exact ⟨[intsF (unInts a)], _, ⟨(ints_eqv hp.1).1, trivial⟩, t65 _ _ _ _ e1, e2.le⟩
/-! Sizes. -/
def leftV (n : Nat) (k : Int) : Int := bif decide (IntKind.i64.wrap (k - (n : Int)) < 0) then -1 else IntKind.i64.wrap (k - (n : Int))
def preSzInts : List F → Bool | [a, .int .i64 _] => isInts a | _ => false
def resSzInts : List F → F | [a, .int .i64 k] => .int .i64 (leftV (unInts a).length k) | _ => .dflt
theorem okSzInts : PureOK Tryz.prog 51 preSzInts resSzInts :=
  fn_pure_at (c := bodyOf Tryz.f51) Tryz.func51 (by kernel_rfl) (by kernel_rfl) fun xs hp => match xs, hp with
  | [a, .int .i64 k], hp => ⟨[intsF (unInts a), .int .i64 k], _, ⟨(ints_eqv hp).1, .refl _, trivial⟩, t51 _ _ (leftV (unInts a).length k) (by
      unfold G51 T51 leftV
      cases decide (IntKind.i64.wrap (k - ((unInts a).length : Int)) < 0) <;> rfl), .refl _⟩
def preSzItems : List F → Bool | [a, .int .i64 _] => isItems a | _ => false
def resSzItems : List F → F | [a, .int .i64 k] => .int .i64 (leftV (unItems a).length k) | _ => .dflt
theorem okSzItems : PureOK Tryz.prog 11 preSzItems resSzItems :=
  fn_pure_at (c := bodyOf Tryz.f11) Tryz.func11 (by kernel_rfl) (by kernel_rfl) fun xs hp => match xs, hp with
  | [a, .int .i64 k], hp => ⟨[itemsF (unItems a), .int .i64 k], _, ⟨(items_eqv hp).1, .refl _, trivial⟩, t11 _ _ (leftV (unItems a).length k) (by
      unfold G11 T11 leftV
      cases decide (IntKind.i64.wrap (k - ((unItems a).length : Int)) < 0) <;> rfl), .refl _⟩
/-! Spots, limits. -/
def sameSpotV (a b c d : Int) : Bool := a == c && b == d
def resSameSpot : List F → F | [.agg [.int .i64 a, .int .i64 b], .agg [.int .i64 c, .int .i64 d]] => .bool (sameSpotV a b c d) | _ => .dflt
theorem okEqSpot : PureOK Tryz.prog 96 pre2p resSameSpot :=
  fn_pure (c := bodyOf Tryz.f96) Tryz.func96 (by kernel_rfl) (by kernel_rfl) fun xs hp => match xs, hp with
  | [.agg [.int .i64 a, .int .i64 b], .agg [.int .i64 c, .int .i64 d]], hp => t96 a b c d (sameSpotV a b c d) (by
      unfold G96 T96 sameSpotV
      simp only [bne]
      cases (a == c) <;> cases (b == d) <;> rfl)
def resSpot : List F → F | [.agg [.int .i64 a, .int .i64 b]] => .agg [.int .i64 a, .int .i64 b] | _ => .dflt
theorem okToSpot : PureOK Tryz.prog 7 pre1p resSpot :=
  fn_pure (c := bodyOf Tryz.f7) Tryz.func7 (by kernel_rfl) (by kernel_rfl) fun xs hp => match xs, hp with
  | [.agg [.int .i64 a, .int .i64 b]], hp => t7 a b _ rfl
def limitsV (a b : Int) : Bool := inV a 1 8 && inV b 0 8
def pre2i : List F → Bool | [.int .i64 _, .int .i64 _] => true | _ => false
def resLimits : List F → F | [.int .i64 a, .int .i64 b] => .bool (limitsV a b) | _ => .dflt
theorem okLimits : PureOK Tryz.prog 28 pre2i resLimits :=
  fn_pure (c := bodyOf Tryz.f28) Tryz.func28 (by kernel_rfl) (by kernel_rfl) fun xs hp => match xs, hp with
  | [.int .i64 a, .int .i64 b], hp => t28 a b (limitsV a b) (by
      unfold G28 T28 limitsV
      cases inV a 1 8 <;> rfl)
def preTrSeg : List F → Bool | [t, .agg [.int .i64 _, .int .i64 _, .int .i64 _, .int .i64 _]] => isTr t | _ => false
def trMeetsV (t : Tr) (a b c d : Int) : Bool := meetsV a b c d t.x t.y (IntKind.i64.wrap (t.x + t.size)) (IntKind.i64.wrap (t.y + t.size))
def resTrMeets : List F → F | [t, .agg [.int .i64 a, .int .i64 b, .int .i64 c, .int .i64 d]] => .bool (trMeetsV (unTr t) a b c d) | _ => .dflt
theorem okTrMeets : PureOK Tryz.prog 53 preTrSeg resTrMeets :=
  fn_pure (c := bodyOf Tryz.f53) Tryz.func53 (by kernel_rfl) (by kernel_rfl) fun xs hp => match xs, hp with
  | [t, .agg [.int .i64 a, .int .i64 b, .int .i64 c, .int .i64 d]], hp => by
    have h := tr_eq hp
    generalize unTr t = t' at h
    subst h
    have := t53 t' ⟨a, b, c, d⟩ (trMeetsV t' a b c d) rfl
    simp only [resTrMeets, unTr_trF]
    exact this
def envQ1 : Env := (((((((((envW5.add 69 (.pure preSquare resSquare)).add 67 (.pure preEqInts resEqInts)).add 81 (.pure preEqInts resEqInts)).add 65 (.pure preInts resInts)).add 51 (.pure preSzInts resSzInts)).add 11 (.pure preSzItems resSzItems)).add 96 (.pure pre2p resSameSpot)).add 7 (.pure pre1p resSpot)).add 28 (.pure pre2i resLimits)).add 53 (.pure preTrSeg resTrMeets)
theorem envQ1_ok : EnvOK Tryz.prog envQ1 := (Env.add_ok (Env.add_ok (Env.add_ok (Env.add_ok (Env.add_ok (Env.add_ok (Env.add_ok (Env.add_ok (Env.add_ok (Env.add_ok envW5_ok okSquare.sp) okEqual.sp) okEqInts.sp) okToInts.sp) okSzInts.sp) okSzItems.sp) okEqSpot.sp) okToSpot.sp) okLimits.sp) okTrMeets.sp)
end
end Go.Proofs.YtdcooaopkbicfaaGreat.R
namespace Go.Proofs.YtdcooaopkbicfaaGreat.R
open Go
noncomputable section
/-! ### function 80 -/
def T80 {ρ : Type} (ret : (Bool) → Option ρ) (a : Sg) (b : Sg) : Option ρ :=
 (bsel (!sameSpotV a.x0 a.y0 b.x0 b.y0)
 (ret (false))
 (bsel (!sameSpotV a.x1 a.y1 b.x1 b.y1)
 (ret (false))
 (ret (true))))
def G80 (a : Sg) (b : Sg) : Option (Bool) := T80 some a b
theorem t80 (a : Sg) (b : Sg) (r : Bool) (h : G80 a b = some r) : Ends Tryz.prog Tryz.f80.results.toList [.code (bodyOf Tryz.f80)] (start Tryz.f80.ntmps ([sgF a, sgF b].map .f)) (F.bool r) := by
  refine Ends.of_run tyOK envQ1_ok (T := []) (n := 200) ?_
  have e : run Tryz.prog (tiOf Tryz.prog) envQ1 [] 0 Tryz.f80.results.toList some 200 [.code (bodyOf Tryz.f80)] (start Tryz.f80.ntmps ([sgF a, sgF b].map .f)) = T80 (fun r => some (.ret (F.bool r))) a b := by kernel_rfl
  rw [e]
  exact (good_sel h (fun _ h => good_ret (by cases h; rfl)) (fun _ h => (good_sel h (fun _ h => good_ret (by cases h; rfl)) (fun _ h => good_ret (by cases h; rfl)))))
/-! ### function 50 -/
def T50 {ρ : Type} (ret : (Bool) → Option ρ) (a : Bk) (b : Bk) : Option ρ :=
 (bsel (a.x != b.x)
 (ret (false))
 (bsel (a.y != b.y)
 (ret (false))
 (bsel (a.size != b.size)
 (ret (false))
 (bsel (!a.split == b.split)
 (ret (false))
 (bsel (isInts (intsF a.ids) && isInts (intsF b.ids) && shortV (unInts (intsF a.ids)))
 (bsel (!sameV (unInts (intsF a.ids)) (unInts (intsF b.ids)))
 (ret (false))
 (ret (true)))
 none)))))
def G50 (a : Bk) (b : Bk) : Option (Bool) := T50 some a b
theorem t50 (a : Bk) (b : Bk) (r : Bool) (h : G50 a b = some r) : Ends Tryz.prog Tryz.f50.results.toList [.code (bodyOf Tryz.f50)] (start Tryz.f50.ntmps ([bkF a, bkF b].map .f)) (F.bool r) := by
  refine Ends.of_run tyOK envQ1_ok (T := []) (n := 200) ?_
  have e : run Tryz.prog (tiOf Tryz.prog) envQ1 [] 0 Tryz.f50.results.toList some 200 [.code (bodyOf Tryz.f50)] (start Tryz.f50.ntmps ([bkF a, bkF b].map .f)) = T50 (fun r => some (.ret (F.bool r))) a b := by kernel_rfl
  rw [e]
  exact (good_sel h (fun _ h => good_ret (by cases h; rfl)) (fun _ h => (good_sel h (fun _ h => good_ret (by cases h; rfl)) (fun _ h => (good_sel h (fun _ h => good_ret (by cases h; rfl)) (fun _ h => (good_sel h (fun _ h => good_ret (by cases h; rfl)) (fun _ h => (good_sel h (fun _ h => (good_sel h (fun _ h => good_ret (by cases h; rfl)) (fun _ h => good_ret (by cases h; rfl)))) (fun _ h => nomatch h))))))))))
/-! ### function 27 -/
def T27 {ρ : Type} (ret : (Int) → Option ρ) (a : Bk) (k : Int) : Option ρ :=
 (bsel (isInts (intsF a.ids))
 (bsel (decide (leftV (unInts (intsF a.ids)).length k < 0))
 (ret (-1))
 (ret (leftV (unInts (intsF a.ids)).length k)))
 none)
def G27 (a : Bk) (k : Int) : Option (Int) := T27 some a k
theorem t27 (a : Bk) (k : Int) (r : Int) (h : G27 a k = some r) : Ends Tryz.prog Tryz.f27.results.toList [.code (bodyOf Tryz.f27)] (start Tryz.f27.ntmps ([bkF a, F.int .i64 k].map .f)) (F.int .i64 r) := by
  refine Ends.of_run tyOK envQ1_ok (T := []) (n := 200) ?_
  have e : run Tryz.prog (tiOf Tryz.prog) envQ1 [] 0 Tryz.f27.results.toList some 200 [.code (bodyOf Tryz.f27)] (start Tryz.f27.ntmps ([bkF a, F.int .i64 k].map .f)) = T27 (fun r => some (.ret (F.int .i64 r))) a k := by kernel_rfl
  rw [e]
  exact (good_sel h (fun _ h => (good_sel h (fun _ h => good_ret (by cases h; rfl)) (fun _ h => good_ret (by cases h; rfl)))) (fun _ h => nomatch h))
/-! ### function 64 -/
def T64 {ρ : Type} (ret : (F) → Option ρ) (a : Sg) : Option ρ :=
 (ret (F.agg [F.int .i64 a.x0, F.int .i64 a.y0, F.int .i64 a.x1, F.int .i64 a.y1]))
def G64 (a : Sg) : Option (F) := T64 some a
theorem t64 (a : Sg) (r : F) (h : G64 a = some r) : Ends Tryz.prog Tryz.f64.results.toList [.code (bodyOf Tryz.f64)] (start Tryz.f64.ntmps ([sgF a].map .f)) (r) := by
  refine Ends.of_run tyOK envQ1_ok (T := []) (n := 200) ?_
  have e : run Tryz.prog (tiOf Tryz.prog) envQ1 [] 0 Tryz.f64.results.toList some 200 [.code (bodyOf Tryz.f64)] (start Tryz.f64.ntmps ([sgF a].map .f)) = T64 (fun r => some (.ret (r))) a := by kernel_rfl
  rw [e]
  exact good_ret (by cases h; rfl)
/-! ### function 39 -/
def T39 {ρ : Type} (ret : (F) → Option ρ) (a : Bk) : Option ρ :=
 (bsel (isInts (intsF a.ids) && shortV (unInts (intsF a.ids)))
 (ret (F.agg [F.int .i64 a.x, F.int .i64 a.y, F.int .i64 a.size, F.bool a.split, intsF (unInts (intsF a.ids))]))
 none)
def G39 (a : Bk) : Option (F) := T39 some a
theorem t39 (a : Bk) (r : F) (h : G39 a = some r) : Ends Tryz.prog Tryz.f39.results.toList [.code (bodyOf Tryz.f39)] (start Tryz.f39.ntmps ([bkF a].map .f)) (r) := by
  refine Ends.of_run tyOK envQ1_ok (T := []) (n := 200) ?_
  have e : run Tryz.prog (tiOf Tryz.prog) envQ1 [] 0 Tryz.f39.results.toList some 200 [.code (bodyOf Tryz.f39)] (start Tryz.f39.ntmps ([bkF a].map .f)) = T39 (fun r => some (.ret (r))) a := by kernel_rfl
  rw [e]
  exact (good_sel h (fun _ h => good_ret (by cases h; rfl)) (fun _ h => nomatch h))
/-! ### function 43 -/
def T43 {ρ : Type} (ret : (F) → Option ρ) (q : Qd) : Option ρ :=
 (bsel (isQd (qdF q) && fewV (unQd (qdF q)))
 (ret (bkF (squareV (unQd (qdF q)) (-1048576) (-1048576) 2097152)))
 none)
def G43 (q : Qd) : Option (F) := T43 some q
theorem t43 (q : Qd) (r : F) (h : G43 q = some r) : Ends Tryz.prog Tryz.f43.results.toList [.code (bodyOf Tryz.f43)] (start Tryz.f43.ntmps ([qdF q].map .f)) (r) := by
  refine Ends.of_run tyOK envQ1_ok (T := []) (n := 200) ?_
  have e : run Tryz.prog (tiOf Tryz.prog) envQ1 [] 0 Tryz.f43.results.toList some 200 [.code (bodyOf Tryz.f43)] (start Tryz.f43.ntmps ([qdF q].map .f)) = T43 (fun r => some (.ret (r))) q := by kernel_rfl
  rw [e]
  exact (good_sel h (fun _ h => good_ret (by cases h; rfl)) (fun _ h => nomatch h))
/-! ### function 68 -/
def T68 {ρ : Type} (ret : (F) → Option ρ) (q : Qd) (b : Bk) : Option ρ :=
 (bsel (isQd (qdF q) && fewV (unQd (qdF q)))
 (bsel (isQd (qdF q) && fewV (unQd (qdF q)))
 (bsel (isQd (qdF q) && fewV (unQd (qdF q)))
 (bsel (isQd (qdF q) && fewV (unQd (qdF q)))
 (ret (F.sl 4 (lget [bkF (squareV (unQd (qdF q)) b.x b.y (IntKind.i64.wrap (b.size.tdiv 2))), bkF (squareV (unQd (qdF q)) (IntKind.i64.wrap (b.x + IntKind.i64.wrap (b.size.tdiv 2))) b.y (IntKind.i64.wrap (b.size.tdiv 2))), bkF (squareV (unQd (qdF q)) b.x (IntKind.i64.wrap (b.y + IntKind.i64.wrap (b.size.tdiv 2))) (IntKind.i64.wrap (b.size.tdiv 2))), bkF (squareV (unQd (qdF q)) (IntKind.i64.wrap (b.x + IntKind.i64.wrap (b.size.tdiv 2))) (IntKind.i64.wrap (b.y + IntKind.i64.wrap (b.size.tdiv 2))) (IntKind.i64.wrap (b.size.tdiv 2)))])))
 none)
 none)
 none)
 none)
def G68 (q : Qd) (b : Bk) : Option (F) := T68 some q b
theorem t68 (q : Qd) (b : Bk) (r : F) (h : G68 q b = some r) : Ends Tryz.prog Tryz.f68.results.toList [.code (bodyOf Tryz.f68)] (start Tryz.f68.ntmps ([qdF q, bkF b].map .f)) (r) := by
  refine Ends.of_run tyOK envQ1_ok (T := []) (n := 200) ?_
  have e : run Tryz.prog (tiOf Tryz.prog) envQ1 [] 0 Tryz.f68.results.toList some 200 [.code (bodyOf Tryz.f68)] (start Tryz.f68.ntmps ([qdF q, bkF b].map .f)) = T68 (fun r => some (.ret (r))) q b := by kernel_rfl
  rw [e]
  exact (good_sel h (fun _ h => (good_sel h (fun _ h => (good_sel h (fun _ h => (good_sel h (fun _ h => good_ret (by cases h; rfl)) (fun _ h => nomatch h))) (fun _ h => nomatch h))) (fun _ h => nomatch h))) (fun _ h => nomatch h))
def sameSegV (a b : Sg) : Bool := sameSpotV a.x0 a.y0 b.x0 b.y0 && sameSpotV a.x1 a.y1 b.x1 b.y1
def pre2s : List F → Bool | [.agg [.int .i64 _, .int .i64 _, .int .i64 _, .int .i64 _], .agg [.int .i64 _, .int .i64 _, .int .i64 _, .int .i64 _]] => true | _ => false
def resSameSeg : List F → F | [.agg [.int .i64 a, .int .i64 b, .int .i64 c, .int .i64 d], .agg [.int .i64 e, .int .i64 f, .int .i64 g, .int .i64 h]] => .bool (sameSegV ⟨a, b, c, d⟩ ⟨e, f, g, h⟩) | _ => .dflt
theorem okEqSeg : PureOK Tryz.prog 80 pre2s resSameSeg :=
  fn_pure (c := bodyOf Tryz.f80) Tryz.func80 (by kernel_rfl) (by kernel_rfl) fun xs hp => match xs, hp with
  | [.agg [.int .i64 a, .int .i64 b, .int .i64 c, .int .i64 d], .agg [.int .i64 e, .int .i64 f, .int .i64 g, .int .i64 h]], hp => t80 ⟨a, b, c, d⟩ ⟨e, f, g, h⟩ (sameSegV ⟨a, b, c, d⟩ ⟨e, f, g, h⟩) (by
      unfold G80 T80 sameSegV
      cases sameSpotV a b e f <;> cases sameSpotV c d g h <;> rfl)
def resSeg : List F → F | [.agg [.int .i64 a, .int .i64 b, .int .i64 c, .int .i64 d]] => .agg [.int .i64 a, .int .i64 b, .int .i64 c, .int .i64 d] | _ => .dflt
theorem okToSeg : PureOK Tryz.prog 64 pre1s resSeg :=
  fn_pure (c := bodyOf Tryz.f64) Tryz.func64 (by kernel_rfl) (by kernel_rfl) fun xs hp => match xs, hp with
  | [.agg [.int .i64 a, .int .i64 b, .int .i64 c, .int .i64 d]], hp => t64 ⟨a, b, c, d⟩ _ rfl
def sameBkV (a b : Bk) : Bool := a.x == b.x && a.y == b.y && a.size == b.size && a.split == b.split && sameV a.ids b.ids
def preEqBk : List F → Bool | [a, b] => isBk a && isBk b && shortV (unBk a).ids | _ => false
def resEqBk : List F → F | [a, b] => .bool (sameBkV (unBk a) (unBk b)) | _ => .dflt
theorem eqBk_law (a b : Bk) (h : shortV a.ids = true) : G50 a b = some (sameBkV a b) := by
  unfold G50 T50 sameBkV
  simp only [isInts_intsF, unInts_intsF, h, bne, Bool.and_true, bsel_true]
  cases (a.x == b.x) <;> cases (a.y == b.y) <;> cases (a.size == b.size) <;> cases a.split <;> cases b.split <;> cases sameV a.ids b.ids <;> rfl
theorem okEqBk : PureOK Tryz.prog 50 preEqBk resEqBk :=
  fn_pure_at (c := bodyOf Tryz.f50) Tryz.func50 (by kernel_rfl) (by kernel_rfl) fun xs hp => match xs, hp with
  | [a, b], hp => by
    simp only [preEqBk, Bool.and_eq_true] at hp
    exact ⟨[bkF (unBk a), bkF (unBk b)], _, ⟨FLe.bk hp.1.1, FLe.bk hp.1.2, trivial⟩, t50 _ _ _ (eqBk_law _ _ hp.2), .refl _⟩
def preSzBk : List F → Bool | [a, .int .i64 _] => isBk a | _ => false
def resSzBk : List F → F | [a, .int .i64 k] => .int .i64 (leftV (unBk a).ids.length k) | _ => .dflt
theorem left_min {n : Nat} {k : Int} : (bif decide (leftV n k < 0) then -1 else leftV n k) = leftV n k := by
  unfold leftV
  by_cases h : IntKind.i64.wrap (k - (n : Int)) < 0
  · rw [decide_eq_true h]; rfl
  · rw [decide_eq_false h]
    simp only [cond_false]
    rw [decide_eq_false h]; rfl
theorem okSzBk : PureOK Tryz.prog 27 preSzBk resSzBk :=
  fn_pure_at (c := bodyOf Tryz.f27) Tryz.func27 (by kernel_rfl) (by kernel_rfl) fun xs hp => match xs, hp with
  | [a, .int .i64 k], hp => ⟨[bkF (unBk a), .int .i64 k], _, ⟨FLe.bk hp, .refl _, trivial⟩, t27 _ _ (leftV (unBk a).ids.length k) (by
      unfold G27 T27
      simp only [isInts_intsF, unInts_intsF, bsel_true]
      conv => rhs; rw [← left_min]
      cases decide (leftV (unBk a).ids.length k < 0) <;> rfl), .refl _⟩
def preBk : List F → Bool | [a] => isBk a && shortV (unBk a).ids | _ => false
def resBk : List F → F | [a] => bkF (unBk a) | _ => .dflt
theorem okToBk : PureOK Tryz.prog 39 preBk resBk :=
  fn_pure_at (c := bodyOf Tryz.f39) Tryz.func39 (by kernel_rfl) (by kernel_rfl) fun xs hp => match xs, hp with
  | [a], hp => by
    simp only [preBk, Bool.and_eq_true] at hp
    exact ⟨[bkF (unBk a)], _, ⟨FLe.bk hp.1, trivial⟩, t39 _ (bkF (unBk a)) (by
      unfold G39 T39
      simp only [isInts_intsF, unInts_intsF, hp.2, Bool.and_true, bsel_true]; rfl), .refl _⟩
def preQd : List F → Bool | [q] => isQd q && fewV (unQd q) | _ => false
def rootV (q : Qd) : Bk := squareV q (-1048576) (-1048576) 2097152
def resRoot : List F → F | [q] => bkF (rootV (unQd q)) | _ => .dflt
theorem okRoot : PureOK Tryz.prog 43 preQd resRoot :=
  fn_pure_at (c := bodyOf Tryz.f43) Tryz.func43 (by kernel_rfl) (by kernel_rfl) fun xs hp => match xs, hp with
  | [q], hp => by
    simp only [preQd, Bool.and_eq_true] at hp
    exact ⟨[qdF (unQd q)], _, ⟨(qd_eqv hp.1).1, trivial⟩, t43 _ (bkF (rootV (unQd q))) (by
      unfold G43 T43 rootV
      simp only [isQd_qdF, unQd_qdF, hp.2, Bool.and_true, bsel_true]), .refl _⟩
def halfV (n : Int) : Int := IntKind.i64.wrap (n.tdiv 2)
def kidsV (q : Qd) (b : Bk) : List Bk := [squareV q b.x b.y (halfV b.size), squareV q (IntKind.i64.wrap (b.x + halfV b.size)) b.y (halfV b.size), squareV q b.x (IntKind.i64.wrap (b.y + halfV b.size)) (halfV b.size),
  squareV q (IntKind.i64.wrap (b.x + halfV b.size)) (IntKind.i64.wrap (b.y + halfV b.size)) (halfV b.size)]
def preKids : List F → Bool | [q, b] => isQd q && fewV (unQd q) && isBk b | _ => false
def resKids : List F → F | [q, b] => blocksF (kidsV (unQd q) (unBk b)) | _ => .dflt
theorem okKids : PureOK Tryz.prog 68 preKids resKids :=
  fn_pure_at (c := bodyOf Tryz.f68) Tryz.func68 (by kernel_rfl) (by kernel_rfl) fun xs hp => match xs, hp with
  | [q, b], hp => by
    simp only [preKids, Bool.and_eq_true] at hp
    obtain ⟨⟨h1, h2⟩, h3⟩ := hp
    refine ⟨[qdF (unQd q), bkF (unBk b)], _, ⟨(qd_eqv h1).1, FLe.bk h3, trivial⟩, t68 _ _ _ (by
      unfold G68 T68
      simp only [isQd_qdF, unQd_qdF, h2, Bool.and_true, bsel_true]
      rfl), FLe.sl fun j hj => ?_⟩
    have hj : j < 4 := hj
    have : j = 0 ∨ j = 1 ∨ j = 2 ∨ j = 3 := by omega
    rcases this with rfl | rfl | rfl | rfl <;> rfl
def envQ2 : Env := ((((((envQ1.add 80 (.pure pre2s resSameSeg)).add 64 (.pure pre1s resSeg)).add 50 (.pure preEqBk resEqBk)).add 27 (.pure preSzBk resSzBk)).add 39 (.pure preBk resBk)).add 43 (.pure preQd resRoot)).add 68 (.pure preKids resKids)
theorem envQ2_ok : EnvOK Tryz.prog envQ2 := (Env.add_ok (Env.add_ok (Env.add_ok (Env.add_ok (Env.add_ok (Env.add_ok (Env.add_ok envQ1_ok okEqSeg.sp) okToSeg.sp) okEqBk.sp) okSzBk.sp) okToBk.sp) okRoot.sp) okKids.sp)
end
end Go.Proofs.YtdcooaopkbicfaaGreat.R
