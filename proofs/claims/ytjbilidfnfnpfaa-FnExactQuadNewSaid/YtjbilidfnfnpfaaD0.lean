/-
  The walk of the program's functions: the common part.
-/
import Derived.Test.YtjbilidfnfnpfaaR24
import Derived.Test.YtjbilidfnfnpfaaProg
namespace Go.Proofs.Ytjbilidfnfnpfaa.R
open Go
set_option linter.unusedVariables false
def bodyOf (fn : Func) : Code := match fn.body with | some c => c | none => .skip
def at_ (fn : Func) (id : Nat) : List Item := (itemsAt id (bodyOf fn) []).getD []
theorem tyOK : TyOK Try.prog (tiOf Try.prog) := ⟨by kernel_rfl, fun _ _ h => h⟩
def env0 : Env := fun _ => .none
theorem env0_ok : EnvOK Try.prog env0 := fun _ => trivial

/-- A slice's elements are a list's. -/
def Lists {α : Type} (enc : α → F) (d : α) (n : Nat) (g : Nat → F) (o : List α) : Prop := n = o.length ∧ ∀ j, j < n → g j = enc (o.getD j d)
theorem Lists.nil {α : Type} {enc : α → F} {d : α} {g : Nat → F} : Lists enc d 0 g [] := ⟨rfl, fun j h => by omega⟩
theorem Lists.push {α : Type} {enc : α → F} {d : α} {n : Nat} {g : Nat → F} {o : List α} (h : Lists enc d n g o) (x : α) : Lists enc d (n + 1) (fun j => if j < n then g j else enc x) (o ++ [x]) := by
  obtain ⟨h1, h2⟩ := h
  refine ⟨by simp [h1], fun j hj => ?_⟩
  by_cases hjn : j < n
  · simp only [if_pos hjn, h2 j hjn, List.getD]
    rw [List.getElem?_append_left (by omega)]
  · obtain rfl : j = n := by omega
    simp only [if_neg hjn, List.getD]
    rw [List.getElem?_append_right (by omega), h1]
    simp
theorem Lists.le {α : Type} {enc : α → F} {d : α} {n : Nat} {g : Nat → F} {o : List α} (h : Lists enc d n g o) : FLe (.sl n g) (slF enc d o) := by
  obtain ⟨rfl, h2⟩ := h
  exact FLe.sl h2
theorem FLe.tup {xs ys : List F} (h : FsLe xs ys) : FLe (.tup xs) (.tup ys) := by
  intro w Z v hv
  cases hv with
  | tup _ vs hl hr =>
    obtain ⟨h1, h2⟩ := h.get
    refine .tup ys vs (by rw [← h1]; exact hl) fun j y v hy hv => ?_
    obtain ⟨x, hx, hle⟩ := h2 j y hy
    exact hle _ _ _ (hr j x v hx hv)
def i64F (n : Int) : F := .int .i64 n
def intsF (l : List Int) : F := slF i64F 0 l
theorem PureOK.sp {P : Program} {f : FuncId} {pre : List F → Bool} {res : List F → F} (h : PureOK P f pre res) : SpOK P f (.pure pre res) := h
/-- One function more is known. -/
def Env.add (C : Env) (f : FuncId) (s : Sp) : Env := fun g => match Nat.beq g f with
  | true => s
  | false => C g
theorem Env.add_ok {C : Env} (hC : EnvOK Try.prog C) {f : FuncId} {s : Sp} (h : SpOK Try.prog f s) : EnvOK Try.prog (C.add f s) := by
  intro g
  unfold Env.add
  split
  · rename_i e
    have := Nat.eq_of_beq_eq_true e
    subst this
    exact h
  · exact hC g
end Go.Proofs.Ytjbilidfnfnpfaa.R
