/-
  The own reflective walk, part 18: what comes after an operation may be told later.
-/
import Derived.Test.YtjbilidfnfnpfaaR15
namespace Go.Proofs.Ytjbilidfnfnpfaa.R
open Go
set_option linter.unusedVariables false
set_option linter.unusedSimpArgs false

section
variable {P : Program} {ty : TypeId → Option TI} {C : Env} {ρ : Type} {st : St} {K : U → St → Option ρ}

theorem bsel_bind {α β : Type} (b : Bool) (x y : Option α) (f : α → Option β) : (bsel b x y).bind f = bsel b (x.bind f) (y.bind f) := by cases b <;> rfl
theorem none_bind' {α β : Type} (f : α → Option β) : (none : Option α).bind f = none := rfl
theorem some_bind' {α β : Type} (a : α) (f : α → Option β) : (some a).bind f = f a := rfl

def pairK : U → St → Option (U × St) := fun u s => some (u, s)
def unK (K : U → St → Option ρ) : U × St → Option ρ := fun p => K p.1 p.2

theorem evLoad_nat (ti : TI) (u : U) : evLoad ti u st K = (evLoad ti u st pairK).bind (unK K) := by
  unfold evLoad
  repeat' split
  all_goals simp only [bsel_bind, none_bind', some_bind', pairK, unK]
theorem evStore_nat (ti : TI) (u x : U) : evStore ti u x st K = (evStore ti u x st pairK).bind (unK K) := by
  unfold evStore
  repeat' split
  all_goals simp only [bsel_bind, none_bind', some_bind', pairK, unK]
theorem evIndexAddr_nat (t : TypeId) (x ix : U) : evIndexAddr ty t x ix st K = (evIndexAddr ty t x ix st pairK).bind (unK K) := by
  unfold evIndexAddr
  repeat' split
  all_goals simp only [bsel_bind, none_bind', some_bind', pairK, unK]
theorem evFieldAddr_nat (t : TypeId) (x : U) (f : Nat) : evFieldAddr ty t x f st K = (evFieldAddr ty t x f st pairK).bind (unK K) := by
  unfold evFieldAddr
  repeat' split
  all_goals simp only [bsel_bind, none_bind', some_bind', pairK, unK]
  all_goals (repeat' split)
  all_goals simp only [bsel_bind, none_bind', some_bind']
theorem evSlice_nat (t : TypeId) (x : U) (lo hi mx : Option U) : evSlice ty t x lo hi mx st K = (evSlice ty t x lo hi mx st pairK).bind (unK K) := by
  unfold evSlice
  repeat' split
  all_goals simp only [bsel_bind, none_bind', some_bind', pairK, unK]
  all_goals (repeat' split)
  all_goals simp only [bsel_bind, none_bind', some_bind']
theorem evMake_nat (slot : Option Nat) (t : TypeId) (l c : U) : evMake ty slot t l c st K = (evMake ty slot t l c st pairK).bind (unK K) := by
  unfold evMake
  repeat' split
  all_goals simp only [bsel_bind, none_bind', some_bind', pairK, unK]
theorem evAppend_nat (slot : Option Nat) (ts tx : TypeId) (s x : U) : evAppend ty slot ts tx s x st K = (evAppend ty slot ts tx s x st pairK).bind (unK K) := by
  unfold evAppend
  repeat' split
  all_goals simp only [bsel_bind, none_bind', some_bind', pairK, unK]
  all_goals (repeat' split)
  all_goals simp only [bsel_bind, none_bind', some_bind']
theorem evConvert_nat (slot : Option Nat) (s d : TypeId) (x : U) : evConvert ty slot s d x st K = (evConvert ty slot s d x st pairK).bind (unK K) := by
  unfold evConvert elemsC
  repeat' split
  all_goals simp only [bsel_bind, none_bind', some_bind', pairK, unK]
theorem evBin_nat (op : BinOp) (t : TypeId) (x y : U) : evBin P op t x y st K = (evBin P op t x y st pairK).bind (unK K) := by
  unfold evBin
  repeat' split
  all_goals simp only [bsel_bind, none_bind', some_bind', pairK, unK]
  all_goals (repeat' split)
  all_goals simp only [bsel_bind, none_bind', some_bind']
theorem evUn_nat (op : UnOp) (x : U) : evUn op x st K = (evUn op x st pairK).bind (unK K) := by
  unfold evUn
  repeat' split
  all_goals simp only [bsel_bind, none_bind', some_bind', pairK, unK]
theorem evBuild_nat (t : TypeId) (ps : List (Nat × U)) : evBuild ty t ps st K = (evBuild ty t ps st pairK).bind (unK K) := by
  unfold evBuild
  repeat' split
  all_goals simp only [bsel_bind, none_bind', some_bind', pairK, unK]
theorem evBuildSlice_nat (slot : Option Nat) (t : TypeId) (n : Nat) (ps : List (Nat × U)) : evBuildSlice ty slot t n ps st K = (evBuildSlice ty slot t n ps st pairK).bind (unK K) := by
  unfold evBuildSlice
  repeat' split
  all_goals simp only [bsel_bind, none_bind', some_bind', pairK, unK]
theorem evField_nat (t : TypeId) (x : U) (f : Nat) : evField ty t x f st K = (evField ty t x f st pairK).bind (unK K) := by
  unfold evField
  repeat' split
  all_goals simp only [bsel_bind, none_bind', some_bind', pairK, unK]
theorem evIndex_nat (t : TypeId) (x i : U) : evIndex ty t x i st K = (evIndex ty t x i st pairK).bind (unK K) := by
  unfold evIndex
  repeat' split
  all_goals simp only [bsel_bind, none_bind', some_bind', pairK, unK]
mutual
theorem toFC_nat {α β : Type} {H : List HO} (f : α → Option β) : ∀ (u : U) (K : F → Option α), (toFC H u K).bind f = toFC H u fun x => (K x).bind f
  | .f x, K => rfl
  | .agg us, K => toFsC_nat f us _
  | .tup us, K => toFsC_nat f us _
  | .nils, K => rfl
  | .hs o gen off len, K => by
    simp only [toFC]
    split
    · cases decide (gen = _) <;> rfl
    · rfl
  | .hp _ _, K => rfl
  | .ep _ _ _ _, K => rfl
  | .va _, K => rfl
  | .nilp, K => rfl
  | .fn _ _, K => rfl
  | .nilfn, K => rfl
  | .undef, K => rfl
  | .bad, K => rfl
theorem toFsC_nat {α β : Type} {H : List HO} (f : α → Option β) : ∀ (us : List U) (K : List F → Option α), (toFsC H us K).bind f = toFsC H us fun xs => (K xs).bind f
  | [], K => rfl
  | u :: us, K => by
    simp only [toFsC]
    rw [toFC_nat f u]
    congr 1
    funext x
    exact toFsC_nat f us _
end
theorem evCall_nat (slot : Option Nat) (f : FuncId) (us : List U) : evCall C slot f us st K = (evCall C slot f us st pairK).bind (unK K) := by
  unfold evCall
  repeat' split
  all_goals simp only [toFsC_nat, bsel_bind, none_bind', some_bind', pairK, unK]

theorem evOp_nat (slot : Option Nat) (o : Oper) : evOp P ty C slot o st K = (evOp P ty C slot o st pairK).bind (unK K) := by
  unfold evOp
  split
  all_goals first
    | exact evBuild_nat _ _
    | exact evBuildSlice_nat _ _ _ _
    | exact evBin_nat _ _ _ _
    | exact evUn_nat _ _
    | exact evConvert_nat _ _ _ _
    | exact evMake_nat _ _ _ _
    | exact evSlice_nat _ _ _ _ _
    | exact evFieldAddr_nat _ _ _
    | exact evField_nat _ _ _
    | exact evIndexAddr_nat _ _ _
    | exact evIndex_nat _ _ _
    | (split <;> first | exact evLoad_nat _ _ | rfl)
    | (split <;> first | (rw [bsel_bind, ← evStore_nat]; rfl) | exact evStore_nat _ _ _ | rfl)
    | skip
  all_goals try (repeat' split)
  all_goals try simp only [bsel_bind, none_bind', some_bind', pairK, unK]
  all_goals first
    | exact evAppend_nat _ _ _ _ _
    | exact evCall_nat _ _ _
    | rfl

theorem evOp_mono {slot : Option Nat} {o : Oper} {K K' : U → St → Option ρ} {r : ρ} (hk : ∀ u s, K u s = some r → K' u s = some r) (h : evOp P ty C slot o st K = some r) : evOp P ty C slot o st K' = some r := by
  rw [evOp_nat] at h ⊢
  cases hp : evOp P ty C slot o st pairK with
  | none => rw [hp] at h; cases h
  | some p => rw [hp] at h; exact hk _ _ h

theorem evOps_mono {ops : Array Oper} {K K' : St → Option ρ} {r : ρ} (hk : ∀ s, K s = some r → K' s = some r) : ∀ (l : List Nat) (st : St), evOps P ty C ops l st K = some r → evOps P ty C ops l st K' = some r
  | [], st, h => hk _ h
  | i :: l, st, h => by
    simp only [evOps] at h ⊢
    cases ho : ops[i]? with
    | none => rw [ho] at h; exact evOps_mono hk l st h
    | some o =>
      rw [ho] at h
      simp only at h ⊢
      split at h
      · exact evOp_mono (fun u s hs => evOps_mono hk l _ hs) h
      · rename_i g b _
        split at h
        · cases h
        · rename_i d _
          split at h
          · rename_i c hc
            cases hcb : (c == b) with
            | true => rw [hcb, bsel_true] at h; rw [bsel_true]; exact evOp_mono (fun u s hs => evOps_mono hk l _ hs) h
            | false => rw [hcb, bsel_false] at h; rw [bsel_false]; exact evOps_mono hk l _ h
          · exact evOps_mono hk l _ h
          · cases h

end
end Go.Proofs.Ytjbilidfnfnpfaa.R
