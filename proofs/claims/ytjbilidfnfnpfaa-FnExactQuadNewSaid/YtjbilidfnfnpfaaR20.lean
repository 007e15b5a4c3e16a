/-
  The own reflective walk, part 20: an operation on a heap that tells more answers the same.
-/
import Derived.Test.YtjbilidfnfnpfaaR18
namespace Go.Proofs.Ytjbilidfnfnpfaa.R
open Go
noncomputable section
set_option linter.unusedVariables false
set_option linter.unusedSimpArgs false

/-- The second heap tells what the first tells, and may tell more where the first has a free place. -/
def HInf (H H' : List HO) : Prop := H.length = H'.length ∧ ∀ (o : Nat) (ob : HO), H[o]? = some ob → ob = .free ∨ H'[o]? = some ob

section
variable {P : Program} {ty : TypeId → Option TI} {C : Env} {st st' st1 : St} {u : U} {k : Nat}

theorem HInf.box {H H' : List HO} (h : HInf H H') {o : Nat} {cs : List U} (ho : H[o]? = some (.box cs)) : H'[o]? = some (.box cs) := by
  rcases h.2 o _ ho with e | e
  · cases e
  · exact e
theorem HInf.arr {H H' : List HO} (h : HInf H H') {o sz n : Nat} {g : Nat → F} (ho : H[o]? = some (.arr sz n g)) : H'[o]? = some (.arr sz n g) := by
  rcases h.2 o _ ho with e | e
  · cases e
  · exact e

/-- What an answer on the poorer heap says of the richer one. -/
def Same (k : Nat) (st st' : St) (f : St → Option (U × St)) : Prop :=
  ∀ u st1, f st = some (u, st1) → ∃ ob, st1 = ⟨st.tmps, st.heap.set k ob⟩ ∧ f st' = some (u, ⟨st'.tmps, st'.heap.set k ob⟩)

theorem set_free {H : List HO} (h : H[k]? = some .free) : H.set k .free = H := by
  apply List.ext_getElem?
  intro i
  by_cases hi : k = i
  · subst hi; rw [h]; simp [(List.getElem?_eq_some_iff.1 h).1]
  · rw [List.getElem?_set_ne hi]

theorem same_read (hk : st.heap[k]? = some .free) (hk' : st'.heap[k]? = some .free) {x : U} (e : some (x, st) = some (u, st1)) :
    ∃ ob, st1 = ⟨st.tmps, st.heap.set k ob⟩ ∧ some (x, st') = some (u, (⟨st'.tmps, st'.heap.set k ob⟩ : St)) := by
  cases e
  exact ⟨.free, by rw [set_free hk], by rw [set_free hk']⟩

theorem evLoad_same (hH : HInf st.heap st'.heap) (hk : st.heap[k]? = some .free) (hk' : st'.heap[k]? = some .free) (ti : TI) (u : U) : Same k st st' fun st => evLoad ti u st pairK := by
  intro v st1 h
  simp only at h ⊢
  unfold evLoad at h ⊢
  split at h
  · split at h
    · rename_i ho
      replace h := bsel_some h; obtain ⟨h1, h⟩ := h
      replace h := bsel_some h; obtain ⟨h2, h⟩ := h
      simp only [hH.box ho, h1, h2, bsel_true]
      exact same_read hk hk' h
    · cases h
  · replace h := bsel_some h; obtain ⟨h1, h⟩ := h
    replace h := bsel_some h; obtain ⟨h2, h⟩ := h
    replace h := bsel_some h; obtain ⟨h3, h⟩ := h
    simp only [h1, h2, h3, bsel_true]
    exact same_read hk hk' h
  · split at h
    · rename_i ho
      replace h := bsel_some h; obtain ⟨h1, h⟩ := h
      replace h := bsel_some h; obtain ⟨h2, h⟩ := h
      replace h := bsel_some h; obtain ⟨h3, h⟩ := h
      replace h := bsel_some h; obtain ⟨h4, h⟩ := h
      replace h := bsel_some h; obtain ⟨h5, h⟩ := h
      replace h := bsel_some h; obtain ⟨h6, h⟩ := h
      simp only [hH.arr ho, h1, h2, h3, h4, h5, h6, bsel_true]
      exact same_read hk hk' h
    · cases h
  · cases h

theorem evIndexAddr_same (hH : HInf st.heap st'.heap) (hk : st.heap[k]? = some .free) (hk' : st'.heap[k]? = some .free) (t : TypeId) (x ix : U) : Same k st st' fun st => evIndexAddr ty t x ix st pairK := by
  intro v st1 h
  simp only at h ⊢
  unfold evIndexAddr at h ⊢
  split at h
  · rename_i hti
    split at h
    · split at h
      · rename_i hte
        replace h := bsel_some h; obtain ⟨h1, h⟩ := h
        replace h := bsel_some h; obtain ⟨h2, h⟩ := h
        replace h := bsel_some h; obtain ⟨h3, h⟩ := h
        simp only [hte, h1, h2, h3, bsel_true]
        exact same_read hk hk' h
      · rename_i hte
        split at h
        · rename_i ho
          replace h := bsel_some h; obtain ⟨h1, h⟩ := h
          replace h := bsel_some h; obtain ⟨h2, h⟩ := h
          replace h := bsel_some h; obtain ⟨h3, h⟩ := h
          replace h := bsel_some h; obtain ⟨h4, h⟩ := h
          simp only [hte, hH.arr ho, h1, h2, h3, h4, bsel_true]
          exact same_read hk hk' h
        · cases h
      · cases h
    · split at h
      · rename_i hte
        split at h
        · rename_i ho
          replace h := bsel_some h; obtain ⟨h1, h⟩ := h
          replace h := bsel_some h; obtain ⟨h2, h⟩ := h
          simp only [hte, hH.box ho, h1, h2, bsel_true]
          exact same_read hk hk' h
        · cases h
      · rename_i hte
        replace h := bsel_some h; obtain ⟨h1, h⟩ := h
        replace h := bsel_some h; obtain ⟨h2, h⟩ := h
        replace h := bsel_some h; obtain ⟨h3, h⟩ := h
        simp only [hte, h1, h2, h3, bsel_true]
        exact same_read hk hk' h
      · cases h
    · cases h
  · cases h

theorem evFieldAddr_same (hH : HInf st.heap st'.heap) (hk : st.heap[k]? = some .free) (hk' : st'.heap[k]? = some .free) (t : TypeId) (x : U) (f : Nat) : Same k st st' fun st => evFieldAddr ty t x f st pairK := by
  intro v st1 h
  simp only at h ⊢
  unfold evFieldAddr at h ⊢
  split at h
  · split at h
    · split at h
      · split at h
        · replace h := bsel_some h; obtain ⟨h1, h⟩ := h
          simp only [h1, bsel_true]
          split at h
          · split at h
            · rename_i ho
              simp only [hH.box ho]
              exact same_read hk hk' h
            · cases h
          · replace h := bsel_some h; obtain ⟨h2, h⟩ := h
            simp only [h2, bsel_true]
            exact same_read hk hk' h
          · split at h
            · rename_i ho
              replace h := bsel_some h; obtain ⟨h2, h⟩ := h
              simp only [hH.arr ho, h2, bsel_true]
              exact same_read hk hk' h
            · cases h
          · cases h
        · cases h
      · cases h
    · cases h
  · cases h
theorem evField_same (hk : st.heap[k]? = some .free) (hk' : st'.heap[k]? = some .free) (t : TypeId) (x : U) (f : Nat) : Same k st st' fun st => evField ty t x f st pairK := by
  intro v st1 h
  simp only at h ⊢
  unfold evField at h ⊢
  split at h
  · split at h
    · split at h
      · split at h
        · replace h := bsel_some h; obtain ⟨h1, h⟩ := h
          simp only [h1, bsel_true]
          exact same_read hk hk' h
        · cases h
      · cases h
    · cases h
  · cases h
theorem evIndex_same (hk : st.heap[k]? = some .free) (hk' : st'.heap[k]? = some .free) (t : TypeId) (x ix : U) : Same k st st' fun st => evIndex ty t x ix st pairK := by
  intro v st1 h
  simp only at h ⊢
  unfold evIndex at h ⊢
  split at h
  · split at h
    · replace h := bsel_some h; obtain ⟨h1, h⟩ := h
      replace h := bsel_some h; obtain ⟨h2, h⟩ := h
      simp only [h1, h2, bsel_true]
      exact same_read hk hk' h
    · cases h
  · cases h
theorem evUn_same (hk : st.heap[k]? = some .free) (hk' : st'.heap[k]? = some .free) (op : UnOp) (x : U) : Same k st st' fun st => evUn op x st pairK := by
  intro v st1 h
  simp only at h ⊢
  unfold evUn at h ⊢
  split at h
  all_goals first | exact same_read hk hk' h | cases h
theorem evBuild_same (hk : st.heap[k]? = some .free) (hk' : st'.heap[k]? = some .free) (t : TypeId) (ps : List (Nat × U)) : Same k st st' fun st => evBuild ty t ps st pairK := by
  intro v st1 h
  simp only at h ⊢
  unfold evBuild at h ⊢
  split at h
  · split at h
    · split at h
      · split at h
        · exact same_read hk hk' h
        · cases h
      · cases h
    · split at h
      · split at h
        · exact same_read hk hk' h
        · cases h
      · cases h
    · cases h
  · cases h

theorem new_slot (st : St) (k : Nat) (ob : HO) : st.new (some k) ob = (k, ⟨st.tmps, st.heap.set k ob⟩) := rfl
theorem same_new {x : U} {ob : HO} (e : some (x, (⟨st.tmps, st.heap.set k ob⟩ : St)) = some (u, st1)) :
    ∃ ob, st1 = ⟨st.tmps, st.heap.set k ob⟩ ∧ some (x, (⟨st'.tmps, st'.heap.set k ob⟩ : St)) = some (u, (⟨st'.tmps, st'.heap.set k ob⟩ : St)) := by
  cases e
  exact ⟨ob, rfl, rfl⟩
theorem evMake_same (t : TypeId) (l c : U) : Same k st st' fun st => evMake ty (some k) t l c st pairK := by
  intro v st1 h
  simp only at h ⊢
  unfold evMake at h ⊢
  split at h
  · split at h
    · split at h
      · split at h
        · replace h := bsel_some h; obtain ⟨h1, h⟩ := h
          replace h := bsel_some h; obtain ⟨h2, h⟩ := h
          replace h := bsel_some h; obtain ⟨h3, h⟩ := h
          replace h := bsel_some h; obtain ⟨h4, h⟩ := h
          simp only [h1, h2, h3, h4, bsel_true]
          cases h
          exact ⟨_, rfl, rfl⟩
        · cases h
      · cases h
    · cases h
  · cases h
theorem elemsC_same {H H' : List HO} (hH : HInf H H') {ρ : Type} {x : U} {K : Nat → (Nat → F) → Option ρ} {r : ρ} (h : elemsC H x K = some r) : ∃ n g, (∀ K' : Nat → (Nat → F) → Option ρ, elemsC H' x K' = K' n g) ∧ K n g = some r := by
  unfold elemsC at h
  split at h
  · exact ⟨_, _, fun K' => rfl, h⟩
  · split at h
    · rename_i ho
      replace h := bsel_some h; obtain ⟨h1, h⟩ := h
      exact ⟨_, _, fun K' => by simp only [elemsC, hH.arr ho, h1, bsel_true], h⟩
    · cases h
  · exact ⟨_, _, fun K' => rfl, h⟩
  · cases h

theorem evConvert_same (hH : HInf st.heap st'.heap) (hk : st.heap[k]? = some .free) (hk' : st'.heap[k]? = some .free) (a b : TypeId) (x : U) : Same k st st' fun st => evConvert ty (some k) a b x st pairK := by
  intro v st1 h
  simp only at h ⊢
  unfold evConvert at h ⊢
  split at h
  · split at h
    · exact same_read hk hk' h
    · exact same_read hk hk' h
    · split at h
      · split at h
        · replace h := bsel_some h; obtain ⟨h1, h⟩ := h
          replace h := bsel_some h; obtain ⟨h2, h⟩ := h
          simp only [h1, h2, bsel_true]
          cases h
          exact ⟨_, rfl, rfl⟩
        · cases h
      · cases h
    · split at h
      · split at h
        · obtain ⟨n, g, hK, h⟩ := elemsC_same hH h
          replace h := bsel_some h; obtain ⟨h1, h⟩ := h
          replace h := bsel_some h; obtain ⟨h2, h⟩ := h
          simp only [hK, h1, h2, bsel_true]
          exact same_read hk hk' h
        · cases h
      · cases h
    · cases h
  · cases h
theorem evSlice_same (hH : HInf st.heap st'.heap) (hk : st.heap[k]? = some .free) (hk' : st'.heap[k]? = some .free) (t : TypeId) (x : U) (lo hi mx : Option U) : Same k st st' fun st => evSlice ty t x lo hi mx st pairK := by
  intro v st1 h
  simp only at h ⊢
  unfold evSlice at h ⊢
  split at h
  · cases h
  · split at h
    · split at h
      · replace h := bsel_some h; obtain ⟨h1, h⟩ := h
        replace h := bsel_some h; obtain ⟨h2, h⟩ := h
        replace h := bsel_some h; obtain ⟨h3, h⟩ := h
        simp only [h1, h2, h3, bsel_true]
        exact same_read hk hk' h
      · cases h
    · split at h
      · replace h := bsel_some h; obtain ⟨h1, h⟩ := h
        replace h := bsel_some h; obtain ⟨h2, h⟩ := h
        replace h := bsel_some h; obtain ⟨h3, h⟩ := h
        replace h := bsel_some h; obtain ⟨h4, h⟩ := h
        simp only [h1, h2, h3, h4, bsel_true]
        exact same_read hk hk' h
      · replace h := bsel_some h; obtain ⟨h1, h⟩ := h
        replace h := bsel_some h; obtain ⟨h2, h⟩ := h
        replace h := bsel_some h; obtain ⟨h3, h⟩ := h
        simp only [h1, h2, h3, bsel_true]
        exact same_read hk hk' h
      · cases h
    · split at h
      · rename_i ho hte
        replace h := bsel_some h; obtain ⟨h1, h⟩ := h
        replace h := bsel_some h; obtain ⟨h2, h⟩ := h
        simp only [hH.arr ho, hte, h1, h2, bsel_true]
        split at h
        · replace h := bsel_some h; obtain ⟨h3, h⟩ := h
          replace h := bsel_some h; obtain ⟨h4, h⟩ := h
          replace h := bsel_some h; obtain ⟨h5, h⟩ := h
          simp only [h3, h4, h5, bsel_true]
          exact same_read hk hk' h
        · replace h := bsel_some h; obtain ⟨h3, h⟩ := h
          replace h := bsel_some h; obtain ⟨h4, h⟩ := h
          replace h := bsel_some h; obtain ⟨h5, h⟩ := h
          simp only [h3, h4, h5, bsel_true]
          exact same_read hk hk' h
        · cases h
      · cases h
    · split at h
      · replace h := bsel_some h; obtain ⟨h1, h⟩ := h
        replace h := bsel_some h; obtain ⟨h2, h⟩ := h
        simp only [h1, h2, bsel_true]
        exact same_read hk hk' h
      · replace h := bsel_some h; obtain ⟨h1, h⟩ := h
        replace h := bsel_some h; obtain ⟨h2, h⟩ := h
        replace h := bsel_some h; obtain ⟨h3, h⟩ := h
        simp only [h1, h2, h3, bsel_true]
        exact same_read hk hk' h
      · cases h
    · cases h

theorem evBin_same (hH : HInf st.heap st'.heap) (hk : st.heap[k]? = some .free) (hk' : st'.heap[k]? = some .free) (op : BinOp) (t : TypeId) (x y : U) : Same k st st' fun st => evBin P op t x y st pairK := by
  intro v st1 h
  simp only at h ⊢
  unfold evBin at h ⊢
  split at h
  · split at h
    · replace h := bsel_some h; obtain ⟨h1, h⟩ := h
      simp only [h1, bsel_true]
      exact same_read hk hk' h
    · replace h := bsel_some h; obtain ⟨h1, h⟩ := h
      simp only [h1, bsel_true]
      exact same_read hk hk' h
    · replace h := bsel_some h; obtain ⟨h1, h⟩ := h
      simp only [h1, bsel_true]
      split at h
      all_goals first
        | exact same_read hk hk' h
        | (replace h := bsel_some h; obtain ⟨h2, h⟩ := h; simp only [h2, bsel_true]; exact same_read hk hk' h)
        | cases h
  · split at h
    all_goals first
      | exact same_read hk hk' h
      | (replace h := bsel_some h; obtain ⟨h2, h⟩ := h; simp only [h2, bsel_true]; exact same_read hk hk' h)
      | cases h
  · replace h := bsel_some h; obtain ⟨h1, h⟩ := h
    simp only [h1, bsel_true]
    split at h
    all_goals first
      | exact same_read hk hk' h
      | cases h
  · replace h := bsel_some h; obtain ⟨h1, h⟩ := h
    simp only [h1, bsel_true]
    split at h
    all_goals first
      | exact same_read hk hk' h
      | cases h
  · split at h
    · rename_i ho
      replace h := bsel_some h; obtain ⟨h1, h⟩ := h
      simp only [hH.box ho, h1, bsel_true]
      split at h
      all_goals first
        | exact same_read hk hk' h
        | cases h
    · cases h
  · split at h
    · rename_i ho
      replace h := bsel_some h; obtain ⟨h1, h⟩ := h
      simp only [hH.box ho, h1, bsel_true]
      split at h
      all_goals first
        | exact same_read hk hk' h
        | cases h
    · cases h
  · replace h := bsel_some h; obtain ⟨h1, h⟩ := h
    simp only [h1, bsel_true]
    split at h
    · split at h
      · split at h
        all_goals first
          | exact same_read hk hk' h
          | cases h
      · cases h
    · cases h

theorem elems_same {H H' : List HO} (hH : HInf H H') {x : U} {p : Nat × (Nat → F)} (h : elems H x = some p) : elems H' x = some p := by
  unfold elems at h ⊢
  split at h
  · exact h
  · exact h
  · split at h
    · rename_i ho
      simp only [hH.arr ho]
      exact h
    · cases h
  · exact h
  · cases h
theorem appElems_same {H H' : List HO} (hH : HInf H H') {te tj : TI} {x : U} {p : Nat × (Nat → F)} (h : appElems te tj H x = some p) : appElems te tj H' x = some p := by
  unfold appElems at h ⊢
  split at h
  · exact h
  · cases h
  · exact elems_same hH h
theorem evAppend_same (hH : HInf st.heap st'.heap) (hk : st.heap[k]? = some .free) (hk' : st'.heap[k]? = some .free) (ts tx : TypeId) (s x : U) : Same k st st' fun st => evAppend ty (some k) ts tx s x st pairK := by
  intro v st1 h
  simp only at h ⊢
  unfold evAppend at h ⊢
  split at h
  · split at h
    · split at h
      · split at h
        · cases h
        · rename_i he
          simp only [appElems_same hH he]
          replace h := bsel_some h; obtain ⟨h1, h⟩ := h
          replace h := bsel_some h; obtain ⟨h2, h⟩ := h
          simp only [h1, h2, bsel_true]
          split at h
          · rename_i m g' _
            cases hm : decide (m = 0) with
            | true =>
              rw [hm, bsel_true] at h
              simp only [bsel_true]
              exact same_read hk hk' h
            | false =>
              rw [hm, bsel_false] at h
              replace h := bsel_some h; obtain ⟨h3, h⟩ := h
              simp only [bsel_false, h3, bsel_true]
              cases h
              exact ⟨_, rfl, rfl⟩
          · split at h
            · cases h
            · cases h
          · cases h
      · cases h
    · cases h
  · cases h

mutual
theorem toF_same {H H' : List HO} (hH : HInf H H') : ∀ (u : U) (x : F), toF H u = some x → toF H' u = some x
  | .f y, x, h => h
  | .agg us, x, h => by
    simp only [toF] at h ⊢
    cases hx : toFs H us with
    | none => rw [hx] at h; cases h
    | some xs => rw [toFs_same hH us xs hx]; rw [hx] at h; exact h
  | .tup us, x, h => by
    simp only [toF] at h ⊢
    cases hx : toFs H us with
    | none => rw [hx] at h; cases h
    | some xs => rw [toFs_same hH us xs hx]; rw [hx] at h; exact h
  | .nils, x, h => h
  | .hs o gen off len, x, h => by
    simp only [toF] at h ⊢
    split at h
    · rename_i ho
      simp only [hH.arr ho]
      exact h
    · cases h
  | .hp _ _, x, h => by simp only [toF] at h; cases h
  | .ep _ _ _ _, x, h => by simp only [toF] at h; cases h
  | .va _, x, h => by simp only [toF] at h; cases h
  | .nilp, x, h => by simp only [toF] at h; cases h
  | .fn _ _, x, h => by simp only [toF] at h; cases h
  | .nilfn, x, h => by simp only [toF] at h; cases h
  | .undef, x, h => by simp only [toF] at h; cases h
  | .bad, x, h => by simp only [toF] at h; cases h
theorem toFs_same {H H' : List HO} (hH : HInf H H') : ∀ (us : List U) (xs : List F), toFs H us = some xs → toFs H' us = some xs
  | [], xs, h => h
  | u :: us, xs, h => by
    simp only [toFs] at h ⊢
    split at h
    · rename_i x xs' hx hxs
      rw [toF_same hH u x hx, toFs_same hH us xs' hxs]
      exact h
    · cases h
end

mutual
theorem toFC_eq {ρ : Type} {H : List HO} : ∀ (u : U) (x : F) (K : F → Option ρ), toF H u = some x → toFC H u K = K x
  | .f y, x, K, h => by cases h; rfl
  | .agg us, x, K, h => by
    simp only [toF] at h
    cases hx : toFs H us with
    | none => rw [hx] at h; cases h
    | some xs =>
      rw [hx] at h; cases h
      simp only [toFC]
      exact toFsC_eq us xs _ hx
  | .tup us, x, K, h => by
    simp only [toF] at h
    cases hx : toFs H us with
    | none => rw [hx] at h; cases h
    | some xs =>
      rw [hx] at h; cases h
      simp only [toFC]
      exact toFsC_eq us xs _ hx
  | .nils, x, K, h => by cases h; rfl
  | .hs o gen off len, x, K, h => by
    simp only [toF] at h
    split at h
    · rename_i ho
      split at h
      · rename_i hg
        cases h
        simp only [toFC, ho, decide_eq_true hg]
        rfl
      · cases h
    · cases h
  | .hp _ _, x, K, h => by simp only [toF] at h; cases h
  | .ep _ _ _ _, x, K, h => by simp only [toF] at h; cases h
  | .va _, x, K, h => by simp only [toF] at h; cases h
  | .nilp, x, K, h => by simp only [toF] at h; cases h
  | .fn _ _, x, K, h => by simp only [toF] at h; cases h
  | .nilfn, x, K, h => by simp only [toF] at h; cases h
  | .undef, x, K, h => by simp only [toF] at h; cases h
  | .bad, x, K, h => by simp only [toF] at h; cases h
theorem toFsC_eq {ρ : Type} {H : List HO} : ∀ (us : List U) (xs : List F) (K : List F → Option ρ), toFs H us = some xs → toFsC H us K = K xs
  | [], xs, K, h => by cases h; rfl
  | u :: us, xs, K, h => by
    simp only [toFs] at h
    split at h
    · rename_i x xs' hx hxs
      cases h
      simp only [toFsC]
      rw [toFC_eq u x _ hx, toFsC_eq us xs' _ hxs]
    · cases h
end
theorem kill_none {us : List U} (h : (objsAll us).isEmpty = true) (H : List HO) : killAll H (objsAll us) = H := by
  rw [List.isEmpty_iff.1 h]; rfl
theorem place_same (hk : st.heap[k]? = some .free) (hk' : st'.heap[k]? = some .free) (x : F) :
    ∃ ob, ({ st with heap := (place st.heap (some k) x).2 } : St) = ⟨st.tmps, st.heap.set k ob⟩ ∧ pairK (place st'.heap (some k) x).1 ({ st' with heap := (place st'.heap (some k) x).2 } : St) = some ((place st.heap (some k) x).1, (⟨st'.tmps, st'.heap.set k ob⟩ : St)) := by
  have key : ∀ obs : List HO, ∃ ob, newObs st.heap (some k) obs = st.heap.set k ob ∧ newObs st'.heap (some k) obs = st'.heap.set k ob := by
    intro obs
    match obs with
    | [ob] => exact ⟨ob, rfl, rfl⟩
    | [] => exact ⟨.free, (set_free hk).symm, (set_free hk').symm⟩
    | _ :: _ :: _ => exact ⟨.free, (set_free hk).symm, (set_free hk').symm⟩
  have none' : ∃ ob, (⟨st.tmps, st.heap⟩ : St) = ⟨st.tmps, st.heap.set k ob⟩ ∧ pairK .bad (⟨st'.tmps, st'.heap⟩ : St) = some (.bad, (⟨st'.tmps, st'.heap.set k ob⟩ : St)) := ⟨.free, by rw [set_free hk], by rw [set_free hk']; rfl⟩
  cases x with
  | tup es =>
    match es with
    | [e] => obtain ⟨ob, h1, h2⟩ := key (obsOf (flatF [e])); exact ⟨ob, by simp only [place, h1], by simp only [place, h2, newAt]; rfl⟩
    | [] => obtain ⟨ob, h1, h2⟩ := key (obsOf (flatF [])); exact ⟨ob, by simp only [place, h1], by simp only [place, h2, newAt]; rfl⟩
    | e1 :: e2 :: es => obtain ⟨ob, h1, h2⟩ := key (obsOf (flatF (e1 :: e2 :: es))); exact ⟨ob, by simp only [place, h1], by simp only [place, h2, newAt]; rfl⟩
  | _ => exact none'
theorem evCall_same (hH : HInf st.heap st'.heap) (hk : st.heap[k]? = some .free) (hk' : st'.heap[k]? = some .free) (f : FuncId) (us : List U) : Same k st st' fun st => evCall C (some k) f us st pairK := by
  intro v st1 h
  simp only at h ⊢
  unfold evCall at h ⊢
  split at h
  · cases h
  · obtain ⟨xs, hxs, h⟩ := toFsC_some _ _ h
    rw [toFsC_eq us xs _ (toFs_same hH us xs hxs)]
    replace h := bsel_some h; obtain ⟨h1, h⟩ := h
    simp only [h1, bsel_true]
    cases hs : scalar _ with
    | true =>
      rw [hs, bsel_true] at h
      simp only [bsel_true]
      exact same_read hk hk' h
    | false =>
      rw [hs, bsel_false] at h
      replace h := bsel_some h; obtain ⟨h2, h⟩ := h
      simp only [bsel_false, h2, bsel_true]
      have h3 : (objsAll us).isEmpty = true := by simpa using h2
      rw [kill_none h3] at h
      rw [kill_none h3]
      exact same_read hk hk' h
  · replace h := bsel_some h; obtain ⟨h1, h⟩ := h
    simp at h1
  · repeat' split at h
    all_goals first
      | cases h; done
      | (replace h := bsel_some h; obtain ⟨h1, h⟩ := h; simp at h1)
  · split at h
    · replace h := bsel_some h; obtain ⟨h1, h⟩ := h
      simp at h1
    · cases h
  · rename_i pre c r1 r2 he
    obtain ⟨xs, hxs, h⟩ := toFsC_some _ _ h
    rw [toFsC_eq us xs _ (toFs_same hH us xs hxs)]
    replace h := bsel_some h; obtain ⟨h1, h⟩ := h
    simp only [h1, bsel_true]
    cases hc : c xs with
    | true =>
      rw [hc, bsel_true] at h
      simp only [bsel_true]
      cases h
      exact place_same hk hk' (r1 xs)
    | false =>
      rw [hc, bsel_false] at h
      simp only [bsel_false]
      cases h
      exact place_same hk hk' (r2 xs)
  · repeat' split at h
    all_goals first
      | cases h; done
      | (replace h := bsel_some h; obtain ⟨h1, h⟩ := h; simp at h1)
  · repeat' split at h
    all_goals first
      | cases h; done
      | (replace h := bsel_some h; obtain ⟨h1, h⟩ := h; simp at h1)

theorem evBuildSlice_same (hH : HInf st.heap st'.heap) (t : TypeId) (n : Nat) (ps : List (Nat × U)) : Same k st st' fun st => evBuildSlice ty (some k) t n ps st pairK := by
  intro v st1 h
  simp only at h ⊢
  unfold evBuildSlice at h ⊢
  split at h
  · split at h
    · split at h
      · split at h
        · rename_i us hus
          split at h
          · rename_i xs hxs
            simp only [toFs_same hH us xs hxs]
            replace h := bsel_some h; obtain ⟨h1, h⟩ := h
            have h3 : (objsAll us).isEmpty = true := by
              simp only [Bool.and_eq_true] at h1
              simpa using h1.2
            simp only [kill_none h3] at h ⊢
            simp only [h1, bsel_true]
            cases h
            exact ⟨_, rfl, rfl⟩
          · cases h
        · cases h
      · cases h
    · cases h
  · cases h
end
end
end Go.Proofs.Ytjbilidfnfnpfaa.R
